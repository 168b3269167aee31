/- The models of some functions and their walks (printed by a program of this repo). -/
import Derived.Test.YtlmopoaeekhmeaaGreatDoorF0
import Derived.Test.YtlmopoaeekhmeaaGreatDoorF3
import Derived.Test.YtlmopoaeekhmeaaGreatDoorF4
import Derived.Test.YtlmopoaeekhmeaaGreatDoorFS
import Derived.Test.YtlmopoaeekhmeaaGreatDoorGxT
import Derived.Test.YtlmopoaeekhmeaaGreatDoorGxY
namespace Go.Proofs.YtlmopoaeekhmeaaGreatDoor
open Go.RowKit Go.Gx

/-- impl.ValidLts -/
def impl_ValidLts_m (fuel : Nat) (a0 : Timpl_Lts) : Option (Bool) :=
  (impl_within_m fuel a0.1 (1 : Int) (40 : Int)).bind fun x54 => (if (!x54) = true then some true else (impl_Lts_isState_m fuel (a0.1, a0.2.1, a0.2.2.1, a0.2.2.2) a0.2.1).bind fun x62 => some (!x62)).bind fun t57 => (if t57 = true then some true else (impl_within_m fuel (a0.2.2.1.length : Int) (1 : Int) (12 : Int)).bind fun x70 => some (!x70)).bind fun t65 => (if t65 = true then some true else some (decide ((300 : Int) < (a0.2.2.2.length : Int)))).bind fun t73 => (if t73 = true then some (false) else (iter (fun (s : (Int)) => (match s with | (x104) => (if (decide (x104 < (a0.2.2.1.length : Int))) = true then (idx a0.2.2.1 x104).bind fun x350 => (impl_IsLabel_m fuel x350).bind fun x357 => (if (!x357) = true then some true else some ((x350 == ([116, 97, 117] : Str)) != (x104 == (0 : Int)))).bind fun t360 => (if t360 = true then some true else (if (decide ((1 : Int) < x104)) = true then (idx a0.2.2.1 (W (x104 - (1 : Int)))).bind fun x369 => some (Op.bytesLess x350 x369 || x350 == x369) else some false).bind fun t366 => some t366).bind fun t363 => (if t363 = true then some (.inr (.inr false)) else some (.inl ((W (x104 + (1 : Int)))))) else some (.inr (.inl ()))) : Option (((Int)) ⊕ ((Unit) ⊕ (Bool))))) fuel ((0 : Int))).bind fun res132 => ctl (β := Unit) (ρ := Bool) (τ := Bool) res132 (fun _ => (iter (fun (s : (Int)) => (match s with | (x204) => (if (decide (x204 < (a0.2.2.2.length : Int))) = true then (idx a0.2.2.2 x204).bind fun x281 => (impl_Lts_isState_m fuel (a0.1, a0.2.1, a0.2.2.1, a0.2.2.2) x281.1).bind fun x302 => (if (!x302) = true then some true else (impl_Lts_isState_m fuel (a0.1, a0.2.1, a0.2.2.1, a0.2.2.2) x281.2.2).bind fun x310 => some (!x310)).bind fun t305 => (if t305 = true then some true else (impl_index_m fuel x281.2.1 (a0.2.2.1.length : Int)).bind fun x318 => some (!x318)).bind fun t313 => (if t313 = true then some true else (if (decide ((0 : Int) < x204)) = true then (idx a0.2.2.2 (W (x204 - (1 : Int)))).bind fun x327 => (impl_compareEdges_m fuel (x327.1, x327.2.1, x327.2.2) (x281.1, x281.2.1, x281.2.2)).bind fun x342 => some (decide ((0 : Int) ≤ x342)) else some false).bind fun t324 => some t324).bind fun t321 => (if t321 = true then some (.inr (.inr false)) else some (.inl ((W (x204 + (1 : Int)))))) else some (.inr (.inl ()))) : Option (((Int)) ⊕ ((Unit) ⊕ (Bool))))) fuel ((0 : Int))).bind fun res272 => ctl (β := Unit) (ρ := Bool) (τ := Bool) res272 (fun _ => some (true)) (fun q => some (q))) (fun q => some (q)))
set_option maxRecDepth 20000 in
theorem impl_ValidLts_ok {w0 : World} {fuel : Nat} {p0 : Value} {a0 : Timpl_Lts} {r : Bool} (hG : GlobE Tryz.prog w0) (h0 : Rd Rimpl_Lts w0 p0 a0) (hm : impl_ValidLts_m fuel a0 = some r) :
  Calls Tryz.prog 14 #[p0] w0 fun e w => e = .returned (.bool r) ∧ Heap w0 [] w := by
 unfold impl_ValidLts_m at hm
 have H := Heap.start w0
 obtain ⟨c31, rfl, h32⟩ := h0
 obtain ⟨c37, c38, rfl, h39, h40⟩ := h32
 obtain rfl := h39
 obtain ⟨c41, c42, rfl, h43, h44⟩ := h40
 obtain rfl := h43
 obtain ⟨c45, c46, rfl, h47, h48⟩ := h44
 obtain ⟨v33, rfl, h34⟩ := rd_list h47
 obtain ⟨v35, rfl, h36⟩ := rd_list h48
 refine enter (args := [(.agg #[(.int .i64 a0.1), (.int .i64 a0.2.1), v33, v35])]) Tryz.func14 rfl 109 rfl (Nat.le_of_ble_eq_true rfl) (fun a S => ?_)
 refine wp_seq (region_plain ?_)
 refine lx_box S trivial (by decide) rfl H rfl rfl (fun b49 w50 H => ⟨trivial, fun a S => ?_⟩)
 refine lq (.bool false) S (q_assign rfl) fun a S => ?_
 refine lx_nil (thenN ?_)
 refine wp_seq (wp_seq (region_plain ?_))
 refine lq (pAdd (bp b49) 0) S (q_fieldAddr' 0 2 rfl (isP_bp _) Tryz.underlying25 rfl Tryz.sizeOf2) fun a S => ?_
 refine lx_e (.int .i64 a0.1) S trivial (by decide) rfl trivial (q_load1 rfl Tryz.isAgg2 (by rintro _ rfl; exact (At.of_add (m := 0) (j := 0) (boxAt (i := 0) H rfl (j := 0) rfl)))) (fun a S => ?_)
 obtain ⟨x54, e55, hm⟩ := bind_some hm
 refine lx_call (xs := [.tmp 8, .const (.int .i64 (1)), .const (.int .i64 (40))]) S trivial (by decide) rfl rfl Tryz.call29 ((impl_within_ok    e55).mono ?_)
 rintro e w52 ⟨rfl, Hc53⟩
 have H := H.call0 Hc53
 refine ⟨_, rfl, trivial, fun a S => ?_⟩
 refine lq (.bool (!x54)) S (q_not rfl) fun a S => ?_
 refine lq (.bool (!x54)) S (q_move rfl) fun a S => ?_
 obtain ⟨t57, e58, hm⟩ := bind_some hm
 refine lx_cut 6 (fun a w => Slots a 109 [(1, (bp b49)), (17, (.bool t57))] ∧ Heap w0 [bA b49 [(.int .i64 a0.1), (.int .i64 a0.2.1), v33, v35] 25] w) ?_ ?_
 ·by_cases hc59 : (!x54) = true
  ·have hm := ite_t hc59 e58
   refine lx_skip S rfl rfl (isB_ne hc59) (by decide) (fun a S => ?_)
   refine lx_skip S rfl rfl (isB_ne hc59) (by decide) (fun a S => ?_)
   refine lx_skip S rfl rfl (isB_ne hc59) (by decide) (fun a S => ?_)
   refine lx_skip S rfl rfl (isB_ne hc59) (by decide) (fun a S => ?_)
   refine lx_skip S rfl rfl (isB_ne hc59) (by decide) (fun a S => ?_)
   refine lq (.bool true) S (q_pickT' rfl hc59 rfl) fun a S => ?_
   refine lx_nil ?_
   obtain rfl := Option.some.inj hm
   exact ⟨S.sub ⟨rfl, rfl, trivial⟩, H⟩
  ·have hm := ite_f (eq_false_of_ne_true hc59) e58
   have hc59 : (!x54) = false := eq_false_of_ne_true hc59
   refine lx_e (.agg #[(.int .i64 a0.1), (.int .i64 a0.2.1), v33, v35]) S (want_b rfl rfl hc59) (by decide) rfl trivial (q_loadA (cs := [(.int .i64 a0.1), (.int .i64 a0.2.1), v33, v35]) rfl (isP_bp _) Tryz.isAgg25 Tryz.sizeOf25 (by rintro _ rfl; exact (fun j u hu => boxAt (i := 0) H rfl hu))) (fun a S => ?_)
   refine lx_q (pAdd (bp b49) 1) S (want_b rfl rfl hc59) (by decide) (q_fieldAddr' 1 2 rfl (isP_bp _) Tryz.underlying25 rfl Tryz.sizeOf2) (fun a S => ?_)
   refine lx_e (.int .i64 a0.2.1) S (want_b rfl rfl hc59) (by decide) rfl trivial (q_load1 rfl Tryz.isAgg2 (by rintro _ rfl; exact (At.of_add (m := 1) (j := 0) (boxAt (i := 0) H rfl (j := 1) rfl)))) (fun a S => ?_)
   obtain ⟨x62, e63, hm⟩ := bind_some hm
   refine lx_call (xs := [.tmp 12, .tmp 14]) S (want_b rfl rfl hc59) (by decide) rfl rfl Tryz.call30 ((impl_Lts_isState_ok ⟨[(.int .i64 a0.1), (.int .i64 a0.2.1), v33, v35], rfl, ⟨[(.int .i64 a0.1)], [(.int .i64 a0.2.1), v33, v35], rfl, rfl, ⟨[(.int .i64 a0.2.1)], [v33, v35], rfl, rfl, ⟨[v33], [v35], rfl, ((H.arg h34)).list_rd, ((H.arg h36)).list_rd⟩⟩⟩⟩  e63).mono ?_)
   rintro e w60 ⟨rfl, Hc61⟩
   have H := H.call0 Hc61
   refine ⟨_, rfl, trivial, fun a S => ?_⟩
   refine lx_q (.bool (!x62)) S (want_b rfl rfl hc59) (by decide) (q_not rfl) (fun a S => ?_)
   refine lq (.bool (!x62)) S (q_pickF' rfl hc59 rfl) fun a S => ?_
   refine lx_nil ?_
   obtain rfl := Option.some.inj hm
   exact ⟨S.sub ⟨rfl, rfl, trivial⟩, H⟩
 ·rintro a w ⟨S, H⟩
  refine lq (.bool t57) S (q_move rfl) fun a S => ?_
  obtain ⟨t65, e66, hm⟩ := bind_some hm
  refine lx_cut 6 (fun a w => Slots a 109 [(1, (bp b49)), (24, (.bool t65))] ∧ Heap w0 [bA b49 [(.int .i64 a0.1), (.int .i64 a0.2.1), v33, v35] 25] w) ?_ ?_
  ·by_cases hc67 : t57 = true
   ·have hm := ite_t hc67 e66
    refine lx_skip S rfl rfl (isB_ne hc67) (by decide) (fun a S => ?_)
    refine lx_skip S rfl rfl (isB_ne hc67) (by decide) (fun a S => ?_)
    refine lx_skip S rfl rfl (isB_ne hc67) (by decide) (fun a S => ?_)
    refine lx_skip S rfl rfl (isB_ne hc67) (by decide) (fun a S => ?_)
    refine lx_skip S rfl rfl (isB_ne hc67) (by decide) (fun a S => ?_)
    refine lq (.bool true) S (q_pickT' rfl hc67 rfl) fun a S => ?_
    refine lx_nil ?_
    obtain rfl := Option.some.inj hm
    exact ⟨S.sub ⟨rfl, rfl, trivial⟩, H⟩
   ·have hm := ite_f (eq_false_of_ne_true hc67) e66
    have hc67 : t57 = false := eq_false_of_ne_true hc67
    refine lx_q (pAdd (bp b49) 2) S (want_b rfl rfl hc67) (by decide) (q_fieldAddr' 2 22 rfl (isP_bp _) Tryz.underlying25 rfl Tryz.sizeOf22) (fun a S => ?_)
    refine lx_e v33 S (want_b rfl rfl hc67) (by decide) rfl trivial (q_load1 rfl Tryz.isAgg22 (by rintro _ rfl; exact (At.of_add (m := 2) (j := 0) (boxAt (i := 0) H rfl (j := 2) rfl)))) (fun a S => ?_)
    refine lx_q (.int .i64 (a0.2.2.1.length : Int)) S (want_b rfl rfl hc67) (by decide) (q_lenSl rfl (h34).isSl rfl Tryz.underlying22) (fun a S => ?_)
    obtain ⟨x70, e71, hm⟩ := bind_some hm
    refine lx_call (xs := [.tmp 21, .const (.int .i64 (1)), .const (.int .i64 (12))]) S (want_b rfl rfl hc67) (by decide) rfl rfl Tryz.call29 ((impl_within_ok    e71).mono ?_)
    rintro e w68 ⟨rfl, Hc69⟩
    have H := H.call0 Hc69
    refine ⟨_, rfl, trivial, fun a S => ?_⟩
    refine lx_q (.bool (!x70)) S (want_b rfl rfl hc67) (by decide) (q_not rfl) (fun a S => ?_)
    refine lq (.bool (!x70)) S (q_pickF' rfl hc67 rfl) fun a S => ?_
    refine lx_nil ?_
    obtain rfl := Option.some.inj hm
    exact ⟨S.sub ⟨rfl, rfl, trivial⟩, H⟩
  ·rintro a w ⟨S, H⟩
   refine lq (.bool t65) S (q_move rfl) fun a S => ?_
   obtain ⟨t73, e74, hm⟩ := bind_some hm
   refine lx_cut 5 (fun a w => Slots a 109 [(1, (bp b49)), (30, (.bool t73))] ∧ Heap w0 [bA b49 [(.int .i64 a0.1), (.int .i64 a0.2.1), v33, v35] 25] w) ?_ ?_
   ·by_cases hc75 : t65 = true
    ·have hm := ite_t hc75 e74
     refine lx_skip S rfl rfl (isB_ne hc75) (by decide) (fun a S => ?_)
     refine lx_skip S rfl rfl (isB_ne hc75) (by decide) (fun a S => ?_)
     refine lx_skip S rfl rfl (isB_ne hc75) (by decide) (fun a S => ?_)
     refine lx_skip S rfl rfl (isB_ne hc75) (by decide) (fun a S => ?_)
     refine lq (.bool true) S (q_pickT' rfl hc75 rfl) fun a S => ?_
     refine lx_nil ?_
     obtain rfl := Option.some.inj hm
     exact ⟨S.sub ⟨rfl, rfl, trivial⟩, H⟩
    ·have hm := ite_f (eq_false_of_ne_true hc75) e74
     have hc75 : t65 = false := eq_false_of_ne_true hc75
     refine lx_q (pAdd (bp b49) 3) S (want_b rfl rfl hc75) (by decide) (q_fieldAddr' 3 23 rfl (isP_bp _) Tryz.underlying25 rfl Tryz.sizeOf23) (fun a S => ?_)
     refine lx_e v35 S (want_b rfl rfl hc75) (by decide) rfl trivial (q_load1 rfl Tryz.isAgg23 (by rintro _ rfl; exact (At.of_add (m := 3) (j := 0) (boxAt (i := 0) H rfl (j := 3) rfl)))) (fun a S => ?_)
     refine lx_q (.int .i64 (a0.2.2.2.length : Int)) S (want_b rfl rfl hc75) (by decide) (q_lenSl rfl (h36).isSl rfl Tryz.underlying23) (fun a S => ?_)
     refine lx_q (.bool (decide ((300 : Int) < (a0.2.2.2.length : Int)))) S (want_b rfl rfl hc75) (by decide) (q_gtr rfl rfl) (fun a S => ?_)
     refine lq (.bool (decide ((300 : Int) < (a0.2.2.2.length : Int)))) S (q_pickF' rfl hc75 rfl) fun a S => ?_
     refine lx_nil ?_
     obtain rfl := Option.some.inj hm
     exact ⟨S.sub ⟨rfl, rfl, trivial⟩, H⟩
   ·rintro a w ⟨S, H⟩
    refine lx_nil (thenN ?_)
    refine cond_b S rfl (fun hc76 => ?_) (fun hc76 => ?_)
    ·have hm := ite_t hc76 hm
     refine wp_seq (region_plain ?_)
     refine lq (.bool false) S (q_assign rfl) fun a S => ?_
     refine lx_nil (thenN ?_)
     refine wp_ret (then_ret ?_)
     obtain rfl := Option.some.inj hm
     have H : Heap w0 [] w := H.sel [] (by decide)
     exact leave1 S rfl rfl ⟨rfl, H⟩
    ·have hm := ite_f hc76 hm
     refine wp_skip (thenN ?_)
     refine wp_seq (wp_seq (region_plain ?_))
     refine lq (pAdd (bp b49) 2) S (q_fieldAddr' 2 22 rfl (isP_bp _) Tryz.underlying25 rfl Tryz.sizeOf22) fun a S => ?_
     refine lx_e v33 S trivial (by decide) rfl trivial (q_load1 rfl Tryz.isAgg22 (by rintro _ rfl; exact (At.of_add (m := 2) (j := 0) (boxAt (i := 0) H rfl (j := 2) rfl)))) (fun a S => ?_)
     refine lq (.int .i64 (a0.2.2.1.length : Int)) S (q_lenSl rfl (h34).isSl rfl Tryz.underlying22) fun a S => ?_
     refine lq (.int .i64 (0 : Int)) S (q_move rfl) fun a S => ?_
     refine lx_nil (thenN ?_)
     obtain ⟨res132, hit133, hk136⟩ := bind_some hm
     obtain ⟨f134, hf135, hit133⟩ := iter_name hit133
     refine block_loop (fun a w => Slots a 109 [(1, (bp b49))] ∧ Heap w0 [bA b49 [(.int .i64 a0.1), (.int .i64 a0.2.1), v33, v35] 25] w ∧ res132 = .inl ()) ?_ ?_
     ·rintro a w ⟨S, H, rfl⟩
      have hm := ctl_inl hk136
      refine thenN ?_
      refine wp_seq (wp_seq (region_plain ?_))
      refine lq (pAdd (bp b49) 3) S (q_fieldAddr' 3 23 rfl (isP_bp _) Tryz.underlying25 rfl Tryz.sizeOf23) fun a S => ?_
      refine lx_e v35 S trivial (by decide) rfl trivial (q_load1 rfl Tryz.isAgg23 (by rintro _ rfl; exact (At.of_add (m := 3) (j := 0) (boxAt (i := 0) H rfl (j := 3) rfl)))) (fun a S => ?_)
      refine lq (.int .i64 (a0.2.2.2.length : Int)) S (q_lenSl rfl (h36).isSl rfl Tryz.underlying23) fun a S => ?_
      refine lq (.int .i64 (0 : Int)) S (q_move rfl) fun a S => ?_
      refine lx_nil (thenN ?_)
      obtain ⟨res272, hit273, hk276⟩ := bind_some hm
      obtain ⟨f274, hf275, hit273⟩ := iter_name hit273
      refine block_loop (fun a w => Slots a 109 [] ∧ Heap w0 [] w ∧ res272 = .inl ()) ?_ ?_
      ·rintro a w ⟨S, H, rfl⟩
       have hm := ctl_inl hk276
       refine thenN ?_
       refine wp_seq (region_plain ?_)
       refine lq (.bool true) S (q_assign rfl) fun a S => ?_
       refine lx_nil (thenN ?_)
       refine wp_ret ?_
       obtain rfl := Option.some.inj hm
       exact leave1 S rfl rfl ⟨rfl, H⟩
      ·skip
       refine loop_ghost (fun n a w => ∃ (x204 : Int), Slots a 109 [(1, (bp b49)), (65, v35), (66, (.int .i64 (a0.2.2.2.length : Int))), (67, (.int .i64 x204))] ∧ Heap w0 [bA b49 [(.int .i64 a0.1), (.int .i64 a0.2.1), v33, v35] 25] w ∧ iter f274 n (x204) = some res272) _ ⟨(0 : Int), S.sub ⟨rfl, rfl, rfl, rfl, trivial⟩, H, hit273⟩ ?_
       rintro n a w ⟨x204, S, H, hit273⟩
       obtain ⟨m277, o278, rfl, hm, hc279⟩ := iter_step hit273
       rw [hf275] at hm
       refine wp_seq (region_plain ?_)
       refine lq (.bool (decide (x204 < (a0.2.2.2.length : Int)))) S (q_lss rfl rfl) fun a S => ?_
       refine lx_nil (thenN ?_)
       refine wp_seq ?_
       refine cond_b S rfl (fun hc280 => ?_) (fun hc280 => ?_)
       ·have hm := ite_t hc280 hm
        refine wp_skip (thenN ?_)
        refine wp_seq ?_
        refine wp_block ?_
        refine wp_seq (region_plain ?_)
        refine lq (.int .i64 x204) S (q_move rfl) fun a S => ?_
        obtain ⟨x281, e282, hm⟩ := bind_some hm
        obtain ⟨c283, h284, hat285⟩ := (h36).elem (idx_some e282).2
        obtain ⟨c286, c287, rfl, h288, h289⟩ := h284
        obtain rfl := h288
        obtain ⟨c290, c291, rfl, h292, h293⟩ := h289
        obtain rfl := h292
        obtain rfl := h293
        have hlt := lt_of_idx (idx_some e282).2
        refine lq (ePtr v35 (x204.toNat * 3)) S (q_indexAddr rfl (h36).isSl rfl (idx_some e282).1 hlt Tryz.underlying23 Tryz.sizeOf48) fun a S => ?_
        refine lx_e (.agg #[(.int .i64 x281.1), (.int .i64 x281.2.1), (.int .i64 x281.2.2)]) S trivial (by decide) rfl trivial (q_loadA (cs := [(.int .i64 x281.1), (.int .i64 x281.2.1), (.int .i64 x281.2.2)]) rfl ((hat285 0 _ rfl).isP) Tryz.isAgg48 Tryz.sizeOf48 (by rintro _ rfl; exact (fun j u hu => (hat285 j u hu).ext H.ext))) (fun a S => ?_)
        refine lx_alloc S trivial (by decide) rfl H Tryz.zeroValue48 rfl (fun b294 w295 H => ⟨trivial, fun a S => ?_⟩)
        refine lq (.int .i64 x204) S (q_assign rfl) fun a S => ?_
        refine lx_storeBox (o := 0) (i := 0) (us := [(.int .i64 x281.1), (.int .i64 x281.2.1), (.int .i64 x281.2.2)]) (cs' := [(.int .i64 x281.1), (.int .i64 x281.2.1), (.int .i64 x281.2.2)]) S trivial rfl H rfl rfl rfl rfl Tryz.sizeOf48 (Nat.le_of_ble_eq_true rfl) (List.forall_mem_cons.2 ⟨rfl, (List.forall_mem_cons.2 ⟨rfl, (List.forall_mem_cons.2 ⟨rfl, (List.forall_mem_nil _)⟩)⟩)⟩) rfl (fun w297 H => ⟨trivial, fun a S => ?_⟩)
        change Heap w0 [bA b294 [(.int .i64 x281.1), (.int .i64 x281.2.1), (.int .i64 x281.2.2)] 48, bA b49 [(.int .i64 a0.1), (.int .i64 a0.2.1), v33, v35] 25] w297 at H
        refine lx_nil (thenN ?_)
        refine wp_seq ?_
        refine region_drawG (fun w1 => Heap w0 [bA b294 [(.int .i64 x281.1), (.int .i64 x281.2.1), (.int .i64 x281.2.2)] 48, bA b49 [(.int .i64 a0.1), (.int .i64 a0.2.1), v33, v35] 25] w1) (fun i => [3, 9, 18, 32].contains i) mixed (by kernel_rfl) (fun w299 he298 => ?_)
        have H := H.later he298
        refine ⟨H.sel [0, 1] (by decide), ?_⟩
        refine lq (.agg #[(.int .i64 a0.1), (.int .i64 a0.2.1), v33, v35]) S (q_loadA (cs := [(.int .i64 a0.1), (.int .i64 a0.2.1), v33, v35]) rfl (isP_bp _) Tryz.isAgg25 Tryz.sizeOf25 (fun w1 hC => (fun j u hu => boxAt (i := 1) hC rfl hu))) fun a S => ?_
        refine lq (pAdd (bp b294) 0) S (q_fieldAddr' 0 2 rfl (isP_bp _) Tryz.underlying48 rfl Tryz.sizeOf2) fun a S => ?_
        refine lq (.int .i64 x281.1) S (q_load1 rfl Tryz.isAgg2 (fun w1 hC => (At.of_add (m := 0) (j := 0) (boxAt (i := 0) hC rfl (j := 0) rfl)))) fun a S => ?_
        obtain ⟨x302, e303, hm⟩ := bind_some hm
        refine lx_call (xs := [.tmp 72, .tmp 74]) S trivial (by decide) rfl rfl Tryz.call30 ((impl_Lts_isState_ok ⟨[(.int .i64 a0.1), (.int .i64 a0.2.1), v33, v35], rfl, ⟨[(.int .i64 a0.1)], [(.int .i64 a0.2.1), v33, v35], rfl, rfl, ⟨[(.int .i64 a0.2.1)], [v33, v35], rfl, rfl, ⟨[v33], [v35], rfl, ((H.arg h34)).list_rd, ((H.arg h36)).list_rd⟩⟩⟩⟩  e303).mono ?_)
        rintro e w300 ⟨rfl, Hc301⟩
        have H := H.call0 Hc301
        refine ⟨_, rfl, H.sel [0, 1] (by decide), fun a S => ?_⟩
        refine lq (.bool (!x302)) S (q_not rfl) fun a S => ?_
        refine lq (.bool (!x302)) S (q_move rfl) fun a S => ?_
        obtain ⟨t305, e306, hm⟩ := bind_some hm
        refine lx_cut 6 (fun a w => Slots a 109 [(1, (bp b49)), (5, (.int .i64 x204)), (6, (bp b294)), (65, v35), (66, (.int .i64 (a0.2.2.2.length : Int))), (67, (.int .i64 x204)), (83, (.bool t305))] ∧ Heap w0 [bA b294 [(.int .i64 x281.1), (.int .i64 x281.2.1), (.int .i64 x281.2.2)] 48, bA b49 [(.int .i64 a0.1), (.int .i64 a0.2.1), v33, v35] 25] w) ?_ ?_
        ·by_cases hc307 : (!x302) = true
         ·have hm := ite_t hc307 e306
          refine lx_skip S rfl rfl (isB_ne hc307) (by decide) (fun a S => ?_)
          refine lx_skip S rfl rfl (isB_ne hc307) (by decide) (fun a S => ?_)
          refine lx_skip S rfl rfl (isB_ne hc307) (by decide) (fun a S => ?_)
          refine lx_skip S rfl rfl (isB_ne hc307) (by decide) (fun a S => ?_)
          refine lx_skip S rfl rfl (isB_ne hc307) (by decide) (fun a S => ?_)
          refine lq (.bool true) S (q_pickT' rfl hc307 rfl) fun a S => ?_
          refine lx_nil ?_
          obtain rfl := Option.some.inj hm
          exact ⟨S.sub ⟨rfl, rfl, rfl, rfl, rfl, rfl, rfl, trivial⟩, H⟩
         ·have hm := ite_f (eq_false_of_ne_true hc307) e306
          have hc307 : (!x302) = false := eq_false_of_ne_true hc307
          refine lx_q (.agg #[(.int .i64 a0.1), (.int .i64 a0.2.1), v33, v35]) S (want_b rfl rfl hc307) (by decide) (q_loadA (cs := [(.int .i64 a0.1), (.int .i64 a0.2.1), v33, v35]) rfl (isP_bp _) Tryz.isAgg25 Tryz.sizeOf25 (fun w1 hC => (fun j u hu => boxAt (i := 1) hC rfl hu))) (fun a S => ?_)
          refine lx_q (pAdd (bp b294) 2) S (want_b rfl rfl hc307) (by decide) (q_fieldAddr' 2 2 rfl (isP_bp _) Tryz.underlying48 rfl Tryz.sizeOf2) (fun a S => ?_)
          refine lx_q (.int .i64 x281.2.2) S (want_b rfl rfl hc307) (by decide) (q_load1 rfl Tryz.isAgg2 (fun w1 hC => (At.of_add (m := 2) (j := 0) (boxAt (i := 0) hC rfl (j := 2) rfl)))) (fun a S => ?_)
          obtain ⟨x310, e311, hm⟩ := bind_some hm
          refine lx_call (xs := [.tmp 78, .tmp 80]) S (want_b rfl rfl hc307) (by decide) rfl rfl Tryz.call30 ((impl_Lts_isState_ok ⟨[(.int .i64 a0.1), (.int .i64 a0.2.1), v33, v35], rfl, ⟨[(.int .i64 a0.1)], [(.int .i64 a0.2.1), v33, v35], rfl, rfl, ⟨[(.int .i64 a0.2.1)], [v33, v35], rfl, rfl, ⟨[v33], [v35], rfl, ((H.arg h34)).list_rd, ((H.arg h36)).list_rd⟩⟩⟩⟩  e311).mono ?_)
          rintro e w308 ⟨rfl, Hc309⟩
          have H := H.call0 Hc309
          refine ⟨_, rfl, H.sel [0, 1] (by decide), fun a S => ?_⟩
          refine lx_q (.bool (!x310)) S (want_b rfl rfl hc307) (by decide) (q_not rfl) (fun a S => ?_)
          refine lq (.bool (!x310)) S (q_pickF' rfl hc307 rfl) fun a S => ?_
          refine lx_nil ?_
          obtain rfl := Option.some.inj hm
          exact ⟨S.sub ⟨rfl, rfl, rfl, rfl, rfl, rfl, rfl, trivial⟩, H⟩
        ·rintro a w ⟨S, H⟩
         refine lq (.bool t305) S (q_move rfl) fun a S => ?_
         obtain ⟨t313, e314, hm⟩ := bind_some hm
         refine lx_cut 8 (fun a w => Slots a 109 [(1, (bp b49)), (5, (.int .i64 x204)), (6, (bp b294)), (65, v35), (66, (.int .i64 (a0.2.2.2.length : Int))), (67, (.int .i64 x204)), (92, (.bool t313))] ∧ Heap w0 [bA b294 [(.int .i64 x281.1), (.int .i64 x281.2.1), (.int .i64 x281.2.2)] 48, bA b49 [(.int .i64 a0.1), (.int .i64 a0.2.1), v33, v35] 25] w) ?_ ?_
         ·by_cases hc315 : t305 = true
          ·have hm := ite_t hc315 e314
           refine lx_skip S rfl rfl (isB_ne hc315) (by decide) (fun a S => ?_)
           refine lx_skip S rfl rfl (isB_ne hc315) (by decide) (fun a S => ?_)
           refine lx_skip S rfl rfl (isB_ne hc315) (by decide) (fun a S => ?_)
           refine lx_skip S rfl rfl (isB_ne hc315) (by decide) (fun a S => ?_)
           refine lx_skip S rfl rfl (isB_ne hc315) (by decide) (fun a S => ?_)
           refine lx_skip S rfl rfl (isB_ne hc315) (by decide) (fun a S => ?_)
           refine lx_skip S rfl rfl (isB_ne hc315) (by decide) (fun a S => ?_)
           refine lq (.bool true) S (q_pickT' rfl hc315 rfl) fun a S => ?_
           refine lx_nil ?_
           obtain rfl := Option.some.inj hm
           exact ⟨S.sub ⟨rfl, rfl, rfl, rfl, rfl, rfl, rfl, trivial⟩, H⟩
          ·have hm := ite_f (eq_false_of_ne_true hc315) e314
           have hc315 : t305 = false := eq_false_of_ne_true hc315
           refine lx_q (pAdd (bp b294) 1) S (want_b rfl rfl hc315) (by decide) (q_fieldAddr' 1 2 rfl (isP_bp _) Tryz.underlying48 rfl Tryz.sizeOf2) (fun a S => ?_)
           refine lx_q (.int .i64 x281.2.1) S (want_b rfl rfl hc315) (by decide) (q_load1 rfl Tryz.isAgg2 (fun w1 hC => (At.of_add (m := 1) (j := 0) (boxAt (i := 0) hC rfl (j := 1) rfl)))) (fun a S => ?_)
           refine lx_q (pAdd (bp b49) 2) S (want_b rfl rfl hc315) (by decide) (q_fieldAddr' 2 22 rfl (isP_bp _) Tryz.underlying25 rfl Tryz.sizeOf22) (fun a S => ?_)
           refine lx_q v33 S (want_b rfl rfl hc315) (by decide) (q_load1 rfl Tryz.isAgg22 (fun w1 hC => (At.of_add (m := 2) (j := 0) (boxAt (i := 1) hC rfl (j := 2) rfl)))) (fun a S => ?_)
           refine lx_q (.int .i64 (a0.2.2.1.length : Int)) S (want_b rfl rfl hc315) (by decide) (q_lenSl rfl (h34).isSl rfl Tryz.underlying22) (fun a S => ?_)
           obtain ⟨x318, e319, hm⟩ := bind_some hm
           refine lx_call (xs := [.tmp 86, .tmp 89]) S (want_b rfl rfl hc315) (by decide) rfl rfl Tryz.call32 ((impl_index_ok   e319).mono ?_)
           rintro e w316 ⟨rfl, Hc317⟩
           have H := H.call0 Hc317
           refine ⟨_, rfl, H.sel [0, 1] (by decide), fun a S => ?_⟩
           refine lx_q (.bool (!x318)) S (want_b rfl rfl hc315) (by decide) (q_not rfl) (fun a S => ?_)
           refine lq (.bool (!x318)) S (q_pickF' rfl hc315 rfl) fun a S => ?_
           refine lx_nil ?_
           obtain rfl := Option.some.inj hm
           exact ⟨S.sub ⟨rfl, rfl, rfl, rfl, rfl, rfl, rfl, trivial⟩, H⟩
         ·rintro a w ⟨S, H⟩
          refine lq (.bool t313) S (q_move rfl) fun a S => ?_
          obtain ⟨t321, e322, hm⟩ := bind_some hm
          refine lx_cut 14 (fun a w => Slots a 109 [(1, (bp b49)), (65, v35), (66, (.int .i64 (a0.2.2.2.length : Int))), (67, (.int .i64 x204)), (107, (.bool t321))] ∧ Heap w0 [bA b49 [(.int .i64 a0.1), (.int .i64 a0.2.1), v33, v35] 25] w) ?_ ?_
          ·by_cases hc323 : t313 = true
           ·have hm := ite_t hc323 e322
            refine lx_skip S rfl rfl (isB_ne hc323) (by decide) (fun a S => ?_)
            refine lx_skip S rfl rfl (isB_ne hc323) (by decide) (fun a S => ?_)
            refine lx_skip S rfl rfl (isB_ne hc323) (by decide) (fun a S => ?_)
            refine lx_skip S rfl rfl rfl (by decide) (fun a S => ?_)
            refine lx_skip S rfl rfl rfl (by decide) (fun a S => ?_)
            refine lx_skip S rfl rfl rfl (by decide) (fun a S => ?_)
            refine lx_skip S rfl rfl rfl (by decide) (fun a S => ?_)
            refine lx_skip S rfl rfl rfl (by decide) (fun a S => ?_)
            refine lx_skip S rfl rfl rfl (by decide) (fun a S => ?_)
            refine lx_skip S rfl rfl rfl (by decide) (fun a S => ?_)
            refine lx_skip S rfl rfl rfl (by decide) (fun a S => ?_)
            refine lx_skip S rfl rfl rfl (by decide) (fun a S => ?_)
            refine lx_skip S rfl rfl (isB_ne hc323) (by decide) (fun a S => ?_)
            refine lq (.bool true) S (q_pickT' rfl hc323 rfl) fun a S => ?_
            refine lx_nil ?_
            obtain rfl := Option.some.inj hm
            have H := H.sel [1] (by decide)
            exact ⟨S.sub ⟨rfl, rfl, rfl, rfl, rfl, trivial⟩, H⟩
           ·have hm := ite_f (eq_false_of_ne_true hc323) e322
            have hc323 : t313 = false := eq_false_of_ne_true hc323
            refine lx_q (.int .i64 x204) S (want_b rfl rfl hc323) (by decide) (q_move rfl) (fun a S => ?_)
            refine lx_q (.bool (decide ((0 : Int) < x204))) S (want_b rfl rfl hc323) (by decide) (q_gtr rfl rfl) (fun a S => ?_)
            refine lx_q (.bool (decide ((0 : Int) < x204))) S (want_b rfl rfl hc323) (by decide) (q_move rfl) (fun a S => ?_)
            obtain ⟨t324, e325, hm⟩ := bind_some hm
            refine lx_cut 10 (fun a w => Slots a 109 [(1, (bp b49)), (65, v35), (66, (.int .i64 (a0.2.2.2.length : Int))), (67, (.int .i64 x204)), (93, (.bool t313)), (106, (.bool t324))] ∧ Heap w0 [bA b49 [(.int .i64 a0.1), (.int .i64 a0.2.1), v33, v35] 25] w) ?_ ?_
            ·by_cases hc326 : (decide ((0 : Int) < x204)) = true
             ·have hm := ite_t hc326 e325
              refine lx_q (pAdd (bp b49) 3) S (want_b rfl rfl hc326) (by decide) (q_fieldAddr' 3 23 rfl (isP_bp _) Tryz.underlying25 rfl Tryz.sizeOf23) (fun a S => ?_)
              refine lx_q v35 S (want_b rfl rfl hc326) (by decide) (q_load1 rfl Tryz.isAgg23 (fun w1 hC => (At.of_add (m := 3) (j := 0) (boxAt (i := 1) hC rfl (j := 3) rfl)))) (fun a S => ?_)
              refine lx_q (.int .i64 x204) S (want_b rfl rfl hc326) (by decide) (q_move rfl) (fun a S => ?_)
              refine lx_q (.int .i64 (W (x204 - (1 : Int)))) S (want_b rfl rfl hc326) (by decide) (q_sub rfl rfl) (fun a S => ?_)
              obtain ⟨x327, e328, hm⟩ := bind_some hm
              obtain ⟨c329, h330, hat331⟩ := (h36).elem (idx_some e328).2
              obtain ⟨c332, c333, rfl, h334, h335⟩ := h330
              obtain rfl := h334
              obtain ⟨c336, c337, rfl, h338, h339⟩ := h335
              obtain rfl := h338
              obtain rfl := h339
              have hlt := lt_of_idx (idx_some e328).2
              refine lx_q (ePtr v35 ((W (x204 - (1 : Int))).toNat * 3)) S (want_b rfl rfl hc326) (by decide) (q_indexAddr rfl (h36).isSl rfl (idx_some e328).1 hlt Tryz.underlying23 Tryz.sizeOf48) (fun a S => ?_)
              refine lx_q (.agg #[(.int .i64 x327.1), (.int .i64 x327.2.1), (.int .i64 x327.2.2)]) S (want_b rfl rfl hc326) (by decide) (q_loadA (cs := [(.int .i64 x327.1), (.int .i64 x327.2.1), (.int .i64 x327.2.2)]) rfl ((hat331 0 _ rfl).isP) Tryz.isAgg48 Tryz.sizeOf48 (fun w1 hC => (fun j u hu => (hat331 j u hu).ext hC.ext))) (fun a S => ?_)
              refine lx_q (.agg #[(.int .i64 x281.1), (.int .i64 x281.2.1), (.int .i64 x281.2.2)]) S (want_b rfl rfl hc326) (by decide) (q_loadA (cs := [(.int .i64 x281.1), (.int .i64 x281.2.1), (.int .i64 x281.2.2)]) rfl (isP_bp _) Tryz.isAgg48 Tryz.sizeOf48 (fun w1 hC => (fun j u hu => boxAt (i := 0) hC rfl hu))) (fun a S => ?_)
              obtain ⟨x342, e343, hm⟩ := bind_some hm
              refine lx_call (xs := [.tmp 102, .tmp 103]) S (want_b rfl rfl hc326) (by decide) rfl rfl Tryz.call33 ((impl_compareEdges_ok ⟨[(.int .i64 x327.1), (.int .i64 x327.2.1), (.int .i64 x327.2.2)], rfl, ⟨[(.int .i64 x327.1)], [(.int .i64 x327.2.1), (.int .i64 x327.2.2)], rfl, rfl, ⟨[(.int .i64 x327.2.1)], [(.int .i64 x327.2.2)], rfl, rfl, rfl⟩⟩⟩ ⟨[(.int .i64 x281.1), (.int .i64 x281.2.1), (.int .i64 x281.2.2)], rfl, ⟨[(.int .i64 x281.1)], [(.int .i64 x281.2.1), (.int .i64 x281.2.2)], rfl, rfl, ⟨[(.int .i64 x281.2.1)], [(.int .i64 x281.2.2)], rfl, rfl, rfl⟩⟩⟩ e343).mono ?_)
              rintro e w340 ⟨rfl, Hc341⟩
              have H := H.call0 Hc341
              refine ⟨_, rfl, H.sel [0, 1] (by decide), fun a S => ?_⟩
              refine lx_q (.bool (decide ((0 : Int) ≤ x342))) S (want_b rfl rfl hc326) (by decide) (q_geq rfl rfl) (fun a S => ?_)
              refine lx_q (.bool (decide ((0 : Int) ≤ x342))) S (want_b rfl rfl hc323) (by decide) (q_pickT' rfl hc326 rfl) (fun a S => ?_)
              refine lx_nil ?_
              obtain rfl := Option.some.inj hm
              have H := H.sel [1] (by decide)
              exact ⟨S.sub ⟨rfl, rfl, rfl, rfl, rfl, rfl, trivial⟩, H⟩
             ·have hm := ite_f (eq_false_of_ne_true hc326) e325
              have hc326 : (decide ((0 : Int) < x204)) = false := eq_false_of_ne_true hc326
              refine lx_skip S rfl rfl (isB_ne hc326) (by decide) (fun a S => ?_)
              refine lx_skip S rfl rfl (isB_ne hc326) (by decide) (fun a S => ?_)
              refine lx_skip S rfl rfl (isB_ne hc326) (by decide) (fun a S => ?_)
              refine lx_skip S rfl rfl (isB_ne hc326) (by decide) (fun a S => ?_)
              refine lx_skip S rfl rfl (isB_ne hc326) (by decide) (fun a S => ?_)
              refine lx_skip S rfl rfl (isB_ne hc326) (by decide) (fun a S => ?_)
              refine lx_skip S rfl rfl (isB_ne hc326) (by decide) (fun a S => ?_)
              refine lx_skip S rfl rfl (isB_ne hc326) (by decide) (fun a S => ?_)
              refine lx_skip S rfl rfl (isB_ne hc326) (by decide) (fun a S => ?_)
              refine lx_q (.bool false) S (want_b rfl rfl hc323) (by decide) (q_pickF' rfl hc326 rfl) (fun a S => ?_)
              refine lx_nil ?_
              obtain rfl := Option.some.inj hm
              have H := H.sel [1] (by decide)
              exact ⟨S.sub ⟨rfl, rfl, rfl, rfl, rfl, rfl, trivial⟩, H⟩
            ·rintro a w ⟨S, H⟩
             refine lq (.bool t324) S (q_pickF' rfl hc323 rfl) fun a S => ?_
             refine lx_nil ?_
             obtain rfl := Option.some.inj hm
             exact ⟨S.sub ⟨rfl, rfl, rfl, rfl, rfl, trivial⟩, H⟩
          ·rintro a w ⟨S, H⟩
           refine lx_nil (thenN ?_)
           refine cond_b S rfl (fun hc345 => ?_) (fun hc345 => ?_)
           ·have hm := ite_t hc345 hm
            refine wp_seq (region_plain ?_)
            refine lq (.bool false) S (q_assign rfl) fun a S => ?_
            refine lx_nil (thenN ?_)
            refine wp_ret (inBlock_ret ?_)
            refine then_ret ?_
            refine then_ret ?_
            refine inBlock_ret ?_
            refine then_ret ?_
            refine then_ret ?_
            obtain rfl := it_brk hm hc279
            have hm := ctl_inr hk276
            obtain rfl := Option.some.inj hm
            have H : Heap w0 [] w := H.sel [] (by decide)
            exact leave1 S rfl rfl ⟨rfl, H⟩
           ·have hm := ite_f hc345 hm
            refine wp_skip ?_
            refine inBlock_norm ?_
            refine thenN ?_
            refine region_plain ?_
            refine lq (.int .i64 (W (x204 + (1 : Int)))) S (q_add rfl rfl) fun a S => ?_
            refine lq (.int .i64 (W (x204 + (1 : Int)))) S (q_move rfl) fun a S => ?_
            refine lx_nil ?_
            exact ⟨m277, Nat.lt_succ_self _, (W (x204 + (1 : Int))), S.sub ⟨rfl, rfl, rfl, rfl, trivial⟩, H, it_cont hm hc279⟩
       ·have hm := ite_f hc280 hm
        refine wp_exit ?_
        refine then_exit ?_
        refine then_exit ?_
        refine inBlock_exit ?_
        obtain rfl := it_brk hm hc279
        have H : Heap w0 [] w := H.sel [] (by decide)
        exact ⟨S.sub trivial, H, rfl⟩
     ·skip
      refine loop_ghost (fun n a w => ∃ (x104 : Int), Slots a 109 [(1, (bp b49)), (32, v33), (33, (.int .i64 (a0.2.2.1.length : Int))), (34, (.int .i64 x104))] ∧ Heap w0 [bA b49 [(.int .i64 a0.1), (.int .i64 a0.2.1), v33, v35] 25] w ∧ iter f134 n (x104) = some res132) _ ⟨(0 : Int), S.sub ⟨rfl, rfl, rfl, rfl, trivial⟩, H, hit133⟩ ?_
      rintro n a w ⟨x104, S, H, hit133⟩
      obtain ⟨m346, o347, rfl, hm, hc348⟩ := iter_step hit133
      rw [hf135] at hm
      refine wp_seq (region_plain ?_)
      refine lq (.bool (decide (x104 < (a0.2.2.1.length : Int)))) S (q_lss rfl rfl) fun a S => ?_
      refine lx_nil (thenN ?_)
      refine wp_seq ?_
      refine cond_b S rfl (fun hc349 => ?_) (fun hc349 => ?_)
      ·have hm := ite_t hc349 hm
       refine wp_skip (thenN ?_)
       refine wp_seq ?_
       refine wp_block ?_
       refine wp_seq (region_plain ?_)
       refine lq (.int .i64 x104) S (q_move rfl) fun a S => ?_
       obtain ⟨x350, e351, hm⟩ := bind_some hm
       obtain ⟨c352, h353, hat354⟩ := (h34).elem (idx_some e351).2
       obtain rfl := h353
       have hlt := lt_of_idx (idx_some e351).2
       refine lq (ePtr v33 (x104.toNat * 1)) S (q_indexAddr rfl (h34).isSl rfl (idx_some e351).1 hlt Tryz.underlying22 Tryz.sizeOf9) fun a S => ?_
       refine lx_e (sv x350) S trivial (by decide) rfl trivial (q_load1 rfl Tryz.isAgg9 (by rintro _ rfl; exact ((hat354 0 _ rfl).ext H.ext))) (fun a S => ?_)
       refine lq (.int .i64 x104) S (q_assign rfl) fun a S => ?_
       refine lq (sv x350) S (q_assign rfl) fun a S => ?_
       refine lx_nil (thenN ?_)
       refine wp_seq (region_plain ?_)
       refine lq (sv x350) S (q_move rfl) fun a S => ?_
       obtain ⟨x357, e358, hm⟩ := bind_some hm
       refine lx_call (xs := [.tmp 39]) S trivial (by decide) rfl rfl Tryz.call31 ((impl_IsLabel_ok (hG.ext H.ext)  e358).mono ?_)
       rintro e w355 ⟨rfl, Hc356⟩
       have H := H.call0 Hc356
       refine ⟨_, rfl, trivial, fun a S => ?_⟩
       refine lq (.bool (!x357)) S (q_not rfl) fun a S => ?_
       refine lq (.bool (!x357)) S (q_move rfl) fun a S => ?_
       obtain ⟨t360, e361, hm⟩ := bind_some hm
       refine lx_cut 6 (fun a w => Slots a 109 [(1, (bp b49)), (3, (.int .i64 x104)), (4, (sv x350)), (32, v33), (33, (.int .i64 (a0.2.2.1.length : Int))), (34, (.int .i64 x104)), (48, (.bool t360))] ∧ Heap w0 [bA b49 [(.int .i64 a0.1), (.int .i64 a0.2.1), v33, v35] 25] w) ?_ ?_
       ·by_cases hc362 : (!x357) = true
        ·have hm := ite_t hc362 e361
         refine lx_skip S rfl rfl (isB_ne hc362) (by decide) (fun a S => ?_)
         refine lx_skip S rfl rfl (isB_ne hc362) (by decide) (fun a S => ?_)
         refine lx_skip S rfl rfl (isB_ne hc362) (by decide) (fun a S => ?_)
         refine lx_skip S rfl rfl (isB_ne hc362) (by decide) (fun a S => ?_)
         refine lx_skip S rfl rfl (isB_ne hc362) (by decide) (fun a S => ?_)
         refine lq (.bool true) S (q_pickT' rfl hc362 rfl) fun a S => ?_
         refine lx_nil ?_
         obtain rfl := Option.some.inj hm
         exact ⟨S.sub ⟨rfl, rfl, rfl, rfl, rfl, rfl, rfl, trivial⟩, H⟩
        ·have hm := ite_f (eq_false_of_ne_true hc362) e361
         have hc362 : (!x357) = false := eq_false_of_ne_true hc362
         refine lx_q (sv x350) S (want_b rfl rfl hc362) (by decide) (q_move rfl) (fun a S => ?_)
         refine lx_q (.bool (x350 == ([116, 97, 117] : Str))) S (want_b rfl rfl hc362) (by decide) (q_seql rfl rfl) (fun a S => ?_)
         refine lx_q (.int .i64 x104) S (want_b rfl rfl hc362) (by decide) (q_move rfl) (fun a S => ?_)
         refine lx_q (.bool (x104 == (0 : Int))) S (want_b rfl rfl hc362) (by decide) (q_eql rfl rfl) (fun a S => ?_)
         refine lx_q (.bool ((x350 == ([116, 97, 117] : Str)) != (x104 == (0 : Int)))) S (want_b rfl rfl hc362) (by decide) (q_bneq rfl rfl Tryz.underlying4) (fun a S => ?_)
         refine lq (.bool ((x350 == ([116, 97, 117] : Str)) != (x104 == (0 : Int)))) S (q_pickF' rfl hc362 rfl) fun a S => ?_
         refine lx_nil ?_
         obtain rfl := Option.some.inj hm
         exact ⟨S.sub ⟨rfl, rfl, rfl, rfl, rfl, rfl, rfl, trivial⟩, H⟩
       ·rintro a w ⟨S, H⟩
        refine lq (.bool t360) S (q_move rfl) fun a S => ?_
        obtain ⟨t363, e364, hm⟩ := bind_some hm
        refine lx_cut 13 (fun a w => Slots a 109 [(1, (bp b49)), (32, v33), (33, (.int .i64 (a0.2.2.1.length : Int))), (34, (.int .i64 x104)), (62, (.bool t363))] ∧ Heap w0 [bA b49 [(.int .i64 a0.1), (.int .i64 a0.2.1), v33, v35] 25] w) ?_ ?_
        ·by_cases hc365 : t360 = true
         ·have hm := ite_t hc365 e364
          refine lx_skip S rfl rfl (isB_ne hc365) (by decide) (fun a S => ?_)
          refine lx_skip S rfl rfl (isB_ne hc365) (by decide) (fun a S => ?_)
          refine lx_skip S rfl rfl (isB_ne hc365) (by decide) (fun a S => ?_)
          refine lx_skip S rfl rfl rfl (by decide) (fun a S => ?_)
          refine lx_skip S rfl rfl rfl (by decide) (fun a S => ?_)
          refine lx_skip S rfl rfl rfl (by decide) (fun a S => ?_)
          refine lx_skip S rfl rfl rfl (by decide) (fun a S => ?_)
          refine lx_skip S rfl rfl rfl (by decide) (fun a S => ?_)
          refine lx_skip S rfl rfl rfl (by decide) (fun a S => ?_)
          refine lx_skip S rfl rfl rfl (by decide) (fun a S => ?_)
          refine lx_skip S rfl rfl rfl (by decide) (fun a S => ?_)
          refine lx_skip S rfl rfl (isB_ne hc365) (by decide) (fun a S => ?_)
          refine lq (.bool true) S (q_pickT' rfl hc365 rfl) fun a S => ?_
          refine lx_nil ?_
          obtain rfl := Option.some.inj hm
          exact ⟨S.sub ⟨rfl, rfl, rfl, rfl, rfl, trivial⟩, H⟩
         ·have hm := ite_f (eq_false_of_ne_true hc365) e364
          have hc365 : t360 = false := eq_false_of_ne_true hc365
          refine lx_q (.int .i64 x104) S (want_b rfl rfl hc365) (by decide) (q_move rfl) (fun a S => ?_)
          refine lx_q (.bool (decide ((1 : Int) < x104))) S (want_b rfl rfl hc365) (by decide) (q_gtr rfl rfl) (fun a S => ?_)
          refine lx_q (.bool (decide ((1 : Int) < x104))) S (want_b rfl rfl hc365) (by decide) (q_move rfl) (fun a S => ?_)
          obtain ⟨t366, e367, hm⟩ := bind_some hm
          refine lx_cut 9 (fun a w => Slots a 109 [(1, (bp b49)), (32, v33), (33, (.int .i64 (a0.2.2.1.length : Int))), (34, (.int .i64 x104)), (49, (.bool t360)), (61, (.bool t366))] ∧ Heap w0 [bA b49 [(.int .i64 a0.1), (.int .i64 a0.2.1), v33, v35] 25] w) ?_ ?_
          ·by_cases hc368 : (decide ((1 : Int) < x104)) = true
           ·have hm := ite_t hc368 e367
            refine lx_q (sv x350) S (want_b rfl rfl hc368) (by decide) (q_move rfl) (fun a S => ?_)
            refine lx_q (pAdd (bp b49) 2) S (want_b rfl rfl hc368) (by decide) (q_fieldAddr' 2 22 rfl (isP_bp _) Tryz.underlying25 rfl Tryz.sizeOf22) (fun a S => ?_)
            refine lx_e v33 S (want_b rfl rfl hc368) (by decide) rfl trivial (q_load1 rfl Tryz.isAgg22 (by rintro _ rfl; exact (At.of_add (m := 2) (j := 0) (boxAt (i := 0) H rfl (j := 2) rfl)))) (fun a S => ?_)
            refine lx_q (.int .i64 x104) S (want_b rfl rfl hc368) (by decide) (q_move rfl) (fun a S => ?_)
            refine lx_q (.int .i64 (W (x104 - (1 : Int)))) S (want_b rfl rfl hc368) (by decide) (q_sub rfl rfl) (fun a S => ?_)
            obtain ⟨x369, e370, hm⟩ := bind_some hm
            obtain ⟨c371, h372, hat373⟩ := (h34).elem (idx_some e370).2
            obtain rfl := h372
            have hlt := lt_of_idx (idx_some e370).2
            refine lx_q (ePtr v33 ((W (x104 - (1 : Int))).toNat * 1)) S (want_b rfl rfl hc368) (by decide) (q_indexAddr rfl (h34).isSl rfl (idx_some e370).1 hlt Tryz.underlying22 Tryz.sizeOf9) (fun a S => ?_)
            refine lx_e (sv x369) S (want_b rfl rfl hc368) (by decide) rfl trivial (q_load1 rfl Tryz.isAgg9 (by rintro _ rfl; exact ((hat373 0 _ rfl).ext H.ext))) (fun a S => ?_)
            refine lx_q (.bool (Op.bytesLess x350 x369 || x350 == x369)) S (want_b rfl rfl hc368) (by decide) (q_sleq rfl rfl) (fun a S => ?_)
            refine lx_q (.bool (Op.bytesLess x350 x369 || x350 == x369)) S (want_b rfl rfl hc365) (by decide) (q_pickT' rfl hc368 rfl) (fun a S => ?_)
            refine lx_nil ?_
            obtain rfl := Option.some.inj hm
            exact ⟨S.sub ⟨rfl, rfl, rfl, rfl, rfl, rfl, trivial⟩, H⟩
           ·have hm := ite_f (eq_false_of_ne_true hc368) e367
            have hc368 : (decide ((1 : Int) < x104)) = false := eq_false_of_ne_true hc368
            refine lx_skip S rfl rfl (isB_ne hc368) (by decide) (fun a S => ?_)
            refine lx_skip S rfl rfl (isB_ne hc368) (by decide) (fun a S => ?_)
            refine lx_skip S rfl rfl (isB_ne hc368) (by decide) (fun a S => ?_)
            refine lx_skip S rfl rfl (isB_ne hc368) (by decide) (fun a S => ?_)
            refine lx_skip S rfl rfl (isB_ne hc368) (by decide) (fun a S => ?_)
            refine lx_skip S rfl rfl (isB_ne hc368) (by decide) (fun a S => ?_)
            refine lx_skip S rfl rfl (isB_ne hc368) (by decide) (fun a S => ?_)
            refine lx_skip S rfl rfl (isB_ne hc368) (by decide) (fun a S => ?_)
            refine lx_q (.bool false) S (want_b rfl rfl hc365) (by decide) (q_pickF' rfl hc368 rfl) (fun a S => ?_)
            refine lx_nil ?_
            obtain rfl := Option.some.inj hm
            exact ⟨S.sub ⟨rfl, rfl, rfl, rfl, rfl, rfl, trivial⟩, H⟩
          ·rintro a w ⟨S, H⟩
           refine lq (.bool t366) S (q_pickF' rfl hc365 rfl) fun a S => ?_
           refine lx_nil ?_
           obtain rfl := Option.some.inj hm
           exact ⟨S.sub ⟨rfl, rfl, rfl, rfl, rfl, trivial⟩, H⟩
        ·rintro a w ⟨S, H⟩
         refine lx_nil (thenN ?_)
         refine cond_b S rfl (fun hc374 => ?_) (fun hc374 => ?_)
         ·have hm := ite_t hc374 hm
          refine wp_seq (region_plain ?_)
          refine lq (.bool false) S (q_assign rfl) fun a S => ?_
          refine lx_nil (thenN ?_)
          refine wp_ret (inBlock_ret ?_)
          refine then_ret ?_
          refine then_ret ?_
          refine inBlock_ret ?_
          refine then_ret ?_
          refine then_ret ?_
          obtain rfl := it_brk hm hc348
          have hm := ctl_inr hk136
          obtain rfl := Option.some.inj hm
          have H : Heap w0 [] w := H.sel [] (by decide)
          exact leave1 S rfl rfl ⟨rfl, H⟩
         ·have hm := ite_f hc374 hm
          refine wp_skip ?_
          refine inBlock_norm ?_
          refine thenN ?_
          refine region_plain ?_
          refine lq (.int .i64 (W (x104 + (1 : Int)))) S (q_add rfl rfl) fun a S => ?_
          refine lq (.int .i64 (W (x104 + (1 : Int)))) S (q_move rfl) fun a S => ?_
          refine lx_nil ?_
          exact ⟨m346, Nat.lt_succ_self _, (W (x104 + (1 : Int))), S.sub ⟨rfl, rfl, rfl, rfl, trivial⟩, H, it_cont hm hc348⟩
      ·have hm := ite_f hc349 hm
       refine wp_exit ?_
       refine then_exit ?_
       refine then_exit ?_
       refine inBlock_exit ?_
       obtain rfl := it_brk hm hc348
       exact ⟨S.sub ⟨rfl, trivial⟩, H, rfl⟩

/-- impl.words -/
def impl_words_m (fuel : Nat) (a0 : (List Str)) : Option (Str) :=
  (if ((a0.length : Int) == (0 : Int)) = true then some (([45] : Str)) else (strings_Join_m fuel a0 ([32] : Str)).bind fun x34 => some (x34))
set_option maxRecDepth 20000 in
theorem impl_words_ok {w0 : World} {fuel : Nat} {p0 : Value} {a0 : (List Str)} {r : Str} (h0 : Rd (rList rStr) w0 p0 a0) (hm : impl_words_m fuel a0 = some r) :
  Calls Tryz.prog 36 #[p0] w0 fun e w => e = .returned (sv r) ∧ Heap w0 [] w := by
 unfold impl_words_m at hm
 have H := Heap.start w0
 refine enter (args := [p0]) Tryz.func36 rfl 8 rfl (Nat.le_of_ble_eq_true rfl) (fun a S => ?_)
 refine wp_seq (region_plain ?_)
 refine lq (sv ([] : Str)) S (q_assign rfl) fun a S => ?_
 refine lx_nil (thenN ?_)
 refine wp_seq (wp_seq (region_plain ?_))
 refine lq p0 S (q_move rfl) fun a S => ?_
 refine lq (.int .i64 (a0.length : Int)) S (q_lenSl rfl (h0).isSl rfl Tryz.underlying22) fun a S => ?_
 refine lq (.bool ((a0.length : Int) == (0 : Int))) S (q_eql rfl rfl) fun a S => ?_
 refine lx_nil (thenN ?_)
 refine cond_b S rfl (fun hc31 => ?_) (fun hc31 => ?_)
 ·have hm := ite_t hc31 hm
  refine wp_seq (region_plain ?_)
  refine lq (sv ([45] : Str)) S (q_assign rfl) fun a S => ?_
  refine lx_nil (thenN ?_)
  refine wp_ret (then_ret ?_)
  obtain rfl := Option.some.inj hm
  exact leave1 S rfl rfl ⟨rfl, H⟩
 ·have hm := ite_f hc31 hm
  refine wp_skip (thenN ?_)
  refine wp_seq (region_plain ?_)
  refine lq p0 S (q_move rfl) fun a S => ?_
  obtain ⟨x34, e35, hm⟩ := bind_some hm
  refine lx_call (xs := [.tmp 6, .const (sv [32])]) S trivial (by decide) rfl rfl Tryz.call51 ((strings_Join_ok (H.arg h0)  e35).mono ?_)
  rintro e w32 ⟨rfl, Hc33⟩
  have H := H.call0 Hc33
  refine ⟨_, rfl, trivial, fun a S => ?_⟩
  refine lq (sv x34) S (q_assign rfl) fun a S => ?_
  refine lx_nil (thenN ?_)
  refine wp_ret ?_
  obtain rfl := Option.some.inj hm
  exact leave1 S rfl rfl ⟨rfl, H⟩

/-- impl.LtsText -/
def impl_LtsText_m (fuel : Nat) (a0 : Timpl_Lts) : Option (Str) :=
  (impl_ValidLts_m fuel (a0.1, a0.2.1, a0.2.2.1, a0.2.2.2)).bind fun x54 => (if (!x54) = true then some (([] : Str)) else (iter (fun (s : (List Str) × (Int)) => (match s with | (xs98, x100) => (if (decide (x100 < (a0.2.2.2.length : Int))) = true then (idx a0.2.2.2 x100).bind fun x188 => (impl_joined_m fuel [x188.1, x188.2.1, x188.2.2] ([58] : Str)).bind fun x210 => (app xs98 [x210]).bind fun x216 => some (.inl (x216, (W (x100 + (1 : Int))))) else some (.inr (.inl (xs98)))) : Option (((List Str) × (Int)) ⊕ (((List Str)) ⊕ (Str))))) fuel ([], (0 : Int))).bind fun res142 => ctl (β := (List Str)) (ρ := Str) (τ := Str) res142 (fun (xs140) => (impl_Decimal_m fuel a0.1).bind fun x151 => (cat x151 ([32] : Str)).bind fun x154 => (impl_Decimal_m fuel a0.2.1).bind fun x158 => (cat x154 x158).bind fun x161 => (cat x161 ([124] : Str)).bind fun x163 => (sub a0.2.2.1 (1 : Int) (a0.2.2.1.length : Int)).bind fun xs165 => (impl_words_m fuel xs165).bind fun x169 => (cat x163 x169).bind fun x172 => (cat x172 ([124] : Str)).bind fun x174 => (impl_words_m fuel xs140).bind fun x178 => (cat x174 x178).bind fun x181 => some (x181)) (fun q => some (q)))
set_option maxRecDepth 20000 in
theorem impl_LtsText_ok {w0 : World} {fuel : Nat} {p0 : Value} {a0 : Timpl_Lts} {r : Str} (hG : GlobE Tryz.prog w0) (h0 : Rd Rimpl_Lts w0 p0 a0) (hm : impl_LtsText_m fuel a0 = some r) :
  Calls Tryz.prog 15 #[p0] w0 fun e w => e = .returned (sv r) ∧ Heap w0 [] w := by
 unfold impl_LtsText_m at hm
 have H := Heap.start w0
 obtain ⟨c31, rfl, h32⟩ := h0
 obtain ⟨c37, c38, rfl, h39, h40⟩ := h32
 obtain rfl := h39
 obtain ⟨c41, c42, rfl, h43, h44⟩ := h40
 obtain rfl := h43
 obtain ⟨c45, c46, rfl, h47, h48⟩ := h44
 obtain ⟨v33, rfl, h34⟩ := rd_list h47
 obtain ⟨v35, rfl, h36⟩ := rd_list h48
 refine enter (args := [(.agg #[(.int .i64 a0.1), (.int .i64 a0.2.1), v33, v35])]) Tryz.func15 rfl 46 rfl (Nat.le_of_ble_eq_true rfl) (fun a S => ?_)
 refine wp_seq (region_plain ?_)
 refine lx_box S trivial (by decide) rfl H rfl rfl (fun b49 w50 H => ⟨trivial, fun a S => ?_⟩)
 refine lq (sv ([] : Str)) S (q_assign rfl) fun a S => ?_
 refine lx_nil (thenN ?_)
 refine wp_seq (wp_seq (region_plain ?_))
 refine lx_e (.agg #[(.int .i64 a0.1), (.int .i64 a0.2.1), v33, v35]) S trivial (by decide) rfl trivial (q_loadA (cs := [(.int .i64 a0.1), (.int .i64 a0.2.1), v33, v35]) rfl (isP_bp _) Tryz.isAgg25 Tryz.sizeOf25 (by rintro _ rfl; exact (fun j u hu => boxAt (i := 0) H rfl hu))) (fun a S => ?_)
 obtain ⟨x54, e55, hm⟩ := bind_some hm
 refine lx_call (xs := [.tmp 6]) S trivial (by decide) rfl rfl Tryz.call14 ((impl_ValidLts_ok (hG.ext H.ext) ⟨[(.int .i64 a0.1), (.int .i64 a0.2.1), v33, v35], rfl, ⟨[(.int .i64 a0.1)], [(.int .i64 a0.2.1), v33, v35], rfl, rfl, ⟨[(.int .i64 a0.2.1)], [v33, v35], rfl, rfl, ⟨[v33], [v35], rfl, ((H.arg h34)).list_rd, ((H.arg h36)).list_rd⟩⟩⟩⟩ e55).mono ?_)
 rintro e w52 ⟨rfl, Hc53⟩
 have H := H.call0 Hc53
 refine ⟨_, rfl, trivial, fun a S => ?_⟩
 refine lq (.bool (!x54)) S (q_not rfl) fun a S => ?_
 refine lx_nil (thenN ?_)
 refine cond_b S rfl (fun hc57 => ?_) (fun hc57 => ?_)
 ·have hm := ite_t hc57 hm
  refine wp_seq (region_plain ?_)
  refine lq (sv ([] : Str)) S (q_assign rfl) fun a S => ?_
  refine lx_nil (thenN ?_)
  refine wp_ret (then_ret ?_)
  obtain rfl := Option.some.inj hm
  have H : Heap w0 [] w52 := H.sel [] (by decide)
  exact leave1 S rfl rfl ⟨rfl, H⟩
 ·have hm := ite_f hc57 hm
  refine wp_skip (thenN ?_)
  refine wp_seq (region_plain ?_)
  refine lq (.slice none 0 0) S (q_assign rfl) fun a S => ?_
  refine lx_nil (thenN ?_)
  refine wp_seq (wp_seq (region_plain ?_))
  refine lq (pAdd (bp b49) 3) S (q_fieldAddr' 3 23 rfl (isP_bp _) Tryz.underlying25 rfl Tryz.sizeOf23) fun a S => ?_
  refine lx_e v35 S trivial (by decide) rfl trivial (q_load1 rfl Tryz.isAgg23 (by rintro _ rfl; exact (At.of_add (m := 3) (j := 0) (boxAt (i := 0) H rfl (j := 3) rfl)))) (fun a S => ?_)
  refine lq (.int .i64 (a0.2.2.2.length : Int)) S (q_lenSl rfl (h36).isSl rfl Tryz.underlying23) fun a S => ?_
  refine lq (.int .i64 (0 : Int)) S (q_move rfl) fun a S => ?_
  refine lx_nil (thenN ?_)
  obtain ⟨res142, hit143, hk146⟩ := bind_some hm
  obtain ⟨f144, hf145, hit143⟩ := iter_name hit143
  refine block_loop (fun a w => ∃ (xs140 : List Str) (v139 : Value), Slots a 46 [(1, (bp b49)), (3, v139)] ∧ Heap w0 [bA b49 [(.int .i64 a0.1), (.int .i64 a0.2.1), v33, v35] 25, oA (rList rStr) v139 xs140] w ∧ res142 = .inl (xs140)) ?_ ?_
  ·rintro a w ⟨xs140, v139, S, H, rfl⟩
   have hm := ctl_inl hk146
   refine thenN ?_
   refine wp_seq ?_
   refine region_drawG (fun w1 => Heap w0 [bA b49 [(.int .i64 a0.1), (.int .i64 a0.2.1), v33, v35] 25] w1) (fun i => [2, 6, 12, 16].contains i) mixed (by kernel_rfl) (fun w148 he147 => ?_)
   have H := H.later he147
   refine ⟨H.sel [0] (by decide), ?_⟩
   refine lq (pAdd (bp b49) 0) S (q_fieldAddr' 0 2 rfl (isP_bp _) Tryz.underlying25 rfl Tryz.sizeOf2) fun a S => ?_
   refine lq (.int .i64 a0.1) S (q_load1 rfl Tryz.isAgg2 (fun w1 hC => (At.of_add (m := 0) (j := 0) (boxAt (i := 0) hC rfl (j := 0) rfl)))) fun a S => ?_
   obtain ⟨x151, e152, hm⟩ := bind_some hm
   refine lx_call (xs := [.tmp 29]) S trivial (by decide) rfl rfl Tryz.call35 ((impl_Decimal_ok (hG.ext H.ext).toGlob  e152).mono ?_)
   rintro e w149 ⟨rfl, Hc150⟩
   have H := H.call0 Hc150
   refine ⟨_, rfl, H.sel [0] (by decide), fun a S => ?_⟩
   obtain ⟨x154, e155, hm⟩ := bind_some hm
   obtain ⟨hle, hcat⟩ := cat_some e155
   subst hcat
   refine lq (sv (x151 ++ ([32] : Str))) S (q_cat rfl rfl hle) fun a S => ?_
   refine lq (pAdd (bp b49) 1) S (q_fieldAddr' 1 2 rfl (isP_bp _) Tryz.underlying25 rfl Tryz.sizeOf2) fun a S => ?_
   refine lq (.int .i64 a0.2.1) S (q_load1 rfl Tryz.isAgg2 (fun w1 hC => (At.of_add (m := 1) (j := 0) (boxAt (i := 0) hC rfl (j := 1) rfl)))) fun a S => ?_
   obtain ⟨x158, e159, hm⟩ := bind_some hm
   refine lx_call (xs := [.tmp 33]) S trivial (by decide) rfl rfl Tryz.call35 ((impl_Decimal_ok (hG.ext H.ext).toGlob  e159).mono ?_)
   rintro e w156 ⟨rfl, Hc157⟩
   have H := H.call0 Hc157
   refine ⟨_, rfl, H.sel [0] (by decide), fun a S => ?_⟩
   obtain ⟨x161, e162, hm⟩ := bind_some hm
   obtain ⟨hle, hcat⟩ := cat_some e162
   subst hcat
   refine lq (sv ((x151 ++ ([32] : Str)) ++ x158)) S (q_cat rfl rfl hle) fun a S => ?_
   obtain ⟨x163, e164, hm⟩ := bind_some hm
   obtain ⟨hle, hcat⟩ := cat_some e164
   subst hcat
   refine lq (sv (((x151 ++ ([32] : Str)) ++ x158) ++ ([124] : Str))) S (q_cat rfl rfl hle) fun a S => ?_
   refine lq (pAdd (bp b49) 2) S (q_fieldAddr' 2 22 rfl (isP_bp _) Tryz.underlying25 rfl Tryz.sizeOf22) fun a S => ?_
   refine lq v33 S (q_load1 rfl Tryz.isAgg22 (fun w1 hC => (At.of_add (m := 2) (j := 0) (boxAt (i := 0) hC rfl (j := 2) rfl)))) fun a S => ?_
   obtain ⟨xs165, e166, hm⟩ := bind_some hm
   have hsb := (sub_some e166).1
   refine lq (subV v33 ((1 : Int)).toNat ((a0.2.2.1.length : Int)).toNat 1) S (q_slice (lo := (some (.const (.int .i64 (1))))) (hi := none) (l := (1 : Int)) (h := (a0.2.2.1.length : Int)) (size := 1) rfl (h34).isSl Tryz.underlying22 Tryz.sizeOf9 rfl rfl hsb.1 hsb.2.1 hsb.2.2) fun a S => ?_
   obtain ⟨x169, e170, hm⟩ := bind_some hm
   refine lx_call (xs := [.tmp 39]) S trivial (by decide) rfl rfl Tryz.call36 ((impl_words_ok (H.arg (h34.sub e166)) e170).mono ?_)
   rintro e w167 ⟨rfl, Hc168⟩
   have H := H.call0 Hc168
   refine ⟨_, rfl, H.sel [0] (by decide), fun a S => ?_⟩
   obtain ⟨x172, e173, hm⟩ := bind_some hm
   obtain ⟨hle, hcat⟩ := cat_some e173
   subst hcat
   refine lq (sv ((((x151 ++ ([32] : Str)) ++ x158) ++ ([124] : Str)) ++ x169)) S (q_cat rfl rfl hle) fun a S => ?_
   obtain ⟨x174, e175, hm⟩ := bind_some hm
   obtain ⟨hle, hcat⟩ := cat_some e175
   subst hcat
   refine lq (sv (((((x151 ++ ([32] : Str)) ++ x158) ++ ([124] : Str)) ++ x169) ++ ([124] : Str))) S (q_cat rfl rfl hle) fun a S => ?_
   refine lq v139 S (q_move rfl) fun a S => ?_
   obtain ⟨x178, e179, hm⟩ := bind_some hm
   refine lx_call (xs := [.tmp 43]) S trivial (by decide) rfl rfl Tryz.call36 ((impl_words_ok (H.rdAt 1 rfl) e179).mono ?_)
   rintro e w176 ⟨rfl, Hc177⟩
   have H := H.call0 Hc177
   refine ⟨_, rfl, H.sel [0] (by decide), fun a S => ?_⟩
   obtain ⟨x181, e182, hm⟩ := bind_some hm
   obtain ⟨hle, hcat⟩ := cat_some e182
   subst hcat
   refine lq (sv ((((((x151 ++ ([32] : Str)) ++ x158) ++ ([124] : Str)) ++ x169) ++ ([124] : Str)) ++ x178)) S (q_cat rfl rfl hle) fun a S => ?_
   refine lq (sv ((((((x151 ++ ([32] : Str)) ++ x158) ++ ([124] : Str)) ++ x169) ++ ([124] : Str)) ++ x178)) S (q_assign rfl) fun a S => ?_
   refine lx_nil (thenN ?_)
   refine wp_ret ?_
   obtain rfl := Option.some.inj hm
   have H : Heap w0 [] w176 := H.sel [] (by decide)
   exact leave1 S rfl rfl ⟨rfl, H⟩
  ·skip
   have H : Heap w0 [oA (rList rStr) (.slice none 0 0) ([] : List Str), bA b49 [(.int .i64 a0.1), (.int .i64 a0.2.1), v33, v35] 25] w52 := H.nilList rStr
   have H : Heap w0 [bA b49 [(.int .i64 a0.1), (.int .i64 a0.2.1), v33, v35] 25, oA (rList rStr) (.slice none 0 0) ([] : List Str)] w52 := H.front 1 rfl
   refine loop_ghost (fun n a w => ∃ (xs98 : List Str) (x100 : Int) (v97 : Value), Slots a 46 [(1, (bp b49)), (3, v97), (10, v35), (11, (.int .i64 (a0.2.2.2.length : Int))), (12, (.int .i64 x100))] ∧ Heap w0 [bA b49 [(.int .i64 a0.1), (.int .i64 a0.2.1), v33, v35] 25, oA (rList rStr) v97 xs98] w ∧ iter f144 n (xs98, x100) = some res142) _ ⟨[], (0 : Int), (.slice none 0 0), S.sub ⟨rfl, rfl, rfl, rfl, rfl, trivial⟩, H, hit143⟩ ?_
   rintro n a w ⟨xs98, x100, v97, S, H, hit143⟩
   obtain ⟨m184, o185, rfl, hm, hc186⟩ := iter_step hit143
   rw [hf145] at hm
   refine wp_seq (region_plain ?_)
   refine lq (.bool (decide (x100 < (a0.2.2.2.length : Int)))) S (q_lss rfl rfl) fun a S => ?_
   refine lx_nil (thenN ?_)
   refine wp_seq ?_
   refine cond_b S rfl (fun hc187 => ?_) (fun hc187 => ?_)
   ·have hm := ite_t hc187 hm
    refine wp_skip (thenN ?_)
    refine wp_seq ?_
    refine wp_block ?_
    refine wp_seq (region_plain ?_)
    obtain ⟨x188, e189, hm⟩ := bind_some hm
    obtain ⟨c190, h191, hat192⟩ := (h36).elem (idx_some e189).2
    obtain ⟨c193, c194, rfl, h195, h196⟩ := h191
    obtain rfl := h195
    obtain ⟨c197, c198, rfl, h199, h200⟩ := h196
    obtain rfl := h199
    obtain rfl := h200
    have hlt := lt_of_idx (idx_some e189).2
    refine lq (ePtr v35 (x100.toNat * 3)) S (q_indexAddr rfl (h36).isSl rfl (idx_some e189).1 hlt Tryz.underlying23 Tryz.sizeOf48) fun a S => ?_
    refine lx_e (.agg #[(.int .i64 x188.1), (.int .i64 x188.2.1), (.int .i64 x188.2.2)]) S trivial (by decide) rfl trivial (q_loadA (cs := [(.int .i64 x188.1), (.int .i64 x188.2.1), (.int .i64 x188.2.2)]) rfl ((hat192 0 _ rfl).isP) Tryz.isAgg48 Tryz.sizeOf48 (by rintro _ rfl; exact (fun j u hu => (hat192 j u hu).ext H.ext))) (fun a S => ?_)
    refine lx_alloc S trivial (by decide) rfl H Tryz.zeroValue48 rfl (fun b201 w202 H => ⟨trivial, fun a S => ?_⟩)
    refine lx_storeBox (o := 0) (i := 0) (us := [(.int .i64 x188.1), (.int .i64 x188.2.1), (.int .i64 x188.2.2)]) (cs' := [(.int .i64 x188.1), (.int .i64 x188.2.1), (.int .i64 x188.2.2)]) S trivial rfl H rfl rfl rfl rfl Tryz.sizeOf48 (Nat.le_of_ble_eq_true rfl) (List.forall_mem_cons.2 ⟨rfl, (List.forall_mem_cons.2 ⟨rfl, (List.forall_mem_cons.2 ⟨rfl, (List.forall_mem_nil _)⟩)⟩)⟩) rfl (fun w204 H => ⟨trivial, fun a S => ?_⟩)
    change Heap w0 [bA b201 [(.int .i64 x188.1), (.int .i64 x188.2.1), (.int .i64 x188.2.2)] 48, bA b49 [(.int .i64 a0.1), (.int .i64 a0.2.1), v33, v35] 25, oA (rList rStr) v97 xs98] w204 at H
    refine lx_nil (thenN ?_)
    refine region_plain ?_
    refine lq v97 S (q_move rfl) fun a S => ?_
    refine lq (pAdd (bp b201) 0) S (q_fieldAddr' 0 2 rfl (isP_bp _) Tryz.underlying48 rfl Tryz.sizeOf2) fun a S => ?_
    refine lx_e (.int .i64 x188.1) S trivial (by decide) rfl trivial (q_load1 rfl Tryz.isAgg2 (by rintro _ rfl; exact (At.of_add (m := 0) (j := 0) (boxAt (i := 0) H rfl (j := 0) rfl)))) (fun a S => ?_)
    refine lq (pAdd (bp b201) 1) S (q_fieldAddr' 1 2 rfl (isP_bp _) Tryz.underlying48 rfl Tryz.sizeOf2) fun a S => ?_
    refine lx_e (.int .i64 x188.2.1) S trivial (by decide) rfl trivial (q_load1 rfl Tryz.isAgg2 (by rintro _ rfl; exact (At.of_add (m := 1) (j := 0) (boxAt (i := 0) H rfl (j := 1) rfl)))) (fun a S => ?_)
    refine lq (pAdd (bp b201) 2) S (q_fieldAddr' 2 2 rfl (isP_bp _) Tryz.underlying48 rfl Tryz.sizeOf2) fun a S => ?_
    refine lx_e (.int .i64 x188.2.2) S trivial (by decide) rfl trivial (q_load1 rfl Tryz.isAgg2 (by rintro _ rfl; exact (At.of_add (m := 2) (j := 0) (boxAt (i := 0) H rfl (j := 2) rfl)))) (fun a S => ?_)
    refine lx_buildSlice (r := (rInt .i64)) (xs := [x188.1, x188.2.1, x188.2.2]) (ps := [(0, [(.int .i64 x188.1)]), (1, [(.int .i64 x188.2.1)]), (2, [(.int .i64 x188.2.2)])]) (cs := [(.int .i64 x188.1), (.int .i64 x188.2.1), (.int .i64 x188.2.2)]) (parts := [(0, .tmp 18), (1, .tmp 20), (2, .tmp 22)]) S trivial (by decide) rfl (H.put0 (A := eA) rfl) rfl Tryz.underlying32 Tryz.sizeOf2 Tryz.zeroValue2 (by decide) ⟨rfl, rfl, Nat.le_of_ble_eq_true rfl, ⟨rfl, rfl, Nat.le_of_ble_eq_true rfl, ⟨rfl, rfl, Nat.le_of_ble_eq_true rfl, trivial⟩⟩⟩ (by intro zs hz; exact fill_dense hz ⟨rfl, ⟨rfl, ⟨rfl, trivial⟩⟩⟩ rfl rfl) rfl (by decide) (fun w F hA => by cases (show F = [] from hA); exact ⟨_, _, [(.int .i64 x188.1)], _, rfl, rfl, ⟨rfl, rfl⟩, ⟨_, _, [(.int .i64 x188.2.1)], _, rfl, rfl, ⟨rfl, rfl⟩, ⟨_, _, [(.int .i64 x188.2.2)], _, rfl, rfl, ⟨rfl, rfl⟩, ⟨rfl, rfl⟩⟩⟩⟩) (fun v205 w206 H => ⟨trivial, fun a S => ?_⟩)
    obtain ⟨x210, e211, hm⟩ := bind_some hm
    refine lx_call (xs := [.tmp 23, .const (sv [58])]) S trivial (by decide) rfl rfl Tryz.call34 ((impl_joined_ok (hG.ext H.ext).toGlob (H.rdAt 0 rfl)  e211).mono ?_)
    rintro e w208 ⟨rfl, Hc209⟩
    have H := H.call0 Hc209
    refine ⟨_, rfl, trivial, fun a S => ?_⟩
    refine lx_buildSlice (r := rStr) (xs := [x210]) (ps := [(0, [(sv x210)])]) (cs := [(sv x210)]) (parts := [(0, .tmp 24)]) S trivial (by decide) rfl (H.put0 (A := eA) rfl) rfl Tryz.underlying22 Tryz.sizeOf9 Tryz.zeroValue9 (by decide) ⟨rfl, rfl, Nat.le_of_ble_eq_true rfl, trivial⟩ (by intro zs hz; exact fill_dense hz ⟨rfl, trivial⟩ rfl rfl) rfl (by decide) (fun w F hA => by cases (show F = [] from hA); exact ⟨_, _, [(sv x210)], _, rfl, rfl, ⟨rfl, rfl⟩, ⟨rfl, rfl⟩⟩) (fun v213 w214 H => ⟨trivial, fun a S => ?_⟩)
    obtain ⟨x216, e217, hm⟩ := bind_some hm
    obtain ⟨hle, hap⟩ := app_some e217
    replace hap := hap.symm
    subst hap
    have H : Heap w0 [oA (rList rStr) v213 [x210], oA (rList (rInt .i64)) v205 [x188.1, x188.2.1, x188.2.2], bA b201 [(.int .i64 x188.1), (.int .i64 x188.2.1), (.int .i64 x188.2.2)] 48, bA b49 [(.int .i64 a0.1), (.int .i64 a0.2.1), v33, v35] 25, oA (rList rStr) v97 xs98] w214 := H.front 0 rfl
    have H : Heap w0 [oA (rList rStr) v97 xs98, oA (rList rStr) v213 [x210], oA (rList (rInt .i64)) v205 [x188.1, x188.2.1, x188.2.2], bA b201 [(.int .i64 x188.1), (.int .i64 x188.2.1), (.int .i64 x188.2.2)] 48, bA b49 [(.int .i64 a0.1), (.int .i64 a0.2.1), v33, v35] 25] w214 := H.front 4 rfl
    refine lx_appendOwn (r := rStr) S trivial (by decide) rfl H rfl rfl Tryz.underlying22 Tryz.ti9 rfl rfl rfl (Nat.le_of_ble_eq_true rfl) (by decide) hle (fun v218 w219 H => ⟨trivial, fun a S => ?_⟩)
    refine lq v218 S (q_assign rfl) fun a S => ?_
    refine lx_nil ?_
    refine inBlock_norm ?_
    refine thenN ?_
    refine region_plain ?_
    refine lq (.int .i64 (W (x100 + (1 : Int)))) S (q_add rfl rfl) fun a S => ?_
    refine lq (.int .i64 (W (x100 + (1 : Int)))) S (q_move rfl) fun a S => ?_
    refine lx_nil ?_
    have H : Heap w0 [bA b49 [(.int .i64 a0.1), (.int .i64 a0.2.1), v33, v35] 25, oA (rList rStr) v218 (xs98 ++ [x210]), oA (rList (rInt .i64)) v205 [x188.1, x188.2.1, x188.2.2], bA b201 [(.int .i64 x188.1), (.int .i64 x188.2.1), (.int .i64 x188.2.2)] 48] w219 := H.front 3 rfl
    have H : Heap w0 [bA b49 [(.int .i64 a0.1), (.int .i64 a0.2.1), v33, v35] 25, oA (rList rStr) v218 (xs98 ++ [x210])] w219 := H.sel [0, 1] (by decide)
    exact ⟨m184, Nat.lt_succ_self _, (xs98 ++ [x210]), (W (x100 + (1 : Int))), v218, S.sub ⟨rfl, rfl, rfl, rfl, rfl, trivial⟩, H, it_cont hm hc186⟩
   ·have hm := ite_f hc187 hm
    refine wp_exit ?_
    refine then_exit ?_
    refine then_exit ?_
    refine inBlock_exit ?_
    obtain rfl := it_brk hm hc186
    exact ⟨xs98, v97, S.sub ⟨rfl, rfl, trivial⟩, H, rfl⟩
end Go.Proofs.YtlmopoaeekhmeaaGreatDoor
