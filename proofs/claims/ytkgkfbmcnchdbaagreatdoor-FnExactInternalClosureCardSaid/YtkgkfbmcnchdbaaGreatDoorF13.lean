/- The models of some functions and their walks (printed by a program of this repo). -/
import Derived.Test.YtkgkfbmcnchdbaaGreatDoorF0
import Derived.Test.YtkgkfbmcnchdbaaGreatDoorF1
import Derived.Test.YtkgkfbmcnchdbaaGreatDoorF2
import Derived.Test.YtkgkfbmcnchdbaaGreatDoorGxT
import Derived.Test.YtkgkfbmcnchdbaaGreatDoorGxY
namespace Go.Proofs.YtkgkfbmcnchdbaaGreatDoor
open Go.RowKit Go.Gx

/-- spec.l00Rises -/
def spec_l00Rises_m (fuel : Nat) (a0 : (List Int)) (a1 : Int) (a2 : Int) : Option (Bool) :=
  (iter (fun (s : (Int)) => (match s with | (x62) => (if (decide (x62 < (a0.length : Int))) = true then (idx a0 x62).bind fun x105 => (spec_l00In_m fuel x105 a1 a2).bind fun x112 => (if (!x112) = true then some true else (if (decide ((0 : Int) < x62)) = true then (idx a0 (W (x62 - (1 : Int)))).bind fun x121 => (idx a0 x62).bind fun x126 => some (decide (x126 ≤ x121)) else some false).bind fun t118 => some t118).bind fun t115 => (if t115 = true then some (.inr (.inr false)) else some (.inl ((W (x62 + (1 : Int)))))) else some (.inr (.inl ()))) : Option (((Int)) ⊕ ((Unit) ⊕ (Bool))))) fuel ((0 : Int))).bind fun res94 => ctl (β := Unit) (ρ := Bool) (τ := Bool) res94 (fun _ => some (true)) (fun q => some (q))
set_option maxRecDepth 20000 in
theorem spec_l00Rises_ok {w0 : World} {fuel : Nat} {p0 : Value} {a0 : (List Int)} {a1 : Int} {a2 : Int} {r : Bool} (h0 : Rd (rList (rInt .i64)) w0 p0 a0) (hm : spec_l00Rises_m fuel a0 a1 a2 = some r) :
  Calls Tryz.prog 102 #[p0, .int .i64 a1, .int .i64 a2] w0 fun e w => e = .returned (.bool r) ∧ Heap w0 [] w := by
 unfold spec_l00Rises_m at hm
 have H := Heap.start w0
 refine enter (args := [p0, .int .i64 a1, .int .i64 a2]) Tryz.func102 rfl 38 rfl (Nat.le_of_ble_eq_true rfl) (fun a S => ?_)
 refine wp_seq (region_plain ?_)
 refine lq (.bool false) S (q_assign rfl) fun a S => ?_
 refine lx_nil (thenN ?_)
 refine wp_seq (wp_seq (region_plain ?_))
 refine lq (.int .i64 (0 : Int)) S (q_assign rfl) fun a S => ?_
 refine lx_nil (thenN ?_)
 obtain ⟨res94, hit95, hk98⟩ := bind_some hm
 obtain ⟨f96, hf97, hit95⟩ := iter_name hit95
 refine block_loop (fun a w => Slots a 38 [] ∧ Heap w0 [] w ∧ res94 = .inl ()) ?_ ?_
 ·rintro a w ⟨S, H, rfl⟩
  have hm := ctl_inl hk98
  refine thenN ?_
  refine wp_seq (region_plain ?_)
  refine lq (.bool true) S (q_assign rfl) fun a S => ?_
  refine lx_nil (thenN ?_)
  refine wp_ret ?_
  obtain rfl := Option.some.inj hm
  exact leave1 S rfl rfl ⟨rfl, H⟩
 ·skip
  refine loop_ghost (fun n a w => ∃ (x62 : Int), Slots a 38 [(0, p0), (1, (.int .i64 a1)), (2, (.int .i64 a2)), (7, (.int .i64 x62))] ∧ Heap w0 [] w ∧ iter f96 n (x62) = some res94) _ ⟨(0 : Int), S.sub ⟨rfl, rfl, rfl, rfl, trivial⟩, H, hit95⟩ ?_
  rintro n a w ⟨x62, S, H, hit95⟩
  obtain ⟨m99, o100, rfl, hm, hc101⟩ := iter_step hit95
  rw [hf97] at hm
  refine wp_seq (wp_seq (region_plain ?_))
  refine lq (.int .i64 x62) S (q_move rfl) fun a S => ?_
  refine lq p0 S (q_move rfl) fun a S => ?_
  refine lq (.int .i64 (a0.length : Int)) S (q_lenSl rfl (h0).isSl rfl Tryz.underlying34) fun a S => ?_
  refine lq (.bool (decide (x62 < (a0.length : Int)))) S (q_lss rfl rfl) fun a S => ?_
  refine lx_nil (thenN ?_)
  refine cond_b S rfl (fun hc102 => ?_) (fun hc102 => ?_)
  ·have hm := ite_t hc102 hm
   refine wp_skip (thenN ?_)
   refine wp_seq ?_
   refine wp_block ?_
   refine wp_seq ?_
   refine region_drawG (fun w1 => Heap w0 [] w1) (fun i => [6].contains i) mixed (by kernel_rfl) (fun w104 he103 => ?_)
   have H := H.later he103
   refine ⟨H.sel [] (by decide), ?_⟩
   refine lq p0 S (q_move rfl) fun a S => ?_
   refine lq (.int .i64 x62) S (q_move rfl) fun a S => ?_
   obtain ⟨x105, e106, hm⟩ := bind_some hm
   obtain ⟨c107, h108, hat109⟩ := (h0).elem (idx_some e106).2
   obtain rfl := h108
   have hlt := lt_of_idx (idx_some e106).2
   refine lq (ePtr p0 (x62.toNat * 1)) S (q_indexAddr rfl (h0).isSl rfl (idx_some e106).1 hlt Tryz.underlying34 Tryz.sizeOf2) fun a S => ?_
   refine lq (.int .i64 x105) S (q_load1 rfl Tryz.isAgg2 (fun w1 hC => ((hat109 0 _ rfl).ext hC.ext))) fun a S => ?_
   refine lq (.int .i64 a1) S (q_move rfl) fun a S => ?_
   refine lq (.int .i64 a2) S (q_move rfl) fun a S => ?_
   obtain ⟨x112, e113, hm⟩ := bind_some hm
   refine lx_call (xs := [.tmp 17, .tmp 18, .tmp 19]) S trivial (by decide) rfl rfl Tryz.call125 ((spec_l00In_ok    e113).mono ?_)
   rintro e w110 ⟨rfl, Hc111⟩
   have H := H.call0 Hc111
   refine ⟨_, rfl, H.sel [] (by decide), fun a S => ?_⟩
   refine lq (.bool (!x112)) S (q_not rfl) fun a S => ?_
   refine lq (.bool (!x112)) S (q_move rfl) fun a S => ?_
   obtain ⟨t115, e116, hm⟩ := bind_some hm
   refine lx_cut 15 (fun a w => Slots a 38 [(0, p0), (1, (.int .i64 a1)), (2, (.int .i64 a2)), (7, (.int .i64 x62)), (37, (.bool t115))] ∧ Heap w0 [] w) ?_ ?_
   ·by_cases hc117 : (!x112) = true
    ·have hm := ite_t hc117 e116
     refine lx_skip S rfl rfl (isB_ne hc117) (by decide) (fun a S => ?_)
     refine lx_skip S rfl rfl (isB_ne hc117) (by decide) (fun a S => ?_)
     refine lx_skip S rfl rfl (isB_ne hc117) (by decide) (fun a S => ?_)
     refine lx_skip S rfl rfl rfl (by decide) (fun a S => ?_)
     refine lx_skip S rfl rfl rfl (by decide) (fun a S => ?_)
     refine lx_skip S rfl rfl rfl (by decide) (fun a S => ?_)
     refine lx_skip S rfl rfl rfl (by decide) (fun a S => ?_)
     refine lx_skip S rfl rfl rfl (by decide) (fun a S => ?_)
     refine lx_skip S rfl rfl rfl (by decide) (fun a S => ?_)
     refine lx_skip S rfl rfl rfl (by decide) (fun a S => ?_)
     refine lx_skip S rfl rfl rfl (by decide) (fun a S => ?_)
     refine lx_skip S rfl rfl rfl (by decide) (fun a S => ?_)
     refine lx_skip S rfl rfl rfl (by decide) (fun a S => ?_)
     refine lx_skip S rfl rfl (isB_ne hc117) (by decide) (fun a S => ?_)
     refine lq (.bool true) S (q_pickT' rfl hc117 rfl) fun a S => ?_
     refine lx_nil ?_
     obtain rfl := Option.some.inj hm
     exact ⟨S.sub ⟨rfl, rfl, rfl, rfl, rfl, trivial⟩, H⟩
    ·have hm := ite_f (eq_false_of_ne_true hc117) e116
     have hc117 : (!x112) = false := eq_false_of_ne_true hc117
     refine lx_q (.int .i64 x62) S (want_b rfl rfl hc117) (by decide) (q_move rfl) (fun a S => ?_)
     refine lx_q (.bool (decide ((0 : Int) < x62))) S (want_b rfl rfl hc117) (by decide) (q_gtr rfl rfl) (fun a S => ?_)
     refine lx_q (.bool (decide ((0 : Int) < x62))) S (want_b rfl rfl hc117) (by decide) (q_move rfl) (fun a S => ?_)
     obtain ⟨t118, e119, hm⟩ := bind_some hm
     refine lx_cut 11 (fun a w => Slots a 38 [(0, p0), (1, (.int .i64 a1)), (2, (.int .i64 a2)), (7, (.int .i64 x62)), (22, (.bool (!x112))), (36, (.bool t118))] ∧ Heap w0 [] w) ?_ ?_
     ·by_cases hc120 : (decide ((0 : Int) < x62)) = true
      ·have hm := ite_t hc120 e119
       refine lx_q p0 S (want_b rfl rfl hc120) (by decide) (q_move rfl) (fun a S => ?_)
       refine lx_q (.int .i64 x62) S (want_b rfl rfl hc120) (by decide) (q_move rfl) (fun a S => ?_)
       refine lx_q (.int .i64 (W (x62 - (1 : Int)))) S (want_b rfl rfl hc120) (by decide) (q_sub rfl rfl) (fun a S => ?_)
       obtain ⟨x121, e122, hm⟩ := bind_some hm
       obtain ⟨c123, h124, hat125⟩ := (h0).elem (idx_some e122).2
       obtain rfl := h124
       have hlt := lt_of_idx (idx_some e122).2
       refine lx_q (ePtr p0 ((W (x62 - (1 : Int))).toNat * 1)) S (want_b rfl rfl hc120) (by decide) (q_indexAddr rfl (h0).isSl rfl (idx_some e122).1 hlt Tryz.underlying34 Tryz.sizeOf2) (fun a S => ?_)
       refine lx_q (.int .i64 x121) S (want_b rfl rfl hc120) (by decide) (q_load1 rfl Tryz.isAgg2 (fun w1 hC => ((hat125 0 _ rfl).ext hC.ext))) (fun a S => ?_)
       refine lx_q p0 S (want_b rfl rfl hc120) (by decide) (q_move rfl) (fun a S => ?_)
       refine lx_q (.int .i64 x62) S (want_b rfl rfl hc120) (by decide) (q_move rfl) (fun a S => ?_)
       obtain ⟨x126, e127, hm⟩ := bind_some hm
       obtain ⟨c128, h129, hat130⟩ := (h0).elem (idx_some e127).2
       obtain rfl := h129
       have hlt := lt_of_idx (idx_some e127).2
       refine lx_q (ePtr p0 (x62.toNat * 1)) S (want_b rfl rfl hc120) (by decide) (q_indexAddr rfl (h0).isSl rfl (idx_some e127).1 hlt Tryz.underlying34 Tryz.sizeOf2) (fun a S => ?_)
       refine lx_q (.int .i64 x126) S (want_b rfl rfl hc120) (by decide) (q_load1 rfl Tryz.isAgg2 (fun w1 hC => ((hat130 0 _ rfl).ext hC.ext))) (fun a S => ?_)
       refine lx_q (.bool (decide (x126 ≤ x121))) S (want_b rfl rfl hc120) (by decide) (q_geq rfl rfl) (fun a S => ?_)
       refine lx_q (.bool (decide (x126 ≤ x121))) S (want_b rfl rfl hc117) (by decide) (q_pickT' rfl hc120 rfl) (fun a S => ?_)
       refine lx_nil ?_
       obtain rfl := Option.some.inj hm
       exact ⟨S.sub ⟨rfl, rfl, rfl, rfl, rfl, rfl, trivial⟩, H⟩
      ·have hm := ite_f (eq_false_of_ne_true hc120) e119
       have hc120 : (decide ((0 : Int) < x62)) = false := eq_false_of_ne_true hc120
       refine lx_skip S rfl rfl (isB_ne hc120) (by decide) (fun a S => ?_)
       refine lx_skip S rfl rfl (isB_ne hc120) (by decide) (fun a S => ?_)
       refine lx_skip S rfl rfl (isB_ne hc120) (by decide) (fun a S => ?_)
       refine lx_skip S rfl rfl (isB_ne hc120) (by decide) (fun a S => ?_)
       refine lx_skip S rfl rfl (isB_ne hc120) (by decide) (fun a S => ?_)
       refine lx_skip S rfl rfl (isB_ne hc120) (by decide) (fun a S => ?_)
       refine lx_skip S rfl rfl (isB_ne hc120) (by decide) (fun a S => ?_)
       refine lx_skip S rfl rfl (isB_ne hc120) (by decide) (fun a S => ?_)
       refine lx_skip S rfl rfl (isB_ne hc120) (by decide) (fun a S => ?_)
       refine lx_skip S rfl rfl (isB_ne hc120) (by decide) (fun a S => ?_)
       refine lx_q (.bool false) S (want_b rfl rfl hc117) (by decide) (q_pickF' rfl hc120 rfl) (fun a S => ?_)
       refine lx_nil ?_
       obtain rfl := Option.some.inj hm
       exact ⟨S.sub ⟨rfl, rfl, rfl, rfl, rfl, rfl, trivial⟩, H⟩
     ·rintro a w ⟨S, H⟩
      refine lq (.bool t118) S (q_pickF' rfl hc117 rfl) fun a S => ?_
      refine lx_nil ?_
      obtain rfl := Option.some.inj hm
      exact ⟨S.sub ⟨rfl, rfl, rfl, rfl, rfl, trivial⟩, H⟩
   ·rintro a w ⟨S, H⟩
    refine lx_nil (thenN ?_)
    refine cond_b S rfl (fun hc131 => ?_) (fun hc131 => ?_)
    ·have hm := ite_t hc131 hm
     refine wp_seq (region_plain ?_)
     refine lq (.bool false) S (q_assign rfl) fun a S => ?_
     refine lx_nil (thenN ?_)
     refine wp_ret (inBlock_ret ?_)
     refine then_ret ?_
     refine then_ret ?_
     refine inBlock_ret ?_
     refine then_ret ?_
     refine then_ret ?_
     obtain rfl := it_brk hm hc101
     have hm := ctl_inr hk98
     obtain rfl := Option.some.inj hm
     exact leave1 S rfl rfl ⟨rfl, H⟩
    ·have hm := ite_f hc131 hm
     refine wp_skip ?_
     refine inBlock_norm ?_
     refine thenN ?_
     refine region_plain ?_
     refine lq (.int .i64 x62) S (q_move rfl) fun a S => ?_
     refine lq (.int .i64 (W (x62 + (1 : Int)))) S (q_add rfl rfl) fun a S => ?_
     refine lq (.int .i64 (W (x62 + (1 : Int)))) S (q_assign rfl) fun a S => ?_
     refine lx_nil ?_
     exact ⟨m99, Nat.lt_succ_self _, (W (x62 + (1 : Int))), S.sub ⟨rfl, rfl, rfl, rfl, trivial⟩, H, it_cont hm hc101⟩
  ·have hm := ite_f hc102 hm
   refine wp_exit ?_
   refine then_exit ?_
   refine then_exit ?_
   refine inBlock_exit ?_
   obtain rfl := it_brk hm hc101
   exact ⟨S.sub trivial, H, rfl⟩

/-- (impl.Lts).statesOk -/
def impl_Lts_statesOk_m (fuel : Nat) (a0 : Timpl_Lts) (a1 : (List Int)) : Option (Bool) :=
  (iter (fun (s : (Int)) => (match s with | (x76) => (if (decide (x76 < (a1.length : Int))) = true then (idx a1 x76).bind fun x110 => (impl_Lts_isState_m fuel (a0.1, a0.2.1, a0.2.2.1, a0.2.2.2) x110).bind fun x117 => (if (!x117) = true then some true else (if (decide ((0 : Int) < x76)) = true then (idx a1 (W (x76 - (1 : Int)))).bind fun x126 => some (decide (x110 ≤ x126)) else some false).bind fun t123 => some t123).bind fun t120 => (if t120 = true then some (.inr (.inr false)) else some (.inl ((W (x76 + (1 : Int)))))) else some (.inr (.inl ()))) : Option (((Int)) ⊕ ((Unit) ⊕ (Bool))))) fuel ((0 : Int))).bind fun res101 => ctl (β := Unit) (ρ := Bool) (τ := Bool) res101 (fun _ => some (true)) (fun q => some (q))
set_option maxRecDepth 20000 in
theorem impl_Lts_statesOk_ok {w0 : World} {fuel : Nat} {p0 p1 : Value} {a0 : Timpl_Lts} {a1 : (List Int)} {r : Bool} (h0 : Rd Rimpl_Lts w0 p0 a0) (h1 : Rd (rList (rInt .i64)) w0 p1 a1) (hm : impl_Lts_statesOk_m fuel a0 a1 = some r) :
  Calls Tryz.prog 104 #[p0, p1] w0 fun e w => e = .returned (.bool r) ∧ Heap w0 [] w := by
 unfold impl_Lts_statesOk_m at hm
 have H := Heap.start w0
 obtain ⟨c31, rfl, h32⟩ := h0
 obtain ⟨c37, c38, rfl, h39, h40⟩ := h32
 obtain rfl := h39
 obtain ⟨c41, c42, rfl, h43, h44⟩ := h40
 obtain rfl := h43
 obtain ⟨c45, c46, rfl, h47, h48⟩ := h44
 obtain ⟨v33, rfl, h34⟩ := rd_list h47
 obtain ⟨v35, rfl, h36⟩ := rd_list h48
 refine enter (args := [(.agg #[(.int .i64 a0.1), (.int .i64 a0.2.1), v33, v35]), p1]) Tryz.func104 rfl 32 rfl (Nat.le_of_ble_eq_true rfl) (fun a S => ?_)
 refine wp_seq (region_plain ?_)
 refine lx_box S trivial (by decide) rfl H rfl rfl (fun b49 w50 H => ⟨trivial, fun a S => ?_⟩)
 refine lq (.bool false) S (q_assign rfl) fun a S => ?_
 refine lx_nil (thenN ?_)
 refine wp_seq (wp_seq (region_plain ?_))
 refine lq p1 S (q_move rfl) fun a S => ?_
 refine lq (.int .i64 (a1.length : Int)) S (q_lenSl rfl (h1).isSl rfl Tryz.underlying34) fun a S => ?_
 refine lq (.int .i64 (0 : Int)) S (q_move rfl) fun a S => ?_
 refine lx_nil (thenN ?_)
 obtain ⟨res101, hit102, hk105⟩ := bind_some hm
 obtain ⟨f103, hf104, hit102⟩ := iter_name hit102
 refine block_loop (fun a w => Slots a 32 [] ∧ Heap w0 [] w ∧ res101 = .inl ()) ?_ ?_
 ·rintro a w ⟨S, H, rfl⟩
  have hm := ctl_inl hk105
  refine thenN ?_
  refine wp_seq (region_plain ?_)
  refine lq (.bool true) S (q_assign rfl) fun a S => ?_
  refine lx_nil (thenN ?_)
  refine wp_ret ?_
  obtain rfl := Option.some.inj hm
  exact leave1 S rfl rfl ⟨rfl, H⟩
 ·skip
  refine loop_ghost (fun n a w => ∃ (x76 : Int), Slots a 32 [(1, p1), (2, (bp b49)), (7, p1), (8, (.int .i64 (a1.length : Int))), (9, (.int .i64 x76))] ∧ Heap w0 [bA b49 [(.int .i64 a0.1), (.int .i64 a0.2.1), v33, v35] 30] w ∧ iter f103 n (x76) = some res101) _ ⟨(0 : Int), S.sub ⟨rfl, rfl, rfl, rfl, rfl, trivial⟩, H, hit102⟩ ?_
  rintro n a w ⟨x76, S, H, hit102⟩
  obtain ⟨m106, o107, rfl, hm, hc108⟩ := iter_step hit102
  rw [hf104] at hm
  refine wp_seq (region_plain ?_)
  refine lq (.bool (decide (x76 < (a1.length : Int)))) S (q_lss rfl rfl) fun a S => ?_
  refine lx_nil (thenN ?_)
  refine wp_seq ?_
  refine cond_b S rfl (fun hc109 => ?_) (fun hc109 => ?_)
  ·have hm := ite_t hc109 hm
   refine wp_skip (thenN ?_)
   refine wp_seq ?_
   refine wp_block ?_
   refine wp_seq (region_plain ?_)
   refine lq (.int .i64 x76) S (q_move rfl) fun a S => ?_
   obtain ⟨x110, e111, hm⟩ := bind_some hm
   obtain ⟨c112, h113, hat114⟩ := (h1).elem (idx_some e111).2
   obtain rfl := h113
   have hlt := lt_of_idx (idx_some e111).2
   refine lq (ePtr p1 (x76.toNat * 1)) S (q_indexAddr rfl (h1).isSl rfl (idx_some e111).1 hlt Tryz.underlying34 Tryz.sizeOf2) fun a S => ?_
   refine lx_e (.int .i64 x110) S trivial (by decide) rfl trivial (q_load1 rfl Tryz.isAgg2 (by rintro _ rfl; exact ((hat114 0 _ rfl).ext H.ext))) (fun a S => ?_)
   refine lq (.int .i64 x76) S (q_assign rfl) fun a S => ?_
   refine lq (.int .i64 x110) S (q_assign rfl) fun a S => ?_
   refine lx_nil (thenN ?_)
   refine wp_seq (region_plain ?_)
   refine lx_e (.agg #[(.int .i64 a0.1), (.int .i64 a0.2.1), v33, v35]) S trivial (by decide) rfl trivial (q_loadA (cs := [(.int .i64 a0.1), (.int .i64 a0.2.1), v33, v35]) rfl (isP_bp _) Tryz.isAgg30 Tryz.sizeOf30 (by rintro _ rfl; exact (fun j u hu => boxAt (i := 0) H rfl hu))) (fun a S => ?_)
   refine lq (.int .i64 x110) S (q_move rfl) fun a S => ?_
   obtain ⟨x117, e118, hm⟩ := bind_some hm
   refine lx_call (xs := [.tmp 14, .tmp 15]) S trivial (by decide) rfl rfl Tryz.call72 ((impl_Lts_isState_ok ⟨[(.int .i64 a0.1), (.int .i64 a0.2.1), v33, v35], rfl, ⟨[(.int .i64 a0.1)], [(.int .i64 a0.2.1), v33, v35], rfl, rfl, ⟨[(.int .i64 a0.2.1)], [v33, v35], rfl, rfl, ⟨[v33], [v35], rfl, ((H.arg h34)).list_rd, ((H.arg h36)).list_rd⟩⟩⟩⟩  e118).mono ?_)
   rintro e w115 ⟨rfl, Hc116⟩
   have H := H.call0 Hc116
   refine ⟨_, rfl, trivial, fun a S => ?_⟩
   refine lq (.bool (!x117)) S (q_not rfl) fun a S => ?_
   refine lq (.bool (!x117)) S (q_move rfl) fun a S => ?_
   obtain ⟨t120, e121, hm⟩ := bind_some hm
   refine lx_cut 12 (fun a w => Slots a 32 [(1, p1), (2, (bp b49)), (7, p1), (8, (.int .i64 (a1.length : Int))), (9, (.int .i64 x76)), (30, (.bool t120))] ∧ Heap w0 [bA b49 [(.int .i64 a0.1), (.int .i64 a0.2.1), v33, v35] 30] w) ?_ ?_
   ·by_cases hc122 : (!x117) = true
    ·have hm := ite_t hc122 e121
     refine lx_skip S rfl rfl (isB_ne hc122) (by decide) (fun a S => ?_)
     refine lx_skip S rfl rfl (isB_ne hc122) (by decide) (fun a S => ?_)
     refine lx_skip S rfl rfl (isB_ne hc122) (by decide) (fun a S => ?_)
     refine lx_skip S rfl rfl rfl (by decide) (fun a S => ?_)
     refine lx_skip S rfl rfl rfl (by decide) (fun a S => ?_)
     refine lx_skip S rfl rfl rfl (by decide) (fun a S => ?_)
     refine lx_skip S rfl rfl rfl (by decide) (fun a S => ?_)
     refine lx_skip S rfl rfl rfl (by decide) (fun a S => ?_)
     refine lx_skip S rfl rfl rfl (by decide) (fun a S => ?_)
     refine lx_skip S rfl rfl rfl (by decide) (fun a S => ?_)
     refine lx_skip S rfl rfl (isB_ne hc122) (by decide) (fun a S => ?_)
     refine lq (.bool true) S (q_pickT' rfl hc122 rfl) fun a S => ?_
     refine lx_nil ?_
     obtain rfl := Option.some.inj hm
     exact ⟨S.sub ⟨rfl, rfl, rfl, rfl, rfl, rfl, trivial⟩, H⟩
    ·have hm := ite_f (eq_false_of_ne_true hc122) e121
     have hc122 : (!x117) = false := eq_false_of_ne_true hc122
     refine lx_q (.int .i64 x76) S (want_b rfl rfl hc122) (by decide) (q_move rfl) (fun a S => ?_)
     refine lx_q (.bool (decide ((0 : Int) < x76))) S (want_b rfl rfl hc122) (by decide) (q_gtr rfl rfl) (fun a S => ?_)
     refine lx_q (.bool (decide ((0 : Int) < x76))) S (want_b rfl rfl hc122) (by decide) (q_move rfl) (fun a S => ?_)
     obtain ⟨t123, e124, hm⟩ := bind_some hm
     refine lx_cut 8 (fun a w => Slots a 32 [(1, p1), (2, (bp b49)), (7, p1), (8, (.int .i64 (a1.length : Int))), (9, (.int .i64 x76)), (18, (.bool (!x117))), (29, (.bool t123))] ∧ Heap w0 [bA b49 [(.int .i64 a0.1), (.int .i64 a0.2.1), v33, v35] 30] w) ?_ ?_
     ·by_cases hc125 : (decide ((0 : Int) < x76)) = true
      ·have hm := ite_t hc125 e124
       refine lx_q (.int .i64 x110) S (want_b rfl rfl hc125) (by decide) (q_move rfl) (fun a S => ?_)
       refine lx_q p1 S (want_b rfl rfl hc125) (by decide) (q_move rfl) (fun a S => ?_)
       refine lx_q (.int .i64 x76) S (want_b rfl rfl hc125) (by decide) (q_move rfl) (fun a S => ?_)
       refine lx_q (.int .i64 (W (x76 - (1 : Int)))) S (want_b rfl rfl hc125) (by decide) (q_sub rfl rfl) (fun a S => ?_)
       obtain ⟨x126, e127, hm⟩ := bind_some hm
       obtain ⟨c128, h129, hat130⟩ := (h1).elem (idx_some e127).2
       obtain rfl := h129
       have hlt := lt_of_idx (idx_some e127).2
       refine lx_q (ePtr p1 ((W (x76 - (1 : Int))).toNat * 1)) S (want_b rfl rfl hc125) (by decide) (q_indexAddr rfl (h1).isSl rfl (idx_some e127).1 hlt Tryz.underlying34 Tryz.sizeOf2) (fun a S => ?_)
       refine lx_e (.int .i64 x126) S (want_b rfl rfl hc125) (by decide) rfl trivial (q_load1 rfl Tryz.isAgg2 (by rintro _ rfl; exact ((hat130 0 _ rfl).ext H.ext))) (fun a S => ?_)
       refine lx_q (.bool (decide (x110 ≤ x126))) S (want_b rfl rfl hc125) (by decide) (q_leq rfl rfl) (fun a S => ?_)
       refine lx_q (.bool (decide (x110 ≤ x126))) S (want_b rfl rfl hc122) (by decide) (q_pickT' rfl hc125 rfl) (fun a S => ?_)
       refine lx_nil ?_
       obtain rfl := Option.some.inj hm
       exact ⟨S.sub ⟨rfl, rfl, rfl, rfl, rfl, rfl, rfl, trivial⟩, H⟩
      ·have hm := ite_f (eq_false_of_ne_true hc125) e124
       have hc125 : (decide ((0 : Int) < x76)) = false := eq_false_of_ne_true hc125
       refine lx_skip S rfl rfl (isB_ne hc125) (by decide) (fun a S => ?_)
       refine lx_skip S rfl rfl (isB_ne hc125) (by decide) (fun a S => ?_)
       refine lx_skip S rfl rfl (isB_ne hc125) (by decide) (fun a S => ?_)
       refine lx_skip S rfl rfl (isB_ne hc125) (by decide) (fun a S => ?_)
       refine lx_skip S rfl rfl (isB_ne hc125) (by decide) (fun a S => ?_)
       refine lx_skip S rfl rfl (isB_ne hc125) (by decide) (fun a S => ?_)
       refine lx_skip S rfl rfl (isB_ne hc125) (by decide) (fun a S => ?_)
       refine lx_q (.bool false) S (want_b rfl rfl hc122) (by decide) (q_pickF' rfl hc125 rfl) (fun a S => ?_)
       refine lx_nil ?_
       obtain rfl := Option.some.inj hm
       exact ⟨S.sub ⟨rfl, rfl, rfl, rfl, rfl, rfl, rfl, trivial⟩, H⟩
     ·rintro a w ⟨S, H⟩
      refine lq (.bool t123) S (q_pickF' rfl hc122 rfl) fun a S => ?_
      refine lx_nil ?_
      obtain rfl := Option.some.inj hm
      exact ⟨S.sub ⟨rfl, rfl, rfl, rfl, rfl, rfl, trivial⟩, H⟩
   ·rintro a w ⟨S, H⟩
    refine lx_nil (thenN ?_)
    refine cond_b S rfl (fun hc131 => ?_) (fun hc131 => ?_)
    ·have hm := ite_t hc131 hm
     refine wp_seq (region_plain ?_)
     refine lq (.bool false) S (q_assign rfl) fun a S => ?_
     refine lx_nil (thenN ?_)
     refine wp_ret (inBlock_ret ?_)
     refine then_ret ?_
     refine then_ret ?_
     refine inBlock_ret ?_
     refine then_ret ?_
     refine then_ret ?_
     obtain rfl := it_brk hm hc108
     have hm := ctl_inr hk105
     obtain rfl := Option.some.inj hm
     have H : Heap w0 [] w := H.sel [] (by decide)
     exact leave1 S rfl rfl ⟨rfl, H⟩
    ·have hm := ite_f hc131 hm
     refine wp_skip ?_
     refine inBlock_norm ?_
     refine thenN ?_
     refine region_plain ?_
     refine lq (.int .i64 (W (x76 + (1 : Int)))) S (q_add rfl rfl) fun a S => ?_
     refine lq (.int .i64 (W (x76 + (1 : Int)))) S (q_move rfl) fun a S => ?_
     refine lx_nil ?_
     exact ⟨m106, Nat.lt_succ_self _, (W (x76 + (1 : Int))), S.sub ⟨rfl, rfl, rfl, rfl, rfl, trivial⟩, H, it_cont hm hc108⟩
  ·have hm := ite_f hc109 hm
   refine wp_exit ?_
   refine then_exit ?_
   refine then_exit ?_
   refine inBlock_exit ?_
   obtain rfl := it_brk hm hc108
   have H : Heap w0 [] w := H.sel [] (by decide)
   exact ⟨S.sub trivial, H, rfl⟩
end Go.Proofs.YtkgkfbmcnchdbaaGreatDoor
