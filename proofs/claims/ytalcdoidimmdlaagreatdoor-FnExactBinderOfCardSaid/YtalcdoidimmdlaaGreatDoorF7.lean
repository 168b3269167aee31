/- The models of some functions and their walks (printed by a program of this repo). -/
import Derived.Test.YtalcdoidimmdlaaGreatDoorF0
import Derived.Test.YtalcdoidimmdlaaGreatDoorF1
import Derived.Test.YtalcdoidimmdlaaGreatDoorF2
import Derived.Test.YtalcdoidimmdlaaGreatDoorF3
import Derived.Test.YtalcdoidimmdlaaGreatDoorGxT
import Derived.Test.YtalcdoidimmdlaaGreatDoorGxY
namespace Go.Proofs.YtalcdoidimmdlaaGreatDoor
open Go.RowKit Go.Gx

/-- spec.l19Fixed -/
def spec_l19Fixed_m (_ : Nat) (a0 : Timpl_Node) : Option (Bool) :=
  (if (a0.1 == (7 : Int)) = true then some true else some (a0.1 == (8 : Int))).bind fun t46 => some (t46)
set_option maxRecDepth 20000 in
theorem spec_l19Fixed_ok {w0 : World} {fuel : Nat} {p0 : Value} {a0 : Timpl_Node} {r : Bool} (h0 : Rd (rPtr Rimpl_Node) w0 p0 a0) (hm : spec_l19Fixed_m fuel a0 = some r) :
  Calls Tryz.prog 64 #[p0] w0 fun e w => e = .returned (.bool r) ∧ Heap w0 [] w := by
 unfold spec_l19Fixed_m at hm
 have H := Heap.start w0
 obtain ⟨c31, h32, hat33⟩ := h0.ptr
 obtain ⟨c34, c35, rfl, h36, h37⟩ := h32
 obtain rfl := h36
 obtain ⟨c38, c39, rfl, h40, h41⟩ := h37
 obtain rfl := h40
 obtain ⟨c42, c43, rfl, h44, h45⟩ := h41
 obtain rfl := h44
 obtain rfl := h45
 refine enter (args := [p0]) Tryz.func64 rfl 15 rfl (Nat.le_of_ble_eq_true rfl) (fun a S => ?_)
 refine wp_seq (region_plain ?_)
 refine lq (.bool false) S (q_assign rfl) fun a S => ?_
 refine lx_nil (thenN ?_)
 refine wp_seq (region_plain ?_)
 refine lq p0 S (q_move rfl) fun a S => ?_
 refine lq p0 S (q_nilCheck rfl ((hat33 0 _ rfl).isP)) fun a S => ?_
 refine lq (pAdd p0 0) S (q_fieldAddr' 0 2 rfl ((hat33 0 _ rfl).isP) Tryz.underlying57 rfl Tryz.sizeOf2) fun a S => ?_
 refine lx_e (.int .i64 a0.1) S trivial (by decide) rfl trivial (q_load1 rfl Tryz.isAgg2 (by rintro _ rfl; exact (At.of_add (m := 0) (j := 0) ((hat33 0 _ rfl).ext H.ext)))) (fun a S => ?_)
 refine lq (.bool (a0.1 == (7 : Int))) S (q_eql rfl rfl) fun a S => ?_
 refine lq (.bool (a0.1 == (7 : Int))) S (q_move rfl) fun a S => ?_
 obtain ⟨t46, e47, hm⟩ := bind_some hm
 refine lx_cut 6 (fun a w => Slots a 15 [(14, (.bool t46))] ∧ Heap w0 [] w) ?_ ?_
 ·by_cases hc48 : (a0.1 == (7 : Int)) = true
  ·have hm := ite_t hc48 e47
   refine lx_skip S rfl rfl (isB_ne hc48) (by decide) (fun a S => ?_)
   refine lx_skip S rfl rfl (isB_ne hc48) (by decide) (fun a S => ?_)
   refine lx_skip S rfl rfl (isB_ne hc48) (by decide) (fun a S => ?_)
   refine lx_skip S rfl rfl (isB_ne hc48) (by decide) (fun a S => ?_)
   refine lx_skip S rfl rfl (isB_ne hc48) (by decide) (fun a S => ?_)
   refine lq (.bool true) S (q_pickT' rfl hc48 rfl) fun a S => ?_
   refine lx_nil ?_
   obtain rfl := Option.some.inj hm
   exact ⟨S.sub ⟨rfl, trivial⟩, H⟩
  ·have hm := ite_f (eq_false_of_ne_true hc48) e47
   have hc48 : (a0.1 == (7 : Int)) = false := eq_false_of_ne_true hc48
   refine lx_q p0 S (want_b rfl rfl hc48) (by decide) (q_move rfl) (fun a S => ?_)
   refine lx_q p0 S (want_b rfl rfl hc48) (by decide) (q_nilCheck rfl ((hat33 0 _ rfl).isP)) (fun a S => ?_)
   refine lx_q (pAdd p0 0) S (want_b rfl rfl hc48) (by decide) (q_fieldAddr' 0 2 rfl ((hat33 0 _ rfl).isP) Tryz.underlying57 rfl Tryz.sizeOf2) (fun a S => ?_)
   refine lx_e (.int .i64 a0.1) S (want_b rfl rfl hc48) (by decide) rfl trivial (q_load1 rfl Tryz.isAgg2 (by rintro _ rfl; exact (At.of_add (m := 0) (j := 0) ((hat33 0 _ rfl).ext H.ext)))) (fun a S => ?_)
   refine lx_q (.bool (a0.1 == (8 : Int))) S (want_b rfl rfl hc48) (by decide) (q_eql rfl rfl) (fun a S => ?_)
   refine lq (.bool (a0.1 == (8 : Int))) S (q_pickF' rfl hc48 rfl) fun a S => ?_
   refine lx_nil ?_
   obtain rfl := Option.some.inj hm
   exact ⟨S.sub ⟨rfl, trivial⟩, H⟩
 ·rintro a w ⟨S, H⟩
  refine lq (.bool t46) S (q_assign rfl) fun a S => ?_
  refine lx_nil (thenN ?_)
  refine wp_ret ?_
  obtain rfl := Option.some.inj hm
  exact leave1 S rfl rfl ⟨rfl, H⟩

/-- spec.l19End -/
def spec_l19End_m (fuel : Nat) (a0 : (List Timpl_Node)) (a1 : Int) : Option (Int) :=
  (iter (fun (s : (Int) × (Int)) => (match s with | (x56, x57) => (if (decide ((0 : Int) < x57)) = true then (idx a0 x56).bind fun x93 => (spec_l14Arity_m fuel x93.1).bind fun x112 => some (.inl ((W (x56 + (1 : Int))), (W (x57 + (W (x112 - (1 : Int))))))) else some (.inr (.inl (x56)))) : Option (((Int) × (Int)) ⊕ ((Int) ⊕ (Int))))) fuel (a1, (1 : Int))).bind fun res84 => ctl (β := Int) (ρ := Int) (τ := Int) res84 (fun (x83) => some (x83)) (fun q => some (q))
set_option maxRecDepth 20000 in
theorem spec_l19End_ok {w0 : World} {fuel : Nat} {p0 : Value} {a0 : (List Timpl_Node)} {a1 : Int} {r : Int} (h0 : Rd (rList Rimpl_Node) w0 p0 a0) (hm : spec_l19End_m fuel a0 a1 = some r) :
  Calls Tryz.prog 31 #[p0, .int .i64 a1] w0 fun e w => e = .returned (.int .i64 r) ∧ Heap w0 [] w := by
 unfold spec_l19End_m at hm
 have H := Heap.start w0
 refine enter (args := [p0, .int .i64 a1]) Tryz.func31 rfl 20 rfl (Nat.le_of_ble_eq_true rfl) (fun a S => ?_)
 refine wp_seq (region_plain ?_)
 refine lq (.int .i64 (0 : Int)) S (q_assign rfl) fun a S => ?_
 refine lx_nil (thenN ?_)
 refine wp_seq (region_plain ?_)
 refine lq (.int .i64 (1 : Int)) S (q_assign rfl) fun a S => ?_
 refine lx_nil (thenN ?_)
 refine wp_seq ?_
 obtain ⟨res84, hit85, hk88⟩ := bind_some hm
 obtain ⟨f86, hf87, hit85⟩ := iter_name hit85
 refine block_loop (fun a w => ∃ (x83 : Int), Slots a 20 [(1, (.int .i64 x83))] ∧ Heap w0 [] w ∧ res84 = .inl (x83)) ?_ ?_
 ·rintro a w ⟨x83, S, H, rfl⟩
  have hm := ctl_inl hk88
  refine thenN ?_
  refine wp_seq (region_plain ?_)
  refine lq (.int .i64 x83) S (q_move rfl) fun a S => ?_
  refine lq (.int .i64 x83) S (q_assign rfl) fun a S => ?_
  refine lx_nil (thenN ?_)
  refine wp_ret ?_
  obtain rfl := Option.some.inj hm
  exact leave1 S rfl rfl ⟨rfl, H⟩
 ·skip
  refine loop_ghost (fun n a w => ∃ (x56 : Int) (x57 : Int), Slots a 20 [(0, p0), (1, (.int .i64 x56)), (5, (.int .i64 x57))] ∧ Heap w0 [] w ∧ iter f86 n (x56, x57) = some res84) _ ⟨a1, (1 : Int), S.sub ⟨rfl, rfl, rfl, trivial⟩, H, hit85⟩ ?_
  rintro n a w ⟨x56, x57, S, H, hit85⟩
  obtain ⟨m89, o90, rfl, hm, hc91⟩ := iter_step hit85
  rw [hf87] at hm
  refine wp_seq (wp_seq (region_plain ?_))
  refine lq (.int .i64 x57) S (q_move rfl) fun a S => ?_
  refine lq (.bool (decide ((0 : Int) < x57))) S (q_gtr rfl rfl) fun a S => ?_
  refine lx_nil (thenN ?_)
  refine cond_b S rfl (fun hc92 => ?_) (fun hc92 => ?_)
  ·have hm := ite_t hc92 hm
   refine wp_skip (thenN ?_)
   refine wp_block ?_
   refine wp_seq (region_plain ?_)
   refine lq (.int .i64 x57) S (q_move rfl) fun a S => ?_
   refine lq p0 S (q_move rfl) fun a S => ?_
   refine lq (.int .i64 x56) S (q_move rfl) fun a S => ?_
   obtain ⟨x93, e94, hm⟩ := bind_some hm
   obtain ⟨c95, h96, hat97⟩ := (h0).elem (idx_some e94).2
   obtain ⟨c98, c99, rfl, h100, h101⟩ := h96
   obtain rfl := h100
   obtain ⟨c102, c103, rfl, h104, h105⟩ := h101
   obtain rfl := h104
   obtain ⟨c106, c107, rfl, h108, h109⟩ := h105
   obtain rfl := h108
   obtain rfl := h109
   have hlt := lt_of_idx (idx_some e94).2
   refine lq (ePtr p0 (x56.toNat * 4)) S (q_indexAddr rfl (h0).isSl rfl (idx_some e94).1 hlt Tryz.underlying26 Tryz.sizeOf57) fun a S => ?_
   refine lq (pAdd (ePtr p0 (x56.toNat * 4)) 0) S (q_fieldAddr' 0 2 rfl ((hat97 0 _ rfl).isP) Tryz.underlying57 rfl Tryz.sizeOf2) fun a S => ?_
   refine lx_e (.int .i64 x93.1) S trivial (by decide) rfl trivial (q_load1 rfl Tryz.isAgg2 (by rintro _ rfl; exact (At.of_add (m := 0) (j := 0) ((hat97 0 _ rfl).ext H.ext)))) (fun a S => ?_)
   obtain ⟨x112, e113, hm⟩ := bind_some hm
   refine lx_call (xs := [.tmp 13]) S trivial (by decide) rfl rfl Tryz.call60 ((spec_l14Arity_ok  e113).mono ?_)
   rintro e w110 ⟨rfl, Hc111⟩
   have H := H.call0 Hc111
   refine ⟨_, rfl, trivial, fun a S => ?_⟩
   refine lq (.int .i64 (W (x112 - (1 : Int)))) S (q_sub rfl rfl) fun a S => ?_
   refine lq (.int .i64 (W (x57 + (W (x112 - (1 : Int)))))) S (q_add rfl rfl) fun a S => ?_
   refine lq (.int .i64 (W (x57 + (W (x112 - (1 : Int)))))) S (q_assign rfl) fun a S => ?_
   refine lx_nil (thenN ?_)
   refine region_plain ?_
   refine lq (.int .i64 x56) S (q_move rfl) fun a S => ?_
   refine lq (.int .i64 (W (x56 + (1 : Int)))) S (q_add rfl rfl) fun a S => ?_
   refine lq (.int .i64 (W (x56 + (1 : Int)))) S (q_assign rfl) fun a S => ?_
   refine lx_nil ?_
   refine inBlock_norm ?_
   exact ⟨m89, Nat.lt_succ_self _, (W (x56 + (1 : Int))), (W (x57 + (W (x112 - (1 : Int))))), S.sub ⟨rfl, rfl, rfl, trivial⟩, H, it_cont hm hc91⟩
  ·have hm := ite_f hc92 hm
   refine wp_exit ?_
   refine then_exit ?_
   refine then_exit ?_
   refine inBlock_exit ?_
   obtain rfl := it_brk hm hc91
   exact ⟨x56, S.sub ⟨rfl, trivial⟩, H, rfl⟩

/-- spec.l19Binder -/
def spec_l19Binder_m (fuel : Nat) (a0 : (List Timpl_Node)) (a1 : Int) : Option (Int) :=
  (iter (fun (s : (Int)) => (match s with | (x103) => (if (decide ((0 : Int) ≤ x103)) = true then (idx a0 x103).bind fun x187 => (spec_l19Fixed_m fuel x187).bind fun x206 => (if x206 = true then (idx a0 x103).bind fun x212 => (idx a0 a1).bind fun x229 => some (x212.2.1 == x229.2.1) else some false).bind fun t209 => (if t209 = true then (spec_l19End_m fuel a0 x103).bind fun x251 => some (decide (a1 < x251)) else some false).bind fun t246 => (if t246 = true then some (.inr (.inr x103)) else some (.inl ((W (x103 - (1 : Int)))))) else some (.inr (.inl ()))) : Option (((Int)) ⊕ ((Unit) ⊕ (Int))))) fuel ((W (a1 - (1 : Int))))).bind fun res176 => ctl (β := Unit) (ρ := Int) (τ := Int) res176 (fun _ => some ((-1 : Int))) (fun q => some (q))
set_option maxRecDepth 20000 in
theorem spec_l19Binder_ok {w0 : World} {fuel : Nat} {p0 : Value} {a0 : (List Timpl_Node)} {a1 : Int} {r : Int} (h0 : Rd (rList Rimpl_Node) w0 p0 a0) (hm : spec_l19Binder_m fuel a0 a1 = some r) :
  Calls Tryz.prog 36 #[p0, .int .i64 a1] w0 fun e w => e = .returned (.int .i64 r) ∧ Heap w0 [] w := by
 unfold spec_l19Binder_m at hm
 have H := Heap.start w0
 refine enter (args := [p0, .int .i64 a1]) Tryz.func36 rfl 37 rfl (Nat.le_of_ble_eq_true rfl) (fun a S => ?_)
 refine wp_seq (region_plain ?_)
 refine lq (.int .i64 (0 : Int)) S (q_assign rfl) fun a S => ?_
 refine lx_nil (thenN ?_)
 refine wp_seq (wp_seq (region_plain ?_))
 refine lq (.int .i64 a1) S (q_move rfl) fun a S => ?_
 refine lq (.int .i64 (W (a1 - (1 : Int)))) S (q_sub rfl rfl) fun a S => ?_
 refine lq (.int .i64 (W (a1 - (1 : Int)))) S (q_assign rfl) fun a S => ?_
 refine lx_nil (thenN ?_)
 obtain ⟨res176, hit177, hk180⟩ := bind_some hm
 obtain ⟨f178, hf179, hit177⟩ := iter_name hit177
 refine block_loop (fun a w => Slots a 37 [] ∧ Heap w0 [] w ∧ res176 = .inl ()) ?_ ?_
 ·rintro a w ⟨S, H, rfl⟩
  have hm := ctl_inl hk180
  refine thenN ?_
  refine wp_seq (region_plain ?_)
  refine lq (.int .i64 (-1 : Int)) S (q_assign rfl) fun a S => ?_
  refine lx_nil (thenN ?_)
  refine wp_ret ?_
  obtain rfl := Option.some.inj hm
  exact leave1 S rfl rfl ⟨rfl, H⟩
 ·skip
  refine loop_ghost (fun n a w => ∃ (x103 : Int), Slots a 37 [(0, p0), (1, (.int .i64 a1)), (5, (.int .i64 x103))] ∧ Heap w0 [] w ∧ iter f178 n (x103) = some res176) _ ⟨(W (a1 - (1 : Int))), S.sub ⟨rfl, rfl, rfl, trivial⟩, H, hit177⟩ ?_
  rintro n a w ⟨x103, S, H, hit177⟩
  obtain ⟨m181, o182, rfl, hm, hc183⟩ := iter_step hit177
  rw [hf179] at hm
  refine wp_seq (wp_seq (region_plain ?_))
  refine lq (.int .i64 x103) S (q_move rfl) fun a S => ?_
  refine lq (.bool (decide ((0 : Int) ≤ x103))) S (q_geq rfl rfl) fun a S => ?_
  refine lx_nil (thenN ?_)
  refine cond_b S rfl (fun hc184 => ?_) (fun hc184 => ?_)
  ·have hm := ite_t hc184 hm
   refine wp_skip (thenN ?_)
   refine wp_seq ?_
   refine wp_block ?_
   refine wp_seq ?_
   refine region_drawG (fun w1 => Heap w0 [] w1) (fun i => [3, 20].contains i) mixed (by kernel_rfl) (fun w186 he185 => ?_)
   have H := H.later he185
   refine ⟨H.sel [] (by decide), ?_⟩
   refine lq p0 S (q_move rfl) fun a S => ?_
   refine lq (.int .i64 x103) S (q_move rfl) fun a S => ?_
   obtain ⟨x187, e188, hm⟩ := bind_some hm
   obtain ⟨c189, h190, hat191⟩ := (h0).elem (idx_some e188).2
   obtain ⟨c192, c193, rfl, h194, h195⟩ := h190
   obtain rfl := h194
   obtain ⟨c196, c197, rfl, h198, h199⟩ := h195
   obtain rfl := h198
   obtain ⟨c200, c201, rfl, h202, h203⟩ := h199
   obtain rfl := h202
   obtain rfl := h203
   have hlt := lt_of_idx (idx_some e188).2
   refine lq (ePtr p0 (x103.toNat * 4)) S (q_indexAddr rfl (h0).isSl rfl (idx_some e188).1 hlt Tryz.underlying26 Tryz.sizeOf57) fun a S => ?_
   obtain ⟨x206, e207, hm⟩ := bind_some hm
   refine lx_call (xs := [.tmp 14]) S trivial (by decide) rfl rfl Tryz.call64 ((spec_l19Fixed_ok ((H.arg h0).elemPtr (idx_some e188).2) e207).mono ?_)
   rintro e w204 ⟨rfl, Hc205⟩
   have H := H.call0 Hc205
   refine ⟨_, rfl, H.sel [] (by decide), fun a S => ?_⟩
   refine lq (.bool x206) S (q_move rfl) fun a S => ?_
   obtain ⟨t209, e210, hm⟩ := bind_some hm
   refine lx_cut 12 (fun a w => Slots a 37 [(0, p0), (1, (.int .i64 a1)), (5, (.int .i64 x103)), (28, (.bool t209))] ∧ Heap w0 [] w) ?_ ?_
   ·by_cases hc211 : x206 = true
    ·have hm := ite_t hc211 e210
     refine lx_q p0 S (want_b rfl rfl hc211) (by decide) (q_move rfl) (fun a S => ?_)
     refine lx_q (.int .i64 x103) S (want_b rfl rfl hc211) (by decide) (q_move rfl) (fun a S => ?_)
     obtain ⟨x212, e213, hm⟩ := bind_some hm
     obtain ⟨c214, h215, hat216⟩ := (h0).elem (idx_some e213).2
     obtain ⟨c217, c218, rfl, h219, h220⟩ := h215
     obtain rfl := h219
     obtain ⟨c221, c222, rfl, h223, h224⟩ := h220
     obtain rfl := h223
     obtain ⟨c225, c226, rfl, h227, h228⟩ := h224
     obtain rfl := h227
     obtain rfl := h228
     have hlt := lt_of_idx (idx_some e213).2
     refine lx_q (ePtr p0 (x103.toNat * 4)) S (want_b rfl rfl hc211) (by decide) (q_indexAddr rfl (h0).isSl rfl (idx_some e213).1 hlt Tryz.underlying26 Tryz.sizeOf57) (fun a S => ?_)
     refine lx_q (pAdd (ePtr p0 (x103.toNat * 4)) 1) S (want_b rfl rfl hc211) (by decide) (q_fieldAddr' 1 2 rfl ((hat216 0 _ rfl).isP) Tryz.underlying57 rfl Tryz.sizeOf2) (fun a S => ?_)
     refine lx_q (.int .i64 x212.2.1) S (want_b rfl rfl hc211) (by decide) (q_load1 rfl Tryz.isAgg2 (fun w1 hC => (At.of_add (m := 1) (j := 0) ((hat216 1 _ rfl).ext hC.ext)))) (fun a S => ?_)
     refine lx_q p0 S (want_b rfl rfl hc211) (by decide) (q_move rfl) (fun a S => ?_)
     refine lx_q (.int .i64 a1) S (want_b rfl rfl hc211) (by decide) (q_move rfl) (fun a S => ?_)
     obtain ⟨x229, e230, hm⟩ := bind_some hm
     obtain ⟨c231, h232, hat233⟩ := (h0).elem (idx_some e230).2
     obtain ⟨c234, c235, rfl, h236, h237⟩ := h232
     obtain rfl := h236
     obtain ⟨c238, c239, rfl, h240, h241⟩ := h237
     obtain rfl := h240
     obtain ⟨c242, c243, rfl, h244, h245⟩ := h241
     obtain rfl := h244
     obtain rfl := h245
     have hlt := lt_of_idx (idx_some e230).2
     refine lx_q (ePtr p0 (a1.toNat * 4)) S (want_b rfl rfl hc211) (by decide) (q_indexAddr rfl (h0).isSl rfl (idx_some e230).1 hlt Tryz.underlying26 Tryz.sizeOf57) (fun a S => ?_)
     refine lx_q (pAdd (ePtr p0 (a1.toNat * 4)) 1) S (want_b rfl rfl hc211) (by decide) (q_fieldAddr' 1 2 rfl ((hat233 0 _ rfl).isP) Tryz.underlying57 rfl Tryz.sizeOf2) (fun a S => ?_)
     refine lx_q (.int .i64 x229.2.1) S (want_b rfl rfl hc211) (by decide) (q_load1 rfl Tryz.isAgg2 (fun w1 hC => (At.of_add (m := 1) (j := 0) ((hat233 1 _ rfl).ext hC.ext)))) (fun a S => ?_)
     refine lx_q (.bool (x212.2.1 == x229.2.1)) S (want_b rfl rfl hc211) (by decide) (q_eql rfl rfl) (fun a S => ?_)
     refine lq (.bool (x212.2.1 == x229.2.1)) S (q_pickT' rfl hc211 rfl) fun a S => ?_
     refine lx_nil ?_
     obtain rfl := Option.some.inj hm
     exact ⟨S.sub ⟨rfl, rfl, rfl, rfl, trivial⟩, H⟩
    ·have hm := ite_f (eq_false_of_ne_true hc211) e210
     have hc211 : x206 = false := eq_false_of_ne_true hc211
     refine lx_skip S rfl rfl (isB_ne hc211) (by decide) (fun a S => ?_)
     refine lx_skip S rfl rfl (isB_ne hc211) (by decide) (fun a S => ?_)
     refine lx_skip S rfl rfl (isB_ne hc211) (by decide) (fun a S => ?_)
     refine lx_skip S rfl rfl (isB_ne hc211) (by decide) (fun a S => ?_)
     refine lx_skip S rfl rfl (isB_ne hc211) (by decide) (fun a S => ?_)
     refine lx_skip S rfl rfl (isB_ne hc211) (by decide) (fun a S => ?_)
     refine lx_skip S rfl rfl (isB_ne hc211) (by decide) (fun a S => ?_)
     refine lx_skip S rfl rfl (isB_ne hc211) (by decide) (fun a S => ?_)
     refine lx_skip S rfl rfl (isB_ne hc211) (by decide) (fun a S => ?_)
     refine lx_skip S rfl rfl (isB_ne hc211) (by decide) (fun a S => ?_)
     refine lx_skip S rfl rfl (isB_ne hc211) (by decide) (fun a S => ?_)
     refine lq (.bool false) S (q_pickF' rfl hc211 rfl) fun a S => ?_
     refine lx_nil ?_
     obtain rfl := Option.some.inj hm
     exact ⟨S.sub ⟨rfl, rfl, rfl, rfl, trivial⟩, H⟩
   ·rintro a w ⟨S, H⟩
    refine lq (.bool t209) S (q_move rfl) fun a S => ?_
    obtain ⟨t246, e247, hm⟩ := bind_some hm
    refine lx_cut 6 (fun a w => Slots a 37 [(0, p0), (1, (.int .i64 a1)), (5, (.int .i64 x103)), (35, (.bool t246))] ∧ Heap w0 [] w) ?_ ?_
    ·by_cases hc248 : t209 = true
     ·have hm := ite_t hc248 e247
      refine lx_q p0 S (want_b rfl rfl hc248) (by decide) (q_move rfl) (fun a S => ?_)
      refine lx_q (.int .i64 x103) S (want_b rfl rfl hc248) (by decide) (q_move rfl) (fun a S => ?_)
      obtain ⟨x251, e252, hm⟩ := bind_some hm
      refine lx_call (xs := [.tmp 30, .tmp 31]) S (want_b rfl rfl hc248) (by decide) rfl rfl Tryz.call31 ((spec_l19End_ok (H.arg h0)  e252).mono ?_)
      rintro e w249 ⟨rfl, Hc250⟩
      have H := H.call0 Hc250
      refine ⟨_, rfl, H.sel [] (by decide), fun a S => ?_⟩
      refine lx_q (.int .i64 a1) S (want_b rfl rfl hc248) (by decide) (q_move rfl) (fun a S => ?_)
      refine lx_q (.bool (decide (a1 < x251))) S (want_b rfl rfl hc248) (by decide) (q_gtr rfl rfl) (fun a S => ?_)
      refine lq (.bool (decide (a1 < x251))) S (q_pickT' rfl hc248 rfl) fun a S => ?_
      refine lx_nil ?_
      obtain rfl := Option.some.inj hm
      exact ⟨S.sub ⟨rfl, rfl, rfl, rfl, trivial⟩, H⟩
     ·have hm := ite_f (eq_false_of_ne_true hc248) e247
      have hc248 : t209 = false := eq_false_of_ne_true hc248
      refine lx_skip S rfl rfl (isB_ne hc248) (by decide) (fun a S => ?_)
      refine lx_skip S rfl rfl (isB_ne hc248) (by decide) (fun a S => ?_)
      refine lx_skip S rfl rfl (isB_ne hc248) (by decide) (fun a S => ?_)
      refine lx_skip S rfl rfl (isB_ne hc248) (by decide) (fun a S => ?_)
      refine lx_skip S rfl rfl (isB_ne hc248) (by decide) (fun a S => ?_)
      refine lq (.bool false) S (q_pickF' rfl hc248 rfl) fun a S => ?_
      refine lx_nil ?_
      obtain rfl := Option.some.inj hm
      exact ⟨S.sub ⟨rfl, rfl, rfl, rfl, trivial⟩, H⟩
    ·rintro a w ⟨S, H⟩
     refine lx_nil (thenN ?_)
     refine cond_b S rfl (fun hc254 => ?_) (fun hc254 => ?_)
     ·have hm := ite_t hc254 hm
      refine wp_seq (region_plain ?_)
      refine lq (.int .i64 x103) S (q_move rfl) fun a S => ?_
      refine lq (.int .i64 x103) S (q_assign rfl) fun a S => ?_
      refine lx_nil (thenN ?_)
      refine wp_ret (inBlock_ret ?_)
      refine then_ret ?_
      refine then_ret ?_
      refine inBlock_ret ?_
      refine then_ret ?_
      refine then_ret ?_
      obtain rfl := it_brk hm hc183
      have hm := ctl_inr hk180
      obtain rfl := Option.some.inj hm
      exact leave1 S rfl rfl ⟨rfl, H⟩
     ·have hm := ite_f hc254 hm
      refine wp_skip ?_
      refine inBlock_norm ?_
      refine thenN ?_
      refine region_plain ?_
      refine lq (.int .i64 x103) S (q_move rfl) fun a S => ?_
      refine lq (.int .i64 (W (x103 - (1 : Int)))) S (q_sub rfl rfl) fun a S => ?_
      refine lq (.int .i64 (W (x103 - (1 : Int)))) S (q_assign rfl) fun a S => ?_
      refine lx_nil ?_
      exact ⟨m181, Nat.lt_succ_self _, (W (x103 - (1 : Int))), S.sub ⟨rfl, rfl, rfl, trivial⟩, H, it_cont hm hc183⟩
  ·have hm := ite_f hc184 hm
   refine wp_exit ?_
   refine then_exit ?_
   refine then_exit ?_
   refine inBlock_exit ?_
   obtain rfl := it_brk hm hc183
   exact ⟨S.sub trivial, H, rfl⟩

/-- spec.l19Is -/
def spec_l19Is_m (fuel : Nat) (a0 : (List Timpl_Node)) : Option (Bool) :=
  (spec_l14Shape_m fuel a0 (30 : Int) (8 : Int)).bind fun x33 => (if (!x33) = true then some (false) else (iter (fun (s : (Int)) => (match s with | (x151) => (if (decide (x151 < (a0.length : Int))) = true then join (κ := Option (((Int)) ⊕ ((Unit) ⊕ (Bool)))) ((idx a0 x151).bind fun x277 => (if (x277.1 == (6 : Int)) = true then (spec_l19Binder_m fuel a0 x151).bind fun x299 => some (decide (x299 < (0 : Int))) else some false).bind fun t294 => (if t294 = true then some (.inr (.inr false)) else some (.inl ((W (x151 + (1 : Int))))))) (fun K275 => (idx a0 x151).bind fun x303 => (spec_l19Fixed_m fuel x303).bind fun x322 => (if x322 = true then some true else (idx a0 x151).bind fun x328 => some (x328.1 == (6 : Int))).bind fun t325 => (if t325 = true then (idx a0 x151).bind fun x346 => (spec_l00In_m fuel x346.2.1 (0 : Int) (2 : Int)).bind fun x365 => (if (!x365) = true then some (.inr (.inr false)) else K275) else (idx a0 x151).bind fun x369 => (if (x369.2.1 != (0 : Int)) = true then some (.inr (.inr false)) else K275))) else some (.inr (.inl ()))) : Option (((Int)) ⊕ ((Unit) ⊕ (Bool))))) fuel ((0 : Int))).bind fun res266 => ctl (β := Unit) (ρ := Bool) (τ := Bool) res266 (fun _ => some (true)) (fun q => some (q)))
set_option maxRecDepth 20000 in
theorem spec_l19Is_ok {w0 : World} {fuel : Nat} {p0 : Value} {a0 : (List Timpl_Node)} {r : Bool} (h0 : Rd (rList Rimpl_Node) w0 p0 a0) (hm : spec_l19Is_m fuel a0 = some r) :
  Calls Tryz.prog 59 #[p0] w0 fun e w => e = .returned (.bool r) ∧ Heap w0 [] w := by
 unfold spec_l19Is_m at hm
 have H := Heap.start w0
 refine enter (args := [p0]) Tryz.func59 rfl 50 rfl (Nat.le_of_ble_eq_true rfl) (fun a S => ?_)
 refine wp_seq (region_plain ?_)
 refine lq (.bool false) S (q_assign rfl) fun a S => ?_
 refine lx_nil (thenN ?_)
 refine wp_seq (wp_seq (region_plain ?_))
 refine lq p0 S (q_move rfl) fun a S => ?_
 obtain ⟨x33, e34, hm⟩ := bind_some hm
 refine lx_call (xs := [.tmp 4, .const (.int .i64 (30)), .const (.int .i64 (8))]) S trivial (by decide) rfl rfl Tryz.call66 ((spec_l14Shape_ok (H.arg h0)   e34).mono ?_)
 rintro e w31 ⟨rfl, Hc32⟩
 have H := H.call0 Hc32
 refine ⟨_, rfl, trivial, fun a S => ?_⟩
 refine lq (.bool (!x33)) S (q_not rfl) fun a S => ?_
 refine lx_nil (thenN ?_)
 refine cond_b S rfl (fun hc36 => ?_) (fun hc36 => ?_)
 ·have hm := ite_t hc36 hm
  refine wp_seq (region_plain ?_)
  refine lq (.bool false) S (q_assign rfl) fun a S => ?_
  refine lx_nil (thenN ?_)
  refine wp_ret (then_ret ?_)
  obtain rfl := Option.some.inj hm
  exact leave1 S rfl rfl ⟨rfl, H⟩
 ·have hm := ite_f hc36 hm
  refine wp_skip (thenN ?_)
  refine wp_seq (wp_seq (region_plain ?_))
  refine lq (.int .i64 (0 : Int)) S (q_assign rfl) fun a S => ?_
  refine lx_nil (thenN ?_)
  obtain ⟨res266, hit267, hk270⟩ := bind_some hm
  obtain ⟨f268, hf269, hit267⟩ := iter_name hit267
  refine block_loop (fun a w => Slots a 50 [] ∧ Heap w0 [] w ∧ res266 = .inl ()) ?_ ?_
  ·rintro a w ⟨S, H, rfl⟩
   have hm := ctl_inl hk270
   refine thenN ?_
   refine wp_seq (region_plain ?_)
   refine lq (.bool true) S (q_assign rfl) fun a S => ?_
   refine lx_nil (thenN ?_)
   refine wp_ret ?_
   obtain rfl := Option.some.inj hm
   exact leave1 S rfl rfl ⟨rfl, H⟩
  ·skip
   refine loop_ghost (fun n a w => ∃ (x151 : Int), Slots a 50 [(0, p0), (3, (.int .i64 x151))] ∧ Heap w0 [] w ∧ iter f268 n (x151) = some res266) _ ⟨(0 : Int), S.sub ⟨rfl, rfl, trivial⟩, H, hit267⟩ ?_
   rintro n a w ⟨x151, S, H, hit267⟩
   obtain ⟨m271, o272, rfl, hm, hc273⟩ := iter_step hit267
   rw [hf269] at hm
   refine wp_seq (wp_seq (region_plain ?_))
   refine lq (.int .i64 x151) S (q_move rfl) fun a S => ?_
   refine lq p0 S (q_move rfl) fun a S => ?_
   refine lq (.int .i64 (a0.length : Int)) S (q_lenSl rfl (h0).isSl rfl Tryz.underlying26) fun a S => ?_
   refine lq (.bool (decide (x151 < (a0.length : Int)))) S (q_lss rfl rfl) fun a S => ?_
   refine lx_nil (thenN ?_)
   refine cond_b S rfl (fun hc274 => ?_) (fun hc274 => ?_)
   ·have hm := ite_t hc274 hm
    refine wp_skip (thenN ?_)
    refine wp_seq ?_
    refine wp_block ?_
    obtain ⟨K275, hK276, hm⟩ := join_elim hm
    refine seq_cut (fun a w => Slots a 50 [(0, p0), (3, (.int .i64 x151))] ∧ Heap w0 [] w ∧ K275 = some o272) ?_ ?_
    ·rintro a w ⟨S, H, hm⟩
     subst hK276
     refine wp_seq (region_plain ?_)
     refine lq p0 S (q_move rfl) fun a S => ?_
     refine lq (.int .i64 x151) S (q_move rfl) fun a S => ?_
     obtain ⟨x277, e278, hm⟩ := bind_some hm
     obtain ⟨c279, h280, hat281⟩ := (h0).elem (idx_some e278).2
     obtain ⟨c282, c283, rfl, h284, h285⟩ := h280
     obtain rfl := h284
     obtain ⟨c286, c287, rfl, h288, h289⟩ := h285
     obtain rfl := h288
     obtain ⟨c290, c291, rfl, h292, h293⟩ := h289
     obtain rfl := h292
     obtain rfl := h293
     have hlt := lt_of_idx (idx_some e278).2
     refine lq (ePtr p0 (x151.toNat * 4)) S (q_indexAddr rfl (h0).isSl rfl (idx_some e278).1 hlt Tryz.underlying26 Tryz.sizeOf57) fun a S => ?_
     refine lq (pAdd (ePtr p0 (x151.toNat * 4)) 0) S (q_fieldAddr' 0 2 rfl ((hat281 0 _ rfl).isP) Tryz.underlying57 rfl Tryz.sizeOf2) fun a S => ?_
     refine lx_e (.int .i64 x277.1) S trivial (by decide) rfl trivial (q_load1 rfl Tryz.isAgg2 (by rintro _ rfl; exact (At.of_add (m := 0) (j := 0) ((hat281 0 _ rfl).ext H.ext)))) (fun a S => ?_)
     refine lq (.bool (x277.1 == (6 : Int))) S (q_eql rfl rfl) fun a S => ?_
     refine lq (.bool (x277.1 == (6 : Int))) S (q_move rfl) fun a S => ?_
     obtain ⟨t294, e295, hm⟩ := bind_some hm
     refine lx_cut 5 (fun a w => Slots a 50 [(0, p0), (3, (.int .i64 x151)), (49, (.bool t294))] ∧ Heap w0 [] w) ?_ ?_
     ·by_cases hc296 : (x277.1 == (6 : Int)) = true
      ·have hm := ite_t hc296 e295
       refine lx_q p0 S (want_b rfl rfl hc296) (by decide) (q_move rfl) (fun a S => ?_)
       refine lx_q (.int .i64 x151) S (want_b rfl rfl hc296) (by decide) (q_move rfl) (fun a S => ?_)
       obtain ⟨x299, e300, hm⟩ := bind_some hm
       refine lx_call (xs := [.tmp 45, .tmp 46]) S (want_b rfl rfl hc296) (by decide) rfl rfl Tryz.call36 ((spec_l19Binder_ok (H.arg h0)  e300).mono ?_)
       rintro e w297 ⟨rfl, Hc298⟩
       have H := H.call0 Hc298
       refine ⟨_, rfl, trivial, fun a S => ?_⟩
       refine lx_q (.bool (decide (x299 < (0 : Int)))) S (want_b rfl rfl hc296) (by decide) (q_lss rfl rfl) (fun a S => ?_)
       refine lq (.bool (decide (x299 < (0 : Int)))) S (q_pickT' rfl hc296 rfl) fun a S => ?_
       refine lx_nil ?_
       obtain rfl := Option.some.inj hm
       exact ⟨S.sub ⟨rfl, rfl, rfl, trivial⟩, H⟩
      ·have hm := ite_f (eq_false_of_ne_true hc296) e295
       have hc296 : (x277.1 == (6 : Int)) = false := eq_false_of_ne_true hc296
       refine lx_skip S rfl rfl (isB_ne hc296) (by decide) (fun a S => ?_)
       refine lx_skip S rfl rfl (isB_ne hc296) (by decide) (fun a S => ?_)
       refine lx_skip S rfl rfl (isB_ne hc296) (by decide) (fun a S => ?_)
       refine lx_skip S rfl rfl (isB_ne hc296) (by decide) (fun a S => ?_)
       refine lq (.bool false) S (q_pickF' rfl hc296 rfl) fun a S => ?_
       refine lx_nil ?_
       obtain rfl := Option.some.inj hm
       exact ⟨S.sub ⟨rfl, rfl, rfl, trivial⟩, H⟩
     ·rintro a w ⟨S, H⟩
      refine lx_nil (thenN ?_)
      refine cond_b S rfl (fun hc302 => ?_) (fun hc302 => ?_)
      ·have hm := ite_t hc302 hm
       refine wp_seq (region_plain ?_)
       refine lq (.bool false) S (q_assign rfl) fun a S => ?_
       refine lx_nil (thenN ?_)
       refine wp_ret (inBlock_ret ?_)
       refine then_ret ?_
       refine then_ret ?_
       refine inBlock_ret ?_
       refine then_ret ?_
       refine then_ret ?_
       obtain rfl := it_brk hm hc273
       have hm := ctl_inr hk270
       obtain rfl := Option.some.inj hm
       exact leave1 S rfl rfl ⟨rfl, H⟩
      ·have hm := ite_f hc302 hm
       refine wp_skip ?_
       refine inBlock_norm ?_
       refine thenN ?_
       refine region_plain ?_
       refine lq (.int .i64 x151) S (q_move rfl) fun a S => ?_
       refine lq (.int .i64 (W (x151 + (1 : Int)))) S (q_add rfl rfl) fun a S => ?_
       refine lq (.int .i64 (W (x151 + (1 : Int)))) S (q_assign rfl) fun a S => ?_
       refine lx_nil ?_
       exact ⟨m271, Nat.lt_succ_self _, (W (x151 + (1 : Int))), S.sub ⟨rfl, rfl, trivial⟩, H, it_cont hm hc273⟩
    ·skip
     refine wp_seq (region_plain ?_)
     refine lq p0 S (q_move rfl) fun a S => ?_
     refine lq (.int .i64 x151) S (q_move rfl) fun a S => ?_
     obtain ⟨x303, e304, hm⟩ := bind_some hm
     obtain ⟨c305, h306, hat307⟩ := (h0).elem (idx_some e304).2
     obtain ⟨c308, c309, rfl, h310, h311⟩ := h306
     obtain rfl := h310
     obtain ⟨c312, c313, rfl, h314, h315⟩ := h311
     obtain rfl := h314
     obtain ⟨c316, c317, rfl, h318, h319⟩ := h315
     obtain rfl := h318
     obtain rfl := h319
     have hlt := lt_of_idx (idx_some e304).2
     refine lq (ePtr p0 (x151.toNat * 4)) S (q_indexAddr rfl (h0).isSl rfl (idx_some e304).1 hlt Tryz.underlying26 Tryz.sizeOf57) fun a S => ?_
     obtain ⟨x322, e323, hm⟩ := bind_some hm
     refine lx_call (xs := [.tmp 15]) S trivial (by decide) rfl rfl Tryz.call64 ((spec_l19Fixed_ok ((H.arg h0).elemPtr (idx_some e304).2) e323).mono ?_)
     rintro e w320 ⟨rfl, Hc321⟩
     have H := H.call0 Hc321
     refine ⟨_, rfl, trivial, fun a S => ?_⟩
     refine lq (.bool x322) S (q_move rfl) fun a S => ?_
     obtain ⟨t325, e326, hm⟩ := bind_some hm
     refine lx_cut 7 (fun a w => Slots a 50 [(0, p0), (3, (.int .i64 x151)), (24, (.bool t325))] ∧ Heap w0 [] w) ?_ ?_
     ·by_cases hc327 : x322 = true
      ·have hm := ite_t hc327 e326
       refine lx_skip S rfl rfl (isB_ne hc327) (by decide) (fun a S => ?_)
       refine lx_skip S rfl rfl (isB_ne hc327) (by decide) (fun a S => ?_)
       refine lx_skip S rfl rfl (isB_ne hc327) (by decide) (fun a S => ?_)
       refine lx_skip S rfl rfl (isB_ne hc327) (by decide) (fun a S => ?_)
       refine lx_skip S rfl rfl (isB_ne hc327) (by decide) (fun a S => ?_)
       refine lx_skip S rfl rfl (isB_ne hc327) (by decide) (fun a S => ?_)
       refine lq (.bool true) S (q_pickT' rfl hc327 rfl) fun a S => ?_
       refine lx_nil ?_
       obtain rfl := Option.some.inj hm
       exact ⟨S.sub ⟨rfl, rfl, rfl, trivial⟩, H⟩
      ·have hm := ite_f (eq_false_of_ne_true hc327) e326
       have hc327 : x322 = false := eq_false_of_ne_true hc327
       refine lx_q p0 S (want_b rfl rfl hc327) (by decide) (q_move rfl) (fun a S => ?_)
       refine lx_q (.int .i64 x151) S (want_b rfl rfl hc327) (by decide) (q_move rfl) (fun a S => ?_)
       obtain ⟨x328, e329, hm⟩ := bind_some hm
       obtain ⟨c330, h331, hat332⟩ := (h0).elem (idx_some e329).2
       obtain ⟨c333, c334, rfl, h335, h336⟩ := h331
       obtain rfl := h335
       obtain ⟨c337, c338, rfl, h339, h340⟩ := h336
       obtain rfl := h339
       obtain ⟨c341, c342, rfl, h343, h344⟩ := h340
       obtain rfl := h343
       obtain rfl := h344
       have hlt := lt_of_idx (idx_some e329).2
       refine lx_q (ePtr p0 (x151.toNat * 4)) S (want_b rfl rfl hc327) (by decide) (q_indexAddr rfl (h0).isSl rfl (idx_some e329).1 hlt Tryz.underlying26 Tryz.sizeOf57) (fun a S => ?_)
       refine lx_q (pAdd (ePtr p0 (x151.toNat * 4)) 0) S (want_b rfl rfl hc327) (by decide) (q_fieldAddr' 0 2 rfl ((hat332 0 _ rfl).isP) Tryz.underlying57 rfl Tryz.sizeOf2) (fun a S => ?_)
       refine lx_e (.int .i64 x328.1) S (want_b rfl rfl hc327) (by decide) rfl trivial (q_load1 rfl Tryz.isAgg2 (by rintro _ rfl; exact (At.of_add (m := 0) (j := 0) ((hat332 0 _ rfl).ext H.ext)))) (fun a S => ?_)
       refine lx_q (.bool (x328.1 == (6 : Int))) S (want_b rfl rfl hc327) (by decide) (q_eql rfl rfl) (fun a S => ?_)
       refine lq (.bool (x328.1 == (6 : Int))) S (q_pickF' rfl hc327 rfl) fun a S => ?_
       refine lx_nil ?_
       obtain rfl := Option.some.inj hm
       exact ⟨S.sub ⟨rfl, rfl, rfl, trivial⟩, H⟩
     ·rintro a w ⟨S, H⟩
      refine lx_nil (thenN ?_)
      refine cond_b S rfl (fun hc345 => ?_) (fun hc345 => ?_)
      ·have hm := ite_t hc345 hm
       refine wp_seq (region_plain ?_)
       refine lq p0 S (q_move rfl) fun a S => ?_
       refine lq (.int .i64 x151) S (q_move rfl) fun a S => ?_
       obtain ⟨x346, e347, hm⟩ := bind_some hm
       obtain ⟨c348, h349, hat350⟩ := (h0).elem (idx_some e347).2
       obtain ⟨c351, c352, rfl, h353, h354⟩ := h349
       obtain rfl := h353
       obtain ⟨c355, c356, rfl, h357, h358⟩ := h354
       obtain rfl := h357
       obtain ⟨c359, c360, rfl, h361, h362⟩ := h358
       obtain rfl := h361
       obtain rfl := h362
       have hlt := lt_of_idx (idx_some e347).2
       refine lq (ePtr p0 (x151.toNat * 4)) S (q_indexAddr rfl (h0).isSl rfl (idx_some e347).1 hlt Tryz.underlying26 Tryz.sizeOf57) fun a S => ?_
       refine lq (pAdd (ePtr p0 (x151.toNat * 4)) 1) S (q_fieldAddr' 1 2 rfl ((hat350 0 _ rfl).isP) Tryz.underlying57 rfl Tryz.sizeOf2) fun a S => ?_
       refine lx_e (.int .i64 x346.2.1) S trivial (by decide) rfl trivial (q_load1 rfl Tryz.isAgg2 (by rintro _ rfl; exact (At.of_add (m := 1) (j := 0) ((hat350 1 _ rfl).ext H.ext)))) (fun a S => ?_)
       obtain ⟨x365, e366, hm⟩ := bind_some hm
       refine lx_call (xs := [.tmp 29, .const (.int .i64 (0)), .const (.int .i64 (2))]) S trivial (by decide) rfl rfl Tryz.call42 ((spec_l00In_ok    e366).mono ?_)
       rintro e w363 ⟨rfl, Hc364⟩
       have H := H.call0 Hc364
       refine ⟨_, rfl, trivial, fun a S => ?_⟩
       refine lq (.bool (!x365)) S (q_not rfl) fun a S => ?_
       refine lx_nil (thenN ?_)
       refine cond_b S rfl (fun hc368 => ?_) (fun hc368 => ?_)
       ·have hm := ite_t hc368 hm
        refine wp_seq (region_plain ?_)
        refine lq (.bool false) S (q_assign rfl) fun a S => ?_
        refine lx_nil (thenN ?_)
        refine wp_ret (then_ret ?_)
        refine inBlock_ret ?_
        refine then_ret ?_
        refine then_ret ?_
        refine inBlock_ret ?_
        refine then_ret ?_
        refine then_ret ?_
        obtain rfl := it_brk hm hc273
        have hm := ctl_inr hk270
        obtain rfl := Option.some.inj hm
        exact leave1 S rfl rfl ⟨rfl, H⟩
       ·have hm := ite_f hc368 hm
        refine wp_skip ?_
        exact ⟨S.sub ⟨rfl, rfl, trivial⟩, H, hm⟩
      ·have hm := ite_f hc345 hm
       refine wp_seq (region_plain ?_)
       refine lq p0 S (q_move rfl) fun a S => ?_
       refine lq (.int .i64 x151) S (q_move rfl) fun a S => ?_
       obtain ⟨x369, e370, hm⟩ := bind_some hm
       obtain ⟨c371, h372, hat373⟩ := (h0).elem (idx_some e370).2
       obtain ⟨c374, c375, rfl, h376, h377⟩ := h372
       obtain rfl := h376
       obtain ⟨c378, c379, rfl, h380, h381⟩ := h377
       obtain rfl := h380
       obtain ⟨c382, c383, rfl, h384, h385⟩ := h381
       obtain rfl := h384
       obtain rfl := h385
       have hlt := lt_of_idx (idx_some e370).2
       refine lq (ePtr p0 (x151.toNat * 4)) S (q_indexAddr rfl (h0).isSl rfl (idx_some e370).1 hlt Tryz.underlying26 Tryz.sizeOf57) fun a S => ?_
       refine lq (pAdd (ePtr p0 (x151.toNat * 4)) 1) S (q_fieldAddr' 1 2 rfl ((hat373 0 _ rfl).isP) Tryz.underlying57 rfl Tryz.sizeOf2) fun a S => ?_
       refine lx_e (.int .i64 x369.2.1) S trivial (by decide) rfl trivial (q_load1 rfl Tryz.isAgg2 (by rintro _ rfl; exact (At.of_add (m := 1) (j := 0) ((hat373 1 _ rfl).ext H.ext)))) (fun a S => ?_)
       refine lq (.bool (x369.2.1 != (0 : Int))) S (q_neq rfl rfl) fun a S => ?_
       refine lx_nil (thenN ?_)
       refine cond_b S rfl (fun hc386 => ?_) (fun hc386 => ?_)
       ·have hm := ite_t hc386 hm
        refine wp_seq (region_plain ?_)
        refine lq (.bool false) S (q_assign rfl) fun a S => ?_
        refine lx_nil (thenN ?_)
        refine wp_ret (then_ret ?_)
        refine inBlock_ret ?_
        refine then_ret ?_
        refine then_ret ?_
        refine inBlock_ret ?_
        refine then_ret ?_
        refine then_ret ?_
        obtain rfl := it_brk hm hc273
        have hm := ctl_inr hk270
        obtain rfl := Option.some.inj hm
        exact leave1 S rfl rfl ⟨rfl, H⟩
       ·have hm := ite_f hc386 hm
        refine wp_skip ?_
        exact ⟨S.sub ⟨rfl, rfl, trivial⟩, H, hm⟩
   ·have hm := ite_f hc274 hm
    refine wp_exit ?_
    refine then_exit ?_
    refine then_exit ?_
    refine inBlock_exit ?_
    obtain rfl := it_brk hm hc273
    exact ⟨S.sub trivial, H, rfl⟩

/-- spec.l19Ask -/
def spec_l19Ask_m (fuel : Nat) (a0 : (List Timpl_Node)) (a1 : Int) : Option (Int) :=
  (spec_l19Is_m fuel a0).bind fun x33 => (if (!x33) = true then some ((1 : Int)) else (spec_l00In_m fuel a1 (0 : Int) (W ((a0.length : Int) - (1 : Int)))).bind fun x39 => (if (!x39) = true then some ((2 : Int)) else some ((0 : Int))))
set_option maxRecDepth 20000 in
theorem spec_l19Ask_ok {w0 : World} {fuel : Nat} {p0 : Value} {a0 : (List Timpl_Node)} {a1 : Int} {r : Int} (h0 : Rd (rList Rimpl_Node) w0 p0 a0) (hm : spec_l19Ask_m fuel a0 a1 = some r) :
  Calls Tryz.prog 30 #[p0, .int .i64 a1] w0 fun e w => e = .returned (.int .i64 r) ∧ Heap w0 [] w := by
 unfold spec_l19Ask_m at hm
 have H := Heap.start w0
 refine enter (args := [p0, .int .i64 a1]) Tryz.func30 rfl 14 rfl (Nat.le_of_ble_eq_true rfl) (fun a S => ?_)
 refine wp_seq (region_plain ?_)
 refine lq (.int .i64 (0 : Int)) S (q_assign rfl) fun a S => ?_
 refine lx_nil (thenN ?_)
 refine wp_seq (wp_seq (region_plain ?_))
 refine lq p0 S (q_move rfl) fun a S => ?_
 obtain ⟨x33, e34, hm⟩ := bind_some hm
 refine lx_call (xs := [.tmp 5]) S trivial (by decide) rfl rfl Tryz.call59 ((spec_l19Is_ok (H.arg h0) e34).mono ?_)
 rintro e w31 ⟨rfl, Hc32⟩
 have H := H.call0 Hc32
 refine ⟨_, rfl, trivial, fun a S => ?_⟩
 refine lq (.bool (!x33)) S (q_not rfl) fun a S => ?_
 refine lx_nil (thenN ?_)
 refine cond_b S rfl (fun hc36 => ?_) (fun hc36 => ?_)
 ·have hm := ite_t hc36 hm
  refine wp_seq (region_plain ?_)
  refine lq (.int .i64 (1 : Int)) S (q_assign rfl) fun a S => ?_
  refine lx_nil (thenN ?_)
  refine wp_ret (then_ret ?_)
  obtain rfl := Option.some.inj hm
  exact leave1 S rfl rfl ⟨rfl, H⟩
 ·have hm := ite_f hc36 hm
  refine wp_skip (thenN ?_)
  refine wp_seq (wp_seq (region_plain ?_))
  refine lq (.int .i64 a1) S (q_move rfl) fun a S => ?_
  refine lq p0 S (q_move rfl) fun a S => ?_
  refine lq (.int .i64 (a0.length : Int)) S (q_lenSl rfl (h0).isSl rfl Tryz.underlying26) fun a S => ?_
  refine lq (.int .i64 (W ((a0.length : Int) - (1 : Int)))) S (q_sub rfl rfl) fun a S => ?_
  obtain ⟨x39, e40, hm⟩ := bind_some hm
  refine lx_call (xs := [.tmp 8, .const (.int .i64 (0)), .tmp 11]) S trivial (by decide) rfl rfl Tryz.call42 ((spec_l00In_ok    e40).mono ?_)
  rintro e w37 ⟨rfl, Hc38⟩
  have H := H.call0 Hc38
  refine ⟨_, rfl, trivial, fun a S => ?_⟩
  refine lq (.bool (!x39)) S (q_not rfl) fun a S => ?_
  refine lx_nil (thenN ?_)
  refine cond_b S rfl (fun hc42 => ?_) (fun hc42 => ?_)
  ·have hm := ite_t hc42 hm
   refine wp_seq (region_plain ?_)
   refine lq (.int .i64 (2 : Int)) S (q_assign rfl) fun a S => ?_
   refine lx_nil (thenN ?_)
   refine wp_ret (then_ret ?_)
   obtain rfl := Option.some.inj hm
   exact leave1 S rfl rfl ⟨rfl, H⟩
  ·have hm := ite_f hc42 hm
   refine wp_skip (thenN ?_)
   refine wp_seq (region_plain ?_)
   refine lq (.int .i64 (0 : Int)) S (q_assign rfl) fun a S => ?_
   refine lx_nil (thenN ?_)
   refine wp_ret ?_
   obtain rfl := Option.some.inj hm
   exact leave1 S rfl rfl ⟨rfl, H⟩

/-- (impl.Node).isFixed -/
def impl_Node_isFixed_m (_ : Nat) (a0 : Timpl_Node) : Option (Bool) :=
  (if (a0.1 == (7 : Int)) = true then some true else some (a0.1 == (8 : Int))).bind fun t48 => some (t48)
set_option maxRecDepth 20000 in
theorem impl_Node_isFixed_ok {w0 : World} {fuel : Nat} {p0 : Value} {a0 : Timpl_Node} {r : Bool} (h0 : Rd Rimpl_Node w0 p0 a0) (hm : impl_Node_isFixed_m fuel a0 = some r) :
  Calls Tryz.prog 65 #[p0] w0 fun e w => e = .returned (.bool r) ∧ Heap w0 [] w := by
 unfold impl_Node_isFixed_m at hm
 have H := Heap.start w0
 obtain ⟨c31, rfl, h32⟩ := h0
 obtain ⟨c33, c34, rfl, h35, h36⟩ := h32
 obtain rfl := h35
 obtain ⟨c37, c38, rfl, h39, h40⟩ := h36
 obtain rfl := h39
 obtain ⟨c41, c42, rfl, h43, h44⟩ := h40
 obtain rfl := h43
 obtain rfl := h44
 refine enter (args := [(.agg #[(.int .i64 a0.1), (.int .i64 a0.2.1), (sv a0.2.2.1), (.bool a0.2.2.2)])]) Tryz.func65 rfl 11 rfl (Nat.le_of_ble_eq_true rfl) (fun a S => ?_)
 refine wp_seq (region_plain ?_)
 refine lx_box S trivial (by decide) rfl H rfl rfl (fun b45 w46 H => ⟨trivial, fun a S => ?_⟩)
 refine lq (.bool false) S (q_assign rfl) fun a S => ?_
 refine lx_nil (thenN ?_)
 refine wp_seq (region_plain ?_)
 refine lq (pAdd (bp b45) 0) S (q_fieldAddr' 0 2 rfl (isP_bp _) Tryz.underlying57 rfl Tryz.sizeOf2) fun a S => ?_
 refine lx_e (.int .i64 a0.1) S trivial (by decide) rfl trivial (q_load1 rfl Tryz.isAgg2 (by rintro _ rfl; exact (At.of_add (m := 0) (j := 0) (boxAt (i := 0) H rfl (j := 0) rfl)))) (fun a S => ?_)
 refine lq (.bool (a0.1 == (7 : Int))) S (q_eql rfl rfl) fun a S => ?_
 refine lq (.bool (a0.1 == (7 : Int))) S (q_move rfl) fun a S => ?_
 obtain ⟨t48, e49, hm⟩ := bind_some hm
 refine lx_cut 4 (fun a w => Slots a 11 [(10, (.bool t48))] ∧ Heap w0 [] w) ?_ ?_
 ·by_cases hc50 : (a0.1 == (7 : Int)) = true
  ·have hm := ite_t hc50 e49
   refine lx_skip S rfl rfl (isB_ne hc50) (by decide) (fun a S => ?_)
   refine lx_skip S rfl rfl (isB_ne hc50) (by decide) (fun a S => ?_)
   refine lx_skip S rfl rfl (isB_ne hc50) (by decide) (fun a S => ?_)
   refine lq (.bool true) S (q_pickT' rfl hc50 rfl) fun a S => ?_
   refine lx_nil ?_
   obtain rfl := Option.some.inj hm
   have H := H.sel [] (by decide)
   exact ⟨S.sub ⟨rfl, trivial⟩, H⟩
  ·have hm := ite_f (eq_false_of_ne_true hc50) e49
   have hc50 : (a0.1 == (7 : Int)) = false := eq_false_of_ne_true hc50
   refine lx_q (pAdd (bp b45) 0) S (want_b rfl rfl hc50) (by decide) (q_fieldAddr' 0 2 rfl (isP_bp _) Tryz.underlying57 rfl Tryz.sizeOf2) (fun a S => ?_)
   refine lx_e (.int .i64 a0.1) S (want_b rfl rfl hc50) (by decide) rfl trivial (q_load1 rfl Tryz.isAgg2 (by rintro _ rfl; exact (At.of_add (m := 0) (j := 0) (boxAt (i := 0) H rfl (j := 0) rfl)))) (fun a S => ?_)
   refine lx_q (.bool (a0.1 == (8 : Int))) S (want_b rfl rfl hc50) (by decide) (q_eql rfl rfl) (fun a S => ?_)
   refine lq (.bool (a0.1 == (8 : Int))) S (q_pickF' rfl hc50 rfl) fun a S => ?_
   refine lx_nil ?_
   obtain rfl := Option.some.inj hm
   have H := H.sel [] (by decide)
   exact ⟨S.sub ⟨rfl, trivial⟩, H⟩
 ·rintro a w ⟨S, H⟩
  refine lq (.bool t48) S (q_assign rfl) fun a S => ?_
  refine lx_nil (thenN ?_)
  refine wp_ret ?_
  obtain rfl := Option.some.inj hm
  exact leave1 S rfl rfl ⟨rfl, H⟩

/-- (impl.Node).boundOk -/
def impl_Node_boundOk_m (fuel : Nat) (a0 : Timpl_Node) : Option (Bool) :=
  (impl_Node_isFixed_m fuel (a0.1, a0.2.1, a0.2.2.1, a0.2.2.2)).bind fun x50 => (if x50 = true then some true else some (a0.1 == (6 : Int))).bind fun t53 => (if t53 = true then (impl_within_m fuel a0.2.1 (0 : Int) (2 : Int)).bind fun x59 => some (x59) else some ((a0.2.1 == (0 : Int))))
set_option maxRecDepth 20000 in
theorem impl_Node_boundOk_ok {w0 : World} {fuel : Nat} {p0 : Value} {a0 : Timpl_Node} {r : Bool} (h0 : Rd Rimpl_Node w0 p0 a0) (hm : impl_Node_boundOk_m fuel a0 = some r) :
  Calls Tryz.prog 85 #[p0] w0 fun e w => e = .returned (.bool r) ∧ Heap w0 [] w := by
 unfold impl_Node_boundOk_m at hm
 have H := Heap.start w0
 obtain ⟨c31, rfl, h32⟩ := h0
 obtain ⟨c33, c34, rfl, h35, h36⟩ := h32
 obtain rfl := h35
 obtain ⟨c37, c38, rfl, h39, h40⟩ := h36
 obtain rfl := h39
 obtain ⟨c41, c42, rfl, h43, h44⟩ := h40
 obtain rfl := h43
 obtain rfl := h44
 refine enter (args := [(.agg #[(.int .i64 a0.1), (.int .i64 a0.2.1), (sv a0.2.2.1), (.bool a0.2.2.2)])]) Tryz.func85 rfl 16 rfl (Nat.le_of_ble_eq_true rfl) (fun a S => ?_)
 refine wp_seq (region_plain ?_)
 refine lx_box S trivial (by decide) rfl H rfl rfl (fun b45 w46 H => ⟨trivial, fun a S => ?_⟩)
 refine lq (.bool false) S (q_assign rfl) fun a S => ?_
 refine lx_nil (thenN ?_)
 refine wp_seq (wp_seq (region_plain ?_))
 refine lx_e (.agg #[(.int .i64 a0.1), (.int .i64 a0.2.1), (sv a0.2.2.1), (.bool a0.2.2.2)]) S trivial (by decide) rfl trivial (q_loadA (cs := [(.int .i64 a0.1), (.int .i64 a0.2.1), (sv a0.2.2.1), (.bool a0.2.2.2)]) rfl (isP_bp _) Tryz.isAgg57 Tryz.sizeOf57 (by rintro _ rfl; exact (fun j u hu => boxAt (i := 0) H rfl hu))) (fun a S => ?_)
 obtain ⟨x50, e51, hm⟩ := bind_some hm
 refine lx_call (xs := [.tmp 3]) S trivial (by decide) rfl rfl Tryz.call65 ((impl_Node_isFixed_ok ⟨[(.int .i64 a0.1), (.int .i64 a0.2.1), (sv a0.2.2.1), (.bool a0.2.2.2)], rfl, ⟨[(.int .i64 a0.1)], [(.int .i64 a0.2.1), (sv a0.2.2.1), (.bool a0.2.2.2)], rfl, rfl, ⟨[(.int .i64 a0.2.1)], [(sv a0.2.2.1), (.bool a0.2.2.2)], rfl, rfl, ⟨[(sv a0.2.2.1)], [(.bool a0.2.2.2)], rfl, rfl, rfl⟩⟩⟩⟩ e51).mono ?_)
 rintro e w48 ⟨rfl, Hc49⟩
 have H := H.call0 Hc49
 refine ⟨_, rfl, trivial, fun a S => ?_⟩
 refine lq (.bool x50) S (q_move rfl) fun a S => ?_
 obtain ⟨t53, e54, hm⟩ := bind_some hm
 refine lx_cut 4 (fun a w => Slots a 16 [(1, (bp b45)), (9, (.bool t53))] ∧ Heap w0 [bA b45 [(.int .i64 a0.1), (.int .i64 a0.2.1), (sv a0.2.2.1), (.bool a0.2.2.2)] 57] w) ?_ ?_
 ·by_cases hc55 : x50 = true
  ·have hm := ite_t hc55 e54
   refine lx_skip S rfl rfl (isB_ne hc55) (by decide) (fun a S => ?_)
   refine lx_skip S rfl rfl (isB_ne hc55) (by decide) (fun a S => ?_)
   refine lx_skip S rfl rfl (isB_ne hc55) (by decide) (fun a S => ?_)
   refine lq (.bool true) S (q_pickT' rfl hc55 rfl) fun a S => ?_
   refine lx_nil ?_
   obtain rfl := Option.some.inj hm
   exact ⟨S.sub ⟨rfl, rfl, trivial⟩, H⟩
  ·have hm := ite_f (eq_false_of_ne_true hc55) e54
   have hc55 : x50 = false := eq_false_of_ne_true hc55
   refine lx_q (pAdd (bp b45) 0) S (want_b rfl rfl hc55) (by decide) (q_fieldAddr' 0 2 rfl (isP_bp _) Tryz.underlying57 rfl Tryz.sizeOf2) (fun a S => ?_)
   refine lx_e (.int .i64 a0.1) S (want_b rfl rfl hc55) (by decide) rfl trivial (q_load1 rfl Tryz.isAgg2 (by rintro _ rfl; exact (At.of_add (m := 0) (j := 0) (boxAt (i := 0) H rfl (j := 0) rfl)))) (fun a S => ?_)
   refine lx_q (.bool (a0.1 == (6 : Int))) S (want_b rfl rfl hc55) (by decide) (q_eql rfl rfl) (fun a S => ?_)
   refine lq (.bool (a0.1 == (6 : Int))) S (q_pickF' rfl hc55 rfl) fun a S => ?_
   refine lx_nil ?_
   obtain rfl := Option.some.inj hm
   exact ⟨S.sub ⟨rfl, rfl, trivial⟩, H⟩
 ·rintro a w ⟨S, H⟩
  refine lx_nil (thenN ?_)
  refine cond_b S rfl (fun hc56 => ?_) (fun hc56 => ?_)
  ·have hm := ite_t hc56 hm
   refine wp_seq (region_plain ?_)
   refine lq (pAdd (bp b45) 1) S (q_fieldAddr' 1 2 rfl (isP_bp _) Tryz.underlying57 rfl Tryz.sizeOf2) fun a S => ?_
   refine lx_e (.int .i64 a0.2.1) S trivial (by decide) rfl trivial (q_load1 rfl Tryz.isAgg2 (by rintro _ rfl; exact (At.of_add (m := 1) (j := 0) (boxAt (i := 0) H rfl (j := 1) rfl)))) (fun a S => ?_)
   obtain ⟨x59, e60, hm⟩ := bind_some hm
   refine lx_call (xs := [.tmp 11, .const (.int .i64 (0)), .const (.int .i64 (2))]) S trivial (by decide) rfl rfl Tryz.call77 ((impl_within_ok    e60).mono ?_)
   rintro e w57 ⟨rfl, Hc58⟩
   have H := H.call0 Hc58
   refine ⟨_, rfl, trivial, fun a S => ?_⟩
   refine lq (.bool x59) S (q_assign rfl) fun a S => ?_
   refine lx_nil (thenN ?_)
   refine wp_ret (then_ret ?_)
   obtain rfl := Option.some.inj hm
   have H : Heap w0 [] w57 := H.sel [] (by decide)
   exact leave1 S rfl rfl ⟨rfl, H⟩
  ·have hm := ite_f hc56 hm
   refine wp_skip (thenN ?_)
   refine wp_seq (region_plain ?_)
   refine lq (pAdd (bp b45) 1) S (q_fieldAddr' 1 2 rfl (isP_bp _) Tryz.underlying57 rfl Tryz.sizeOf2) fun a S => ?_
   refine lx_e (.int .i64 a0.2.1) S trivial (by decide) rfl trivial (q_load1 rfl Tryz.isAgg2 (by rintro _ rfl; exact (At.of_add (m := 1) (j := 0) (boxAt (i := 0) H rfl (j := 1) rfl)))) (fun a S => ?_)
   refine lq (.bool (a0.2.1 == (0 : Int))) S (q_eql rfl rfl) fun a S => ?_
   refine lq (.bool (a0.2.1 == (0 : Int))) S (q_assign rfl) fun a S => ?_
   refine lx_nil (thenN ?_)
   refine wp_ret ?_
   obtain rfl := Option.some.inj hm
   have H : Heap w0 [] w := H.sel [] (by decide)
   exact leave1 S rfl rfl ⟨rfl, H⟩

/-- impl.formulaEnd -/
def impl_formulaEnd_m (fuel : Nat) (a0 : (List Timpl_Node)) (a1 : Int) : Option (Int) :=
  (iter (fun (s : (Int) × (Int)) => (match s with | (x56, x57) => (if (decide ((0 : Int) < x57)) = true then (idx a0 x56).bind fun x93 => (impl_Node_operands_m fuel (x93.1, x93.2.1, x93.2.2.1, x93.2.2.2)).bind fun x112 => some (.inl ((W (x56 + (1 : Int))), (W (x57 + (W (x112 - (1 : Int))))))) else some (.inr (.inl (x56)))) : Option (((Int) × (Int)) ⊕ ((Int) ⊕ (Int))))) fuel (a1, (1 : Int))).bind fun res84 => ctl (β := Int) (ρ := Int) (τ := Int) res84 (fun (x83) => some (x83)) (fun q => some (q))
set_option maxRecDepth 20000 in
theorem impl_formulaEnd_ok {w0 : World} {fuel : Nat} {p0 : Value} {a0 : (List Timpl_Node)} {a1 : Int} {r : Int} (h0 : Rd (rList Rimpl_Node) w0 p0 a0) (hm : impl_formulaEnd_m fuel a0 a1 = some r) :
  Calls Tryz.prog 34 #[p0, .int .i64 a1] w0 fun e w => e = .returned (.int .i64 r) ∧ Heap w0 [] w := by
 unfold impl_formulaEnd_m at hm
 have H := Heap.start w0
 refine enter (args := [p0, .int .i64 a1]) Tryz.func34 rfl 19 rfl (Nat.le_of_ble_eq_true rfl) (fun a S => ?_)
 refine wp_seq (region_plain ?_)
 refine lq (.int .i64 (0 : Int)) S (q_assign rfl) fun a S => ?_
 refine lx_nil (thenN ?_)
 refine wp_seq (wp_seq (region_plain ?_))
 refine lq (.int .i64 (1 : Int)) S (q_assign rfl) fun a S => ?_
 refine lx_nil (thenN ?_)
 obtain ⟨res84, hit85, hk88⟩ := bind_some hm
 obtain ⟨f86, hf87, hit85⟩ := iter_name hit85
 refine block_loop (fun a w => ∃ (x83 : Int), Slots a 19 [(1, (.int .i64 x83))] ∧ Heap w0 [] w ∧ res84 = .inl (x83)) ?_ ?_
 ·rintro a w ⟨x83, S, H, rfl⟩
  have hm := ctl_inl hk88
  refine thenN ?_
  refine wp_seq (region_plain ?_)
  refine lq (.int .i64 x83) S (q_move rfl) fun a S => ?_
  refine lq (.int .i64 x83) S (q_assign rfl) fun a S => ?_
  refine lx_nil (thenN ?_)
  refine wp_ret ?_
  obtain rfl := Option.some.inj hm
  exact leave1 S rfl rfl ⟨rfl, H⟩
 ·skip
  refine loop_ghost (fun n a w => ∃ (x56 : Int) (x57 : Int), Slots a 19 [(0, p0), (1, (.int .i64 x56)), (5, (.int .i64 x57))] ∧ Heap w0 [] w ∧ iter f86 n (x56, x57) = some res84) _ ⟨a1, (1 : Int), S.sub ⟨rfl, rfl, rfl, trivial⟩, H, hit85⟩ ?_
  rintro n a w ⟨x56, x57, S, H, hit85⟩
  obtain ⟨m89, o90, rfl, hm, hc91⟩ := iter_step hit85
  rw [hf87] at hm
  refine wp_seq (wp_seq (region_plain ?_))
  refine lq (.int .i64 x57) S (q_move rfl) fun a S => ?_
  refine lq (.bool (decide ((0 : Int) < x57))) S (q_gtr rfl rfl) fun a S => ?_
  refine lx_nil (thenN ?_)
  refine cond_b S rfl (fun hc92 => ?_) (fun hc92 => ?_)
  ·have hm := ite_t hc92 hm
   refine wp_skip (thenN ?_)
   refine wp_seq ?_
   refine wp_block ?_
   refine region_plain ?_
   refine lq (.int .i64 x57) S (q_move rfl) fun a S => ?_
   refine lq p0 S (q_move rfl) fun a S => ?_
   refine lq (.int .i64 x56) S (q_move rfl) fun a S => ?_
   obtain ⟨x93, e94, hm⟩ := bind_some hm
   obtain ⟨c95, h96, hat97⟩ := (h0).elem (idx_some e94).2
   obtain ⟨c98, c99, rfl, h100, h101⟩ := h96
   obtain rfl := h100
   obtain ⟨c102, c103, rfl, h104, h105⟩ := h101
   obtain rfl := h104
   obtain ⟨c106, c107, rfl, h108, h109⟩ := h105
   obtain rfl := h108
   obtain rfl := h109
   have hlt := lt_of_idx (idx_some e94).2
   refine lq (ePtr p0 (x56.toNat * 4)) S (q_indexAddr rfl (h0).isSl rfl (idx_some e94).1 hlt Tryz.underlying26 Tryz.sizeOf57) fun a S => ?_
   refine lx_e (.agg #[(.int .i64 x93.1), (.int .i64 x93.2.1), (sv x93.2.2.1), (.bool x93.2.2.2)]) S trivial (by decide) rfl trivial (q_loadA (cs := [(.int .i64 x93.1), (.int .i64 x93.2.1), (sv x93.2.2.1), (.bool x93.2.2.2)]) rfl ((hat97 0 _ rfl).isP) Tryz.isAgg57 Tryz.sizeOf57 (by rintro _ rfl; exact (fun j u hu => (hat97 j u hu).ext H.ext))) (fun a S => ?_)
   obtain ⟨x112, e113, hm⟩ := bind_some hm
   refine lx_call (xs := [.tmp 14]) S trivial (by decide) rfl rfl Tryz.call63 ((impl_Node_operands_ok ⟨[(.int .i64 x93.1), (.int .i64 x93.2.1), (sv x93.2.2.1), (.bool x93.2.2.2)], rfl, ⟨[(.int .i64 x93.1)], [(.int .i64 x93.2.1), (sv x93.2.2.1), (.bool x93.2.2.2)], rfl, rfl, ⟨[(.int .i64 x93.2.1)], [(sv x93.2.2.1), (.bool x93.2.2.2)], rfl, rfl, ⟨[(sv x93.2.2.1)], [(.bool x93.2.2.2)], rfl, rfl, rfl⟩⟩⟩⟩ e113).mono ?_)
   rintro e w110 ⟨rfl, Hc111⟩
   have H := H.call0 Hc111
   refine ⟨_, rfl, trivial, fun a S => ?_⟩
   refine lq (.int .i64 (W (x112 - (1 : Int)))) S (q_sub rfl rfl) fun a S => ?_
   refine lq (.int .i64 (W (x57 + (W (x112 - (1 : Int)))))) S (q_add rfl rfl) fun a S => ?_
   refine lq (.int .i64 (W (x57 + (W (x112 - (1 : Int)))))) S (q_assign rfl) fun a S => ?_
   refine lx_nil ?_
   refine inBlock_norm ?_
   refine thenN ?_
   refine region_plain ?_
   refine lq (.int .i64 x56) S (q_move rfl) fun a S => ?_
   refine lq (.int .i64 (W (x56 + (1 : Int)))) S (q_add rfl rfl) fun a S => ?_
   refine lq (.int .i64 (W (x56 + (1 : Int)))) S (q_assign rfl) fun a S => ?_
   refine lx_nil ?_
   exact ⟨m89, Nat.lt_succ_self _, (W (x56 + (1 : Int))), (W (x57 + (W (x112 - (1 : Int))))), S.sub ⟨rfl, rfl, rfl, trivial⟩, H, it_cont hm hc91⟩
  ·have hm := ite_f hc92 hm
   refine wp_exit ?_
   refine then_exit ?_
   refine then_exit ?_
   refine inBlock_exit ?_
   obtain rfl := it_brk hm hc91
   exact ⟨x56, S.sub ⟨rfl, trivial⟩, H, rfl⟩

/-- impl.binder -/
def impl_binder_m (fuel : Nat) (a0 : (List Timpl_Node)) (a1 : Int) : Option (Int) :=
  (iter (fun (s : (Int)) => (match s with | (x103) => (if (decide ((0 : Int) ≤ x103)) = true then (idx a0 x103).bind fun x187 => (impl_Node_isFixed_m fuel (x187.1, x187.2.1, x187.2.2.1, x187.2.2.2)).bind fun x206 => (if x206 = true then (idx a0 x103).bind fun x212 => (idx a0 a1).bind fun x229 => some (x212.2.1 == x229.2.1) else some false).bind fun t209 => (if t209 = true then (impl_formulaEnd_m fuel a0 x103).bind fun x251 => some (decide (a1 < x251)) else some false).bind fun t246 => (if t246 = true then some (.inr (.inr x103)) else some (.inl ((W (x103 - (1 : Int)))))) else some (.inr (.inl ()))) : Option (((Int)) ⊕ ((Unit) ⊕ (Int))))) fuel ((W (a1 - (1 : Int))))).bind fun res176 => ctl (β := Unit) (ρ := Int) (τ := Int) res176 (fun _ => some ((-1 : Int))) (fun q => some (q))
set_option maxRecDepth 20000 in
theorem impl_binder_ok {w0 : World} {fuel : Nat} {p0 : Value} {a0 : (List Timpl_Node)} {a1 : Int} {r : Int} (h0 : Rd (rList Rimpl_Node) w0 p0 a0) (hm : impl_binder_m fuel a0 a1 = some r) :
  Calls Tryz.prog 37 #[p0, .int .i64 a1] w0 fun e w => e = .returned (.int .i64 r) ∧ Heap w0 [] w := by
 unfold impl_binder_m at hm
 have H := Heap.start w0
 refine enter (args := [p0, .int .i64 a1]) Tryz.func37 rfl 38 rfl (Nat.le_of_ble_eq_true rfl) (fun a S => ?_)
 refine wp_seq (region_plain ?_)
 refine lq (.int .i64 (0 : Int)) S (q_assign rfl) fun a S => ?_
 refine lx_nil (thenN ?_)
 refine wp_seq (wp_seq (region_plain ?_))
 refine lq (.int .i64 a1) S (q_move rfl) fun a S => ?_
 refine lq (.int .i64 (W (a1 - (1 : Int)))) S (q_sub rfl rfl) fun a S => ?_
 refine lq (.int .i64 (W (a1 - (1 : Int)))) S (q_assign rfl) fun a S => ?_
 refine lx_nil (thenN ?_)
 obtain ⟨res176, hit177, hk180⟩ := bind_some hm
 obtain ⟨f178, hf179, hit177⟩ := iter_name hit177
 refine block_loop (fun a w => Slots a 38 [] ∧ Heap w0 [] w ∧ res176 = .inl ()) ?_ ?_
 ·rintro a w ⟨S, H, rfl⟩
  have hm := ctl_inl hk180
  refine thenN ?_
  refine wp_seq (region_plain ?_)
  refine lq (.int .i64 (-1 : Int)) S (q_assign rfl) fun a S => ?_
  refine lx_nil (thenN ?_)
  refine wp_ret ?_
  obtain rfl := Option.some.inj hm
  exact leave1 S rfl rfl ⟨rfl, H⟩
 ·skip
  refine loop_ghost (fun n a w => ∃ (x103 : Int), Slots a 38 [(0, p0), (1, (.int .i64 a1)), (5, (.int .i64 x103))] ∧ Heap w0 [] w ∧ iter f178 n (x103) = some res176) _ ⟨(W (a1 - (1 : Int))), S.sub ⟨rfl, rfl, rfl, trivial⟩, H, hit177⟩ ?_
  rintro n a w ⟨x103, S, H, hit177⟩
  obtain ⟨m181, o182, rfl, hm, hc183⟩ := iter_step hit177
  rw [hf179] at hm
  refine wp_seq (wp_seq (region_plain ?_))
  refine lq (.int .i64 x103) S (q_move rfl) fun a S => ?_
  refine lq (.bool (decide ((0 : Int) ≤ x103))) S (q_geq rfl rfl) fun a S => ?_
  refine lx_nil (thenN ?_)
  refine cond_b S rfl (fun hc184 => ?_) (fun hc184 => ?_)
  ·have hm := ite_t hc184 hm
   refine wp_skip (thenN ?_)
   refine wp_seq ?_
   refine wp_block ?_
   refine wp_seq ?_
   refine region_drawG (fun w1 => Heap w0 [] w1) (fun i => [4, 22].contains i) mixed (by kernel_rfl) (fun w186 he185 => ?_)
   have H := H.later he185
   refine ⟨H.sel [] (by decide), ?_⟩
   refine lq p0 S (q_move rfl) fun a S => ?_
   refine lq (.int .i64 x103) S (q_move rfl) fun a S => ?_
   obtain ⟨x187, e188, hm⟩ := bind_some hm
   obtain ⟨c189, h190, hat191⟩ := (h0).elem (idx_some e188).2
   obtain ⟨c192, c193, rfl, h194, h195⟩ := h190
   obtain rfl := h194
   obtain ⟨c196, c197, rfl, h198, h199⟩ := h195
   obtain rfl := h198
   obtain ⟨c200, c201, rfl, h202, h203⟩ := h199
   obtain rfl := h202
   obtain rfl := h203
   have hlt := lt_of_idx (idx_some e188).2
   refine lq (ePtr p0 (x103.toNat * 4)) S (q_indexAddr rfl (h0).isSl rfl (idx_some e188).1 hlt Tryz.underlying26 Tryz.sizeOf57) fun a S => ?_
   refine lq (.agg #[(.int .i64 x187.1), (.int .i64 x187.2.1), (sv x187.2.2.1), (.bool x187.2.2.2)]) S (q_loadA (cs := [(.int .i64 x187.1), (.int .i64 x187.2.1), (sv x187.2.2.1), (.bool x187.2.2.2)]) rfl ((hat191 0 _ rfl).isP) Tryz.isAgg57 Tryz.sizeOf57 (fun w1 hC => (fun j u hu => (hat191 j u hu).ext hC.ext))) fun a S => ?_
   obtain ⟨x206, e207, hm⟩ := bind_some hm
   refine lx_call (xs := [.tmp 15]) S trivial (by decide) rfl rfl Tryz.call65 ((impl_Node_isFixed_ok ⟨[(.int .i64 x187.1), (.int .i64 x187.2.1), (sv x187.2.2.1), (.bool x187.2.2.2)], rfl, ⟨[(.int .i64 x187.1)], [(.int .i64 x187.2.1), (sv x187.2.2.1), (.bool x187.2.2.2)], rfl, rfl, ⟨[(.int .i64 x187.2.1)], [(sv x187.2.2.1), (.bool x187.2.2.2)], rfl, rfl, ⟨[(sv x187.2.2.1)], [(.bool x187.2.2.2)], rfl, rfl, rfl⟩⟩⟩⟩ e207).mono ?_)
   rintro e w204 ⟨rfl, Hc205⟩
   have H := H.call0 Hc205
   refine ⟨_, rfl, H.sel [] (by decide), fun a S => ?_⟩
   refine lq (.bool x206) S (q_move rfl) fun a S => ?_
   obtain ⟨t209, e210, hm⟩ := bind_some hm
   refine lx_cut 12 (fun a w => Slots a 38 [(0, p0), (1, (.int .i64 a1)), (5, (.int .i64 x103)), (29, (.bool t209))] ∧ Heap w0 [] w) ?_ ?_
   ·by_cases hc211 : x206 = true
    ·have hm := ite_t hc211 e210
     refine lx_q p0 S (want_b rfl rfl hc211) (by decide) (q_move rfl) (fun a S => ?_)
     refine lx_q (.int .i64 x103) S (want_b rfl rfl hc211) (by decide) (q_move rfl) (fun a S => ?_)
     obtain ⟨x212, e213, hm⟩ := bind_some hm
     obtain ⟨c214, h215, hat216⟩ := (h0).elem (idx_some e213).2
     obtain ⟨c217, c218, rfl, h219, h220⟩ := h215
     obtain rfl := h219
     obtain ⟨c221, c222, rfl, h223, h224⟩ := h220
     obtain rfl := h223
     obtain ⟨c225, c226, rfl, h227, h228⟩ := h224
     obtain rfl := h227
     obtain rfl := h228
     have hlt := lt_of_idx (idx_some e213).2
     refine lx_q (ePtr p0 (x103.toNat * 4)) S (want_b rfl rfl hc211) (by decide) (q_indexAddr rfl (h0).isSl rfl (idx_some e213).1 hlt Tryz.underlying26 Tryz.sizeOf57) (fun a S => ?_)
     refine lx_q (pAdd (ePtr p0 (x103.toNat * 4)) 1) S (want_b rfl rfl hc211) (by decide) (q_fieldAddr' 1 2 rfl ((hat216 0 _ rfl).isP) Tryz.underlying57 rfl Tryz.sizeOf2) (fun a S => ?_)
     refine lx_q (.int .i64 x212.2.1) S (want_b rfl rfl hc211) (by decide) (q_load1 rfl Tryz.isAgg2 (fun w1 hC => (At.of_add (m := 1) (j := 0) ((hat216 1 _ rfl).ext hC.ext)))) (fun a S => ?_)
     refine lx_q p0 S (want_b rfl rfl hc211) (by decide) (q_move rfl) (fun a S => ?_)
     refine lx_q (.int .i64 a1) S (want_b rfl rfl hc211) (by decide) (q_move rfl) (fun a S => ?_)
     obtain ⟨x229, e230, hm⟩ := bind_some hm
     obtain ⟨c231, h232, hat233⟩ := (h0).elem (idx_some e230).2
     obtain ⟨c234, c235, rfl, h236, h237⟩ := h232
     obtain rfl := h236
     obtain ⟨c238, c239, rfl, h240, h241⟩ := h237
     obtain rfl := h240
     obtain ⟨c242, c243, rfl, h244, h245⟩ := h241
     obtain rfl := h244
     obtain rfl := h245
     have hlt := lt_of_idx (idx_some e230).2
     refine lx_q (ePtr p0 (a1.toNat * 4)) S (want_b rfl rfl hc211) (by decide) (q_indexAddr rfl (h0).isSl rfl (idx_some e230).1 hlt Tryz.underlying26 Tryz.sizeOf57) (fun a S => ?_)
     refine lx_q (pAdd (ePtr p0 (a1.toNat * 4)) 1) S (want_b rfl rfl hc211) (by decide) (q_fieldAddr' 1 2 rfl ((hat233 0 _ rfl).isP) Tryz.underlying57 rfl Tryz.sizeOf2) (fun a S => ?_)
     refine lx_q (.int .i64 x229.2.1) S (want_b rfl rfl hc211) (by decide) (q_load1 rfl Tryz.isAgg2 (fun w1 hC => (At.of_add (m := 1) (j := 0) ((hat233 1 _ rfl).ext hC.ext)))) (fun a S => ?_)
     refine lx_q (.bool (x212.2.1 == x229.2.1)) S (want_b rfl rfl hc211) (by decide) (q_eql rfl rfl) (fun a S => ?_)
     refine lq (.bool (x212.2.1 == x229.2.1)) S (q_pickT' rfl hc211 rfl) fun a S => ?_
     refine lx_nil ?_
     obtain rfl := Option.some.inj hm
     exact ⟨S.sub ⟨rfl, rfl, rfl, rfl, trivial⟩, H⟩
    ·have hm := ite_f (eq_false_of_ne_true hc211) e210
     have hc211 : x206 = false := eq_false_of_ne_true hc211
     refine lx_skip S rfl rfl (isB_ne hc211) (by decide) (fun a S => ?_)
     refine lx_skip S rfl rfl (isB_ne hc211) (by decide) (fun a S => ?_)
     refine lx_skip S rfl rfl (isB_ne hc211) (by decide) (fun a S => ?_)
     refine lx_skip S rfl rfl (isB_ne hc211) (by decide) (fun a S => ?_)
     refine lx_skip S rfl rfl (isB_ne hc211) (by decide) (fun a S => ?_)
     refine lx_skip S rfl rfl (isB_ne hc211) (by decide) (fun a S => ?_)
     refine lx_skip S rfl rfl (isB_ne hc211) (by decide) (fun a S => ?_)
     refine lx_skip S rfl rfl (isB_ne hc211) (by decide) (fun a S => ?_)
     refine lx_skip S rfl rfl (isB_ne hc211) (by decide) (fun a S => ?_)
     refine lx_skip S rfl rfl (isB_ne hc211) (by decide) (fun a S => ?_)
     refine lx_skip S rfl rfl (isB_ne hc211) (by decide) (fun a S => ?_)
     refine lq (.bool false) S (q_pickF' rfl hc211 rfl) fun a S => ?_
     refine lx_nil ?_
     obtain rfl := Option.some.inj hm
     exact ⟨S.sub ⟨rfl, rfl, rfl, rfl, trivial⟩, H⟩
   ·rintro a w ⟨S, H⟩
    refine lq (.bool t209) S (q_move rfl) fun a S => ?_
    obtain ⟨t246, e247, hm⟩ := bind_some hm
    refine lx_cut 6 (fun a w => Slots a 38 [(0, p0), (1, (.int .i64 a1)), (5, (.int .i64 x103)), (36, (.bool t246))] ∧ Heap w0 [] w) ?_ ?_
    ·by_cases hc248 : t209 = true
     ·have hm := ite_t hc248 e247
      refine lx_q (.int .i64 a1) S (want_b rfl rfl hc248) (by decide) (q_move rfl) (fun a S => ?_)
      refine lx_q p0 S (want_b rfl rfl hc248) (by decide) (q_move rfl) (fun a S => ?_)
      refine lx_q (.int .i64 x103) S (want_b rfl rfl hc248) (by decide) (q_move rfl) (fun a S => ?_)
      obtain ⟨x251, e252, hm⟩ := bind_some hm
      refine lx_call (xs := [.tmp 32, .tmp 33]) S (want_b rfl rfl hc248) (by decide) rfl rfl Tryz.call34 ((impl_formulaEnd_ok (H.arg h0)  e252).mono ?_)
      rintro e w249 ⟨rfl, Hc250⟩
      have H := H.call0 Hc250
      refine ⟨_, rfl, H.sel [] (by decide), fun a S => ?_⟩
      refine lx_q (.bool (decide (a1 < x251))) S (want_b rfl rfl hc248) (by decide) (q_lss rfl rfl) (fun a S => ?_)
      refine lq (.bool (decide (a1 < x251))) S (q_pickT' rfl hc248 rfl) fun a S => ?_
      refine lx_nil ?_
      obtain rfl := Option.some.inj hm
      exact ⟨S.sub ⟨rfl, rfl, rfl, rfl, trivial⟩, H⟩
     ·have hm := ite_f (eq_false_of_ne_true hc248) e247
      have hc248 : t209 = false := eq_false_of_ne_true hc248
      refine lx_skip S rfl rfl (isB_ne hc248) (by decide) (fun a S => ?_)
      refine lx_skip S rfl rfl (isB_ne hc248) (by decide) (fun a S => ?_)
      refine lx_skip S rfl rfl (isB_ne hc248) (by decide) (fun a S => ?_)
      refine lx_skip S rfl rfl (isB_ne hc248) (by decide) (fun a S => ?_)
      refine lx_skip S rfl rfl (isB_ne hc248) (by decide) (fun a S => ?_)
      refine lq (.bool false) S (q_pickF' rfl hc248 rfl) fun a S => ?_
      refine lx_nil ?_
      obtain rfl := Option.some.inj hm
      exact ⟨S.sub ⟨rfl, rfl, rfl, rfl, trivial⟩, H⟩
    ·rintro a w ⟨S, H⟩
     refine lx_nil (thenN ?_)
     refine cond_b S rfl (fun hc254 => ?_) (fun hc254 => ?_)
     ·have hm := ite_t hc254 hm
      refine wp_seq (region_plain ?_)
      refine lq (.int .i64 x103) S (q_move rfl) fun a S => ?_
      refine lq (.int .i64 x103) S (q_assign rfl) fun a S => ?_
      refine lx_nil (thenN ?_)
      refine wp_ret (inBlock_ret ?_)
      refine then_ret ?_
      refine then_ret ?_
      refine inBlock_ret ?_
      refine then_ret ?_
      refine then_ret ?_
      obtain rfl := it_brk hm hc183
      have hm := ctl_inr hk180
      obtain rfl := Option.some.inj hm
      exact leave1 S rfl rfl ⟨rfl, H⟩
     ·have hm := ite_f hc254 hm
      refine wp_skip ?_
      refine inBlock_norm ?_
      refine thenN ?_
      refine region_plain ?_
      refine lq (.int .i64 x103) S (q_move rfl) fun a S => ?_
      refine lq (.int .i64 (W (x103 - (1 : Int)))) S (q_sub rfl rfl) fun a S => ?_
      refine lq (.int .i64 (W (x103 - (1 : Int)))) S (q_assign rfl) fun a S => ?_
      refine lx_nil ?_
      exact ⟨m181, Nat.lt_succ_self _, (W (x103 - (1 : Int))), S.sub ⟨rfl, rfl, rfl, trivial⟩, H, it_cont hm hc183⟩
  ·have hm := ite_f hc184 hm
   refine wp_exit ?_
   refine then_exit ?_
   refine then_exit ?_
   refine inBlock_exit ?_
   obtain rfl := it_brk hm hc183
   exact ⟨S.sub trivial, H, rfl⟩

/-- impl.ValidFormula -/
def impl_ValidFormula_m (fuel : Nat) (a0 : (List Timpl_Node)) : Option (Bool) :=
  (impl_within_m fuel (a0.length : Int) (1 : Int) (30 : Int)).bind fun x33 => (if (!x33) = true then some true else (impl_shapeOk_m fuel a0).bind fun x41 => some (!x41)).bind fun t36 => (if t36 = true then some (false) else (iter (fun (s : (Int)) => (match s with | (x101) => (if (decide (x101 < (a0.length : Int))) = true then (idx a0 x101).bind fun x167 => (impl_within_m fuel x167.1 (0 : Int) (8 : Int)).bind fun x190 => (if (!x190) = true then some true else (impl_Node_fieldsOk_m fuel (x167.1, x167.2.1, x167.2.2.1, x167.2.2.2)).bind fun x198 => some (!x198)).bind fun t193 => (if t193 = true then some true else (impl_Node_boundOk_m fuel (x167.1, x167.2.1, x167.2.2.1, x167.2.2.2)).bind fun x206 => some (!x206)).bind fun t201 => (if t201 = true then some true else (if (x167.1 == (6 : Int)) = true then (impl_binder_m fuel a0 x101).bind fun x217 => some (decide (x217 < (0 : Int))) else some false).bind fun t212 => some t212).bind fun t209 => (if t209 = true then some (.inr (.inr false)) else some (.inl ((W (x101 + (1 : Int)))))) else some (.inr (.inl ()))) : Option (((Int)) ⊕ ((Unit) ⊕ (Bool))))) fuel ((0 : Int))).bind fun res158 => ctl (β := Unit) (ρ := Bool) (τ := Bool) res158 (fun _ => some (true)) (fun q => some (q)))
set_option maxRecDepth 20000 in
theorem impl_ValidFormula_ok {w0 : World} {fuel : Nat} {p0 : Value} {a0 : (List Timpl_Node)} {r : Bool} (hG : GlobE Tryz.prog w0) (h0 : Rd (rList Rimpl_Node) w0 p0 a0) (hm : impl_ValidFormula_m fuel a0 = some r) :
  Calls Tryz.prog 61 #[p0] w0 fun e w => e = .returned (.bool r) ∧ Heap w0 [] w := by
 unfold impl_ValidFormula_m at hm
 have H := Heap.start w0
 refine enter (args := [p0]) Tryz.func61 rfl 47 rfl (Nat.le_of_ble_eq_true rfl) (fun a S => ?_)
 refine wp_seq (region_plain ?_)
 refine lq (.bool false) S (q_assign rfl) fun a S => ?_
 refine lx_nil (thenN ?_)
 refine wp_seq (wp_seq (region_plain ?_))
 refine lq p0 S (q_move rfl) fun a S => ?_
 refine lq (.int .i64 (a0.length : Int)) S (q_lenSl rfl (h0).isSl rfl Tryz.underlying26) fun a S => ?_
 obtain ⟨x33, e34, hm⟩ := bind_some hm
 refine lx_call (xs := [.tmp 6, .const (.int .i64 (1)), .const (.int .i64 (30))]) S trivial (by decide) rfl rfl Tryz.call77 ((impl_within_ok    e34).mono ?_)
 rintro e w31 ⟨rfl, Hc32⟩
 have H := H.call0 Hc32
 refine ⟨_, rfl, trivial, fun a S => ?_⟩
 refine lq (.bool (!x33)) S (q_not rfl) fun a S => ?_
 refine lq (.bool (!x33)) S (q_move rfl) fun a S => ?_
 obtain ⟨t36, e37, hm⟩ := bind_some hm
 refine lx_cut 4 (fun a w => Slots a 47 [(0, p0), (13, (.bool t36))] ∧ Heap w0 [] w) ?_ ?_
 ·by_cases hc38 : (!x33) = true
  ·have hm := ite_t hc38 e37
   refine lx_skip S rfl rfl (isB_ne hc38) (by decide) (fun a S => ?_)
   refine lx_skip S rfl rfl (isB_ne hc38) (by decide) (fun a S => ?_)
   refine lx_skip S rfl rfl (isB_ne hc38) (by decide) (fun a S => ?_)
   refine lq (.bool true) S (q_pickT' rfl hc38 rfl) fun a S => ?_
   refine lx_nil ?_
   obtain rfl := Option.some.inj hm
   exact ⟨S.sub ⟨rfl, rfl, trivial⟩, H⟩
  ·have hm := ite_f (eq_false_of_ne_true hc38) e37
   have hc38 : (!x33) = false := eq_false_of_ne_true hc38
   refine lx_q p0 S (want_b rfl rfl hc38) (by decide) (q_move rfl) (fun a S => ?_)
   obtain ⟨x41, e42, hm⟩ := bind_some hm
   refine lx_call (xs := [.tmp 10]) S (want_b rfl rfl hc38) (by decide) rfl rfl Tryz.call78 ((impl_shapeOk_ok (H.arg h0) e42).mono ?_)
   rintro e w39 ⟨rfl, Hc40⟩
   have H := H.call0 Hc40
   refine ⟨_, rfl, trivial, fun a S => ?_⟩
   refine lx_q (.bool (!x41)) S (want_b rfl rfl hc38) (by decide) (q_not rfl) (fun a S => ?_)
   refine lq (.bool (!x41)) S (q_pickF' rfl hc38 rfl) fun a S => ?_
   refine lx_nil ?_
   obtain rfl := Option.some.inj hm
   exact ⟨S.sub ⟨rfl, rfl, trivial⟩, H⟩
 ·rintro a w ⟨S, H⟩
  refine lx_nil (thenN ?_)
  refine cond_b S rfl (fun hc44 => ?_) (fun hc44 => ?_)
  ·have hm := ite_t hc44 hm
   refine wp_seq (region_plain ?_)
   refine lq (.bool false) S (q_assign rfl) fun a S => ?_
   refine lx_nil (thenN ?_)
   refine wp_ret (then_ret ?_)
   obtain rfl := Option.some.inj hm
   exact leave1 S rfl rfl ⟨rfl, H⟩
  ·have hm := ite_f hc44 hm
   refine wp_skip (thenN ?_)
   refine wp_seq (wp_seq (region_plain ?_))
   refine lq p0 S (q_move rfl) fun a S => ?_
   refine lq (.int .i64 (a0.length : Int)) S (q_lenSl rfl (h0).isSl rfl Tryz.underlying26) fun a S => ?_
   refine lq (.int .i64 (0 : Int)) S (q_move rfl) fun a S => ?_
   refine lx_nil (thenN ?_)
   obtain ⟨res158, hit159, hk162⟩ := bind_some hm
   obtain ⟨f160, hf161, hit159⟩ := iter_name hit159
   refine block_loop (fun a w => Slots a 47 [] ∧ Heap w0 [] w ∧ res158 = .inl ()) ?_ ?_
   ·rintro a w ⟨S, H, rfl⟩
    have hm := ctl_inl hk162
    refine thenN ?_
    refine wp_seq (region_plain ?_)
    refine lq (.bool true) S (q_assign rfl) fun a S => ?_
    refine lx_nil (thenN ?_)
    refine wp_ret ?_
    obtain rfl := Option.some.inj hm
    exact leave1 S rfl rfl ⟨rfl, H⟩
   ·skip
    refine loop_ghost (fun n a w => ∃ (x101 : Int), Slots a 47 [(0, p0), (14, p0), (15, (.int .i64 (a0.length : Int))), (16, (.int .i64 x101))] ∧ Heap w0 [] w ∧ iter f160 n (x101) = some res158) _ ⟨(0 : Int), S.sub ⟨rfl, rfl, rfl, rfl, trivial⟩, H, hit159⟩ ?_
    rintro n a w ⟨x101, S, H, hit159⟩
    obtain ⟨m163, o164, rfl, hm, hc165⟩ := iter_step hit159
    rw [hf161] at hm
    refine wp_seq (region_plain ?_)
    refine lq (.bool (decide (x101 < (a0.length : Int)))) S (q_lss rfl rfl) fun a S => ?_
    refine lx_nil (thenN ?_)
    refine wp_seq ?_
    refine cond_b S rfl (fun hc166 => ?_) (fun hc166 => ?_)
    ·have hm := ite_t hc166 hm
     refine wp_skip (thenN ?_)
     refine wp_seq ?_
     refine wp_block ?_
     refine wp_seq (region_plain ?_)
     refine lq (.int .i64 x101) S (q_move rfl) fun a S => ?_
     obtain ⟨x167, e168, hm⟩ := bind_some hm
     obtain ⟨c169, h170, hat171⟩ := (h0).elem (idx_some e168).2
     obtain ⟨c172, c173, rfl, h174, h175⟩ := h170
     obtain rfl := h174
     obtain ⟨c176, c177, rfl, h178, h179⟩ := h175
     obtain rfl := h178
     obtain ⟨c180, c181, rfl, h182, h183⟩ := h179
     obtain rfl := h182
     obtain rfl := h183
     have hlt := lt_of_idx (idx_some e168).2
     refine lq (ePtr p0 (x101.toNat * 4)) S (q_indexAddr rfl (h0).isSl rfl (idx_some e168).1 hlt Tryz.underlying26 Tryz.sizeOf57) fun a S => ?_
     refine lx_e (.agg #[(.int .i64 x167.1), (.int .i64 x167.2.1), (sv x167.2.2.1), (.bool x167.2.2.2)]) S trivial (by decide) rfl trivial (q_loadA (cs := [(.int .i64 x167.1), (.int .i64 x167.2.1), (sv x167.2.2.1), (.bool x167.2.2.2)]) rfl ((hat171 0 _ rfl).isP) Tryz.isAgg57 Tryz.sizeOf57 (by rintro _ rfl; exact (fun j u hu => (hat171 j u hu).ext H.ext))) (fun a S => ?_)
     refine lx_alloc S trivial (by decide) rfl H Tryz.zeroValue57 rfl (fun b184 w185 H => ⟨trivial, fun a S => ?_⟩)
     refine lq (.int .i64 x101) S (q_assign rfl) fun a S => ?_
     refine lx_storeBox (o := 0) (i := 0) (us := [(.int .i64 x167.1), (.int .i64 x167.2.1), (sv x167.2.2.1), (.bool x167.2.2.2)]) (cs' := [(.int .i64 x167.1), (.int .i64 x167.2.1), (sv x167.2.2.1), (.bool x167.2.2.2)]) S trivial rfl H rfl rfl rfl rfl Tryz.sizeOf57 (Nat.le_of_ble_eq_true rfl) (List.forall_mem_cons.2 ⟨rfl, (List.forall_mem_cons.2 ⟨rfl, (List.forall_mem_cons.2 ⟨rfl, (List.forall_mem_cons.2 ⟨rfl, (fun _ h => nomatch h)⟩)⟩)⟩)⟩) rfl (fun w187 H => ⟨trivial, fun a S => ?_⟩)
     change Heap w0 [bA b184 [(.int .i64 x167.1), (.int .i64 x167.2.1), (sv x167.2.2.1), (.bool x167.2.2.2)] 57] w187 at H
     refine lx_nil (thenN ?_)
     refine wp_seq (region_plain ?_)
     refine lq (pAdd (bp b184) 0) S (q_fieldAddr' 0 2 rfl (isP_bp _) Tryz.underlying57 rfl Tryz.sizeOf2) fun a S => ?_
     refine lx_e (.int .i64 x167.1) S trivial (by decide) rfl trivial (q_load1 rfl Tryz.isAgg2 (by rintro _ rfl; exact (At.of_add (m := 0) (j := 0) (boxAt (i := 0) H rfl (j := 0) rfl)))) (fun a S => ?_)
     obtain ⟨x190, e191, hm⟩ := bind_some hm
     refine lx_call (xs := [.tmp 22, .const (.int .i64 (0)), .const (.int .i64 (8))]) S trivial (by decide) rfl rfl Tryz.call77 ((impl_within_ok    e191).mono ?_)
     rintro e w188 ⟨rfl, Hc189⟩
     have H := H.call0 Hc189
     refine ⟨_, rfl, trivial, fun a S => ?_⟩
     refine lq (.bool (!x190)) S (q_not rfl) fun a S => ?_
     refine lq (.bool (!x190)) S (q_move rfl) fun a S => ?_
     obtain ⟨t193, e194, hm⟩ := bind_some hm
     refine lx_cut 4 (fun a w => Slots a 47 [(0, p0), (3, (.int .i64 x101)), (4, (bp b184)), (14, p0), (15, (.int .i64 (a0.length : Int))), (16, (.int .i64 x101)), (29, (.bool t193))] ∧ Heap w0 [bA b184 [(.int .i64 x167.1), (.int .i64 x167.2.1), (sv x167.2.2.1), (.bool x167.2.2.2)] 57] w) ?_ ?_
     ·by_cases hc195 : (!x190) = true
      ·have hm := ite_t hc195 e194
       refine lx_skip S rfl rfl (isB_ne hc195) (by decide) (fun a S => ?_)
       refine lx_skip S rfl rfl (isB_ne hc195) (by decide) (fun a S => ?_)
       refine lx_skip S rfl rfl (isB_ne hc195) (by decide) (fun a S => ?_)
       refine lq (.bool true) S (q_pickT' rfl hc195 rfl) fun a S => ?_
       refine lx_nil ?_
       obtain rfl := Option.some.inj hm
       exact ⟨S.sub ⟨rfl, rfl, rfl, rfl, rfl, rfl, rfl, trivial⟩, H⟩
      ·have hm := ite_f (eq_false_of_ne_true hc195) e194
       have hc195 : (!x190) = false := eq_false_of_ne_true hc195
       refine lx_e (.agg #[(.int .i64 x167.1), (.int .i64 x167.2.1), (sv x167.2.2.1), (.bool x167.2.2.2)]) S (want_b rfl rfl hc195) (by decide) rfl trivial (q_loadA (cs := [(.int .i64 x167.1), (.int .i64 x167.2.1), (sv x167.2.2.1), (.bool x167.2.2.2)]) rfl (isP_bp _) Tryz.isAgg57 Tryz.sizeOf57 (by rintro _ rfl; exact (fun j u hu => boxAt (i := 0) H rfl hu))) (fun a S => ?_)
       obtain ⟨x198, e199, hm⟩ := bind_some hm
       refine lx_call (xs := [.tmp 26]) S (want_b rfl rfl hc195) (by decide) rfl rfl Tryz.call81 ((impl_Node_fieldsOk_ok (hG.ext H.ext) ⟨[(.int .i64 x167.1), (.int .i64 x167.2.1), (sv x167.2.2.1), (.bool x167.2.2.2)], rfl, ⟨[(.int .i64 x167.1)], [(.int .i64 x167.2.1), (sv x167.2.2.1), (.bool x167.2.2.2)], rfl, rfl, ⟨[(.int .i64 x167.2.1)], [(sv x167.2.2.1), (.bool x167.2.2.2)], rfl, rfl, ⟨[(sv x167.2.2.1)], [(.bool x167.2.2.2)], rfl, rfl, rfl⟩⟩⟩⟩ e199).mono ?_)
       rintro e w196 ⟨rfl, Hc197⟩
       have H := H.call0 Hc197
       refine ⟨_, rfl, trivial, fun a S => ?_⟩
       refine lx_q (.bool (!x198)) S (want_b rfl rfl hc195) (by decide) (q_not rfl) (fun a S => ?_)
       refine lq (.bool (!x198)) S (q_pickF' rfl hc195 rfl) fun a S => ?_
       refine lx_nil ?_
       obtain rfl := Option.some.inj hm
       exact ⟨S.sub ⟨rfl, rfl, rfl, rfl, rfl, rfl, rfl, trivial⟩, H⟩
     ·rintro a w ⟨S, H⟩
      refine lq (.bool t193) S (q_move rfl) fun a S => ?_
      obtain ⟨t201, e202, hm⟩ := bind_some hm
      refine lx_cut 4 (fun a w => Slots a 47 [(0, p0), (3, (.int .i64 x101)), (4, (bp b184)), (14, p0), (15, (.int .i64 (a0.length : Int))), (16, (.int .i64 x101)), (34, (.bool t201))] ∧ Heap w0 [bA b184 [(.int .i64 x167.1), (.int .i64 x167.2.1), (sv x167.2.2.1), (.bool x167.2.2.2)] 57] w) ?_ ?_
      ·by_cases hc203 : t193 = true
       ·have hm := ite_t hc203 e202
        refine lx_skip S rfl rfl (isB_ne hc203) (by decide) (fun a S => ?_)
        refine lx_skip S rfl rfl (isB_ne hc203) (by decide) (fun a S => ?_)
        refine lx_skip S rfl rfl (isB_ne hc203) (by decide) (fun a S => ?_)
        refine lq (.bool true) S (q_pickT' rfl hc203 rfl) fun a S => ?_
        refine lx_nil ?_
        obtain rfl := Option.some.inj hm
        exact ⟨S.sub ⟨rfl, rfl, rfl, rfl, rfl, rfl, rfl, trivial⟩, H⟩
       ·have hm := ite_f (eq_false_of_ne_true hc203) e202
        have hc203 : t193 = false := eq_false_of_ne_true hc203
        refine lx_e (.agg #[(.int .i64 x167.1), (.int .i64 x167.2.1), (sv x167.2.2.1), (.bool x167.2.2.2)]) S (want_b rfl rfl hc203) (by decide) rfl trivial (q_loadA (cs := [(.int .i64 x167.1), (.int .i64 x167.2.1), (sv x167.2.2.1), (.bool x167.2.2.2)]) rfl (isP_bp _) Tryz.isAgg57 Tryz.sizeOf57 (by rintro _ rfl; exact (fun j u hu => boxAt (i := 0) H rfl hu))) (fun a S => ?_)
        obtain ⟨x206, e207, hm⟩ := bind_some hm
        refine lx_call (xs := [.tmp 31]) S (want_b rfl rfl hc203) (by decide) rfl rfl Tryz.call85 ((impl_Node_boundOk_ok ⟨[(.int .i64 x167.1), (.int .i64 x167.2.1), (sv x167.2.2.1), (.bool x167.2.2.2)], rfl, ⟨[(.int .i64 x167.1)], [(.int .i64 x167.2.1), (sv x167.2.2.1), (.bool x167.2.2.2)], rfl, rfl, ⟨[(.int .i64 x167.2.1)], [(sv x167.2.2.1), (.bool x167.2.2.2)], rfl, rfl, ⟨[(sv x167.2.2.1)], [(.bool x167.2.2.2)], rfl, rfl, rfl⟩⟩⟩⟩ e207).mono ?_)
        rintro e w204 ⟨rfl, Hc205⟩
        have H := H.call0 Hc205
        refine ⟨_, rfl, trivial, fun a S => ?_⟩
        refine lx_q (.bool (!x206)) S (want_b rfl rfl hc203) (by decide) (q_not rfl) (fun a S => ?_)
        refine lq (.bool (!x206)) S (q_pickF' rfl hc203 rfl) fun a S => ?_
        refine lx_nil ?_
        obtain rfl := Option.some.inj hm
        exact ⟨S.sub ⟨rfl, rfl, rfl, rfl, rfl, rfl, rfl, trivial⟩, H⟩
      ·rintro a w ⟨S, H⟩
       refine lq (.bool t201) S (q_move rfl) fun a S => ?_
       obtain ⟨t209, e210, hm⟩ := bind_some hm
       refine lx_cut 10 (fun a w => Slots a 47 [(0, p0), (14, p0), (15, (.int .i64 (a0.length : Int))), (16, (.int .i64 x101)), (45, (.bool t209))] ∧ Heap w0 [] w) ?_ ?_
       ·by_cases hc211 : t201 = true
        ·have hm := ite_t hc211 e210
         refine lx_skip S rfl rfl (isB_ne hc211) (by decide) (fun a S => ?_)
         refine lx_skip S rfl rfl (isB_ne hc211) (by decide) (fun a S => ?_)
         refine lx_skip S rfl rfl (isB_ne hc211) (by decide) (fun a S => ?_)
         refine lx_skip S rfl rfl (isB_ne hc211) (by decide) (fun a S => ?_)
         refine lx_skip S rfl rfl rfl (by decide) (fun a S => ?_)
         refine lx_skip S rfl rfl rfl (by decide) (fun a S => ?_)
         refine lx_skip S rfl rfl rfl (by decide) (fun a S => ?_)
         refine lx_skip S rfl rfl rfl (by decide) (fun a S => ?_)
         refine lx_skip S rfl rfl (isB_ne hc211) (by decide) (fun a S => ?_)
         refine lq (.bool true) S (q_pickT' rfl hc211 rfl) fun a S => ?_
         refine lx_nil ?_
         obtain rfl := Option.some.inj hm
         have H := H.sel [] (by decide)
         exact ⟨S.sub ⟨rfl, rfl, rfl, rfl, rfl, trivial⟩, H⟩
        ·have hm := ite_f (eq_false_of_ne_true hc211) e210
         have hc211 : t201 = false := eq_false_of_ne_true hc211
         refine lx_q (pAdd (bp b184) 0) S (want_b rfl rfl hc211) (by decide) (q_fieldAddr' 0 2 rfl (isP_bp _) Tryz.underlying57 rfl Tryz.sizeOf2) (fun a S => ?_)
         refine lx_e (.int .i64 x167.1) S (want_b rfl rfl hc211) (by decide) rfl trivial (q_load1 rfl Tryz.isAgg2 (by rintro _ rfl; exact (At.of_add (m := 0) (j := 0) (boxAt (i := 0) H rfl (j := 0) rfl)))) (fun a S => ?_)
         refine lx_q (.bool (x167.1 == (6 : Int))) S (want_b rfl rfl hc211) (by decide) (q_eql rfl rfl) (fun a S => ?_)
         refine lx_q (.bool (x167.1 == (6 : Int))) S (want_b rfl rfl hc211) (by decide) (q_move rfl) (fun a S => ?_)
         obtain ⟨t212, e213, hm⟩ := bind_some hm
         refine lx_cut 5 (fun a w => Slots a 47 [(0, p0), (14, p0), (15, (.int .i64 (a0.length : Int))), (16, (.int .i64 x101)), (35, (.bool t201)), (44, (.bool t212))] ∧ Heap w0 [] w) ?_ ?_
         ·by_cases hc214 : (x167.1 == (6 : Int)) = true
          ·have hm := ite_t hc214 e213
           refine lx_q p0 S (want_b rfl rfl hc214) (by decide) (q_move rfl) (fun a S => ?_)
           refine lx_q (.int .i64 x101) S (want_b rfl rfl hc214) (by decide) (q_move rfl) (fun a S => ?_)
           obtain ⟨x217, e218, hm⟩ := bind_some hm
           refine lx_call (xs := [.tmp 40, .tmp 41]) S (want_b rfl rfl hc214) (by decide) rfl rfl Tryz.call37 ((impl_binder_ok (H.arg h0)  e218).mono ?_)
           rintro e w215 ⟨rfl, Hc216⟩
           have H := H.call0 Hc216
           refine ⟨_, rfl, trivial, fun a S => ?_⟩
           refine lx_q (.bool (decide (x217 < (0 : Int)))) S (want_b rfl rfl hc214) (by decide) (q_lss rfl rfl) (fun a S => ?_)
           refine lx_q (.bool (decide (x217 < (0 : Int)))) S (want_b rfl rfl hc211) (by decide) (q_pickT' rfl hc214 rfl) (fun a S => ?_)
           refine lx_nil ?_
           obtain rfl := Option.some.inj hm
           have H := H.sel [] (by decide)
           exact ⟨S.sub ⟨rfl, rfl, rfl, rfl, rfl, rfl, trivial⟩, H⟩
          ·have hm := ite_f (eq_false_of_ne_true hc214) e213
           have hc214 : (x167.1 == (6 : Int)) = false := eq_false_of_ne_true hc214
           refine lx_skip S rfl rfl (isB_ne hc214) (by decide) (fun a S => ?_)
           refine lx_skip S rfl rfl (isB_ne hc214) (by decide) (fun a S => ?_)
           refine lx_skip S rfl rfl (isB_ne hc214) (by decide) (fun a S => ?_)
           refine lx_skip S rfl rfl (isB_ne hc214) (by decide) (fun a S => ?_)
           refine lx_q (.bool false) S (want_b rfl rfl hc211) (by decide) (q_pickF' rfl hc214 rfl) (fun a S => ?_)
           refine lx_nil ?_
           obtain rfl := Option.some.inj hm
           have H := H.sel [] (by decide)
           exact ⟨S.sub ⟨rfl, rfl, rfl, rfl, rfl, rfl, trivial⟩, H⟩
         ·rintro a w ⟨S, H⟩
          refine lq (.bool t212) S (q_pickF' rfl hc211 rfl) fun a S => ?_
          refine lx_nil ?_
          obtain rfl := Option.some.inj hm
          exact ⟨S.sub ⟨rfl, rfl, rfl, rfl, rfl, trivial⟩, H⟩
       ·rintro a w ⟨S, H⟩
        refine lx_nil (thenN ?_)
        refine cond_b S rfl (fun hc220 => ?_) (fun hc220 => ?_)
        ·have hm := ite_t hc220 hm
         refine wp_seq (region_plain ?_)
         refine lq (.bool false) S (q_assign rfl) fun a S => ?_
         refine lx_nil (thenN ?_)
         refine wp_ret (inBlock_ret ?_)
         refine then_ret ?_
         refine then_ret ?_
         refine inBlock_ret ?_
         refine then_ret ?_
         refine then_ret ?_
         obtain rfl := it_brk hm hc165
         have hm := ctl_inr hk162
         obtain rfl := Option.some.inj hm
         exact leave1 S rfl rfl ⟨rfl, H⟩
        ·have hm := ite_f hc220 hm
         refine wp_skip ?_
         refine inBlock_norm ?_
         refine thenN ?_
         refine region_plain ?_
         refine lq (.int .i64 (W (x101 + (1 : Int)))) S (q_add rfl rfl) fun a S => ?_
         refine lq (.int .i64 (W (x101 + (1 : Int)))) S (q_move rfl) fun a S => ?_
         refine lx_nil ?_
         exact ⟨m163, Nat.lt_succ_self _, (W (x101 + (1 : Int))), S.sub ⟨rfl, rfl, rfl, rfl, trivial⟩, H, it_cont hm hc165⟩
    ·have hm := ite_f hc166 hm
     refine wp_exit ?_
     refine then_exit ?_
     refine then_exit ?_
     refine inBlock_exit ?_
     obtain rfl := it_brk hm hc165
     exact ⟨S.sub trivial, H, rfl⟩

/-- impl.nodeCode -/
def impl_nodeCode_m (fuel : Nat) (a0 : (List Timpl_Node)) (a1 : Int) : Option (Int) :=
  (impl_ValidFormula_m fuel a0).bind fun x33 => (if (!x33) = true then some ((1 : Int)) else (impl_index_m fuel a1 (a0.length : Int)).bind fun x39 => (if (!x39) = true then some ((2 : Int)) else some ((0 : Int))))
set_option maxRecDepth 20000 in
theorem impl_nodeCode_ok {w0 : World} {fuel : Nat} {p0 : Value} {a0 : (List Timpl_Node)} {a1 : Int} {r : Int} (hG : GlobE Tryz.prog w0) (h0 : Rd (rList Rimpl_Node) w0 p0 a0) (hm : impl_nodeCode_m fuel a0 a1 = some r) :
  Calls Tryz.prog 33 #[p0, .int .i64 a1] w0 fun e w => e = .returned (.int .i64 r) ∧ Heap w0 [] w := by
 unfold impl_nodeCode_m at hm
 have H := Heap.start w0
 refine enter (args := [p0, .int .i64 a1]) Tryz.func33 rfl 15 rfl (Nat.le_of_ble_eq_true rfl) (fun a S => ?_)
 refine wp_seq (region_plain ?_)
 refine lq (.int .i64 (0 : Int)) S (q_assign rfl) fun a S => ?_
 refine lx_nil (thenN ?_)
 refine wp_seq ?_
 refine wp_block ?_
 refine wp_seq (region_plain ?_)
 refine lq p0 S (q_move rfl) fun a S => ?_
 obtain ⟨x33, e34, hm⟩ := bind_some hm
 refine lx_call (xs := [.tmp 6]) S trivial (by decide) rfl rfl Tryz.call61 ((impl_ValidFormula_ok (hG.ext H.ext) (H.arg h0) e34).mono ?_)
 rintro e w31 ⟨rfl, Hc32⟩
 have H := H.call0 Hc32
 refine ⟨_, rfl, trivial, fun a S => ?_⟩
 refine lq (.bool (!x33)) S (q_not rfl) fun a S => ?_
 refine lq (.bool (!x33)) S (q_assign rfl) fun a S => ?_
 refine lx_nil (thenN ?_)
 refine cond_b S rfl (fun hc36 => ?_) (fun hc36 => ?_)
 ·have hm := ite_t hc36 hm
  refine wp_seq (region_plain ?_)
  refine lq (.int .i64 (1 : Int)) S (q_assign rfl) fun a S => ?_
  refine lx_nil (thenN ?_)
  refine wp_ret (inBlock_ret ?_)
  refine then_ret ?_
  obtain rfl := Option.some.inj hm
  exact leave1 S rfl rfl ⟨rfl, H⟩
 ·have hm := ite_f hc36 hm
  refine wp_seq (region_plain ?_)
  refine lq (.int .i64 a1) S (q_move rfl) fun a S => ?_
  refine lq p0 S (q_move rfl) fun a S => ?_
  refine lq (.int .i64 (a0.length : Int)) S (q_lenSl rfl (h0).isSl rfl Tryz.underlying26) fun a S => ?_
  obtain ⟨x39, e40, hm⟩ := bind_some hm
  refine lx_call (xs := [.tmp 10, .tmp 12]) S trivial (by decide) rfl rfl Tryz.call62 ((impl_index_ok   e40).mono ?_)
  rintro e w37 ⟨rfl, Hc38⟩
  have H := H.call0 Hc38
  refine ⟨_, rfl, trivial, fun a S => ?_⟩
  refine lq (.bool (!x39)) S (q_not rfl) fun a S => ?_
  refine lq (.bool (!x39)) S (q_assign rfl) fun a S => ?_
  refine lx_nil (thenN ?_)
  refine cond_b S rfl (fun hc42 => ?_) (fun hc42 => ?_)
  ·have hm := ite_t hc42 hm
   refine wp_seq (region_plain ?_)
   refine lq (.int .i64 (2 : Int)) S (q_assign rfl) fun a S => ?_
   refine lx_nil (thenN ?_)
   refine wp_ret (inBlock_ret ?_)
   refine then_ret ?_
   obtain rfl := Option.some.inj hm
   exact leave1 S rfl rfl ⟨rfl, H⟩
  ·have hm := ite_f hc42 hm
   refine wp_skip ?_
   refine inBlock_norm ?_
   refine thenN ?_
   refine wp_seq (region_plain ?_)
   refine lq (.int .i64 (0 : Int)) S (q_assign rfl) fun a S => ?_
   refine lx_nil (thenN ?_)
   refine wp_ret ?_
   obtain rfl := Option.some.inj hm
   exact leave1 S rfl rfl ⟨rfl, H⟩
end Go.Proofs.YtalcdoidimmdlaaGreatDoor
