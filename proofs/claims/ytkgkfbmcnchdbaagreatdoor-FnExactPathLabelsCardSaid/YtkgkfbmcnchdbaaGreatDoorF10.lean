/- The models of some functions and their walks (printed by a program of this repo). -/
import Derived.Test.YtkgkfbmcnchdbaaGreatDoorF0
import Derived.Test.YtkgkfbmcnchdbaaGreatDoorF1
import Derived.Test.YtkgkfbmcnchdbaaGreatDoorF2
import Derived.Test.YtkgkfbmcnchdbaaGreatDoorF3
import Derived.Test.YtkgkfbmcnchdbaaGreatDoorGxT
import Derived.Test.YtkgkfbmcnchdbaaGreatDoorGxY
namespace Go.Proofs.YtkgkfbmcnchdbaaGreatDoor
open Go.RowKit Go.Gx

/-- spec.l10Walk -/
def spec_l10Walk_m (fuel : Nat) (a0 : Timpl_Lts) (a1 : (List Int)) : Option ((Int × Int)) :=
  (iter (fun (s : (Int)) => (match s with | (x65) => (if (decide (x65 < (a1.length : Int))) = true then (idx a1 x65).bind fun x185 => (spec_l00In_m fuel x185 (0 : Int) (W ((a0.2.2.2.length : Int) - (1 : Int)))).bind fun x192 => (if (!x192) = true then some (.inr (.inr ((0 : Int), (2 : Int)))) else some (.inl ((W (x65 + (1 : Int)))))) else some (.inr (.inl ()))) : Option (((Int)) ⊕ ((Unit) ⊕ ((Int × Int)))))) fuel ((0 : Int))).bind fun res81 => ctl (β := Unit) (ρ := (Int × Int)) (τ := (Int × Int)) res81 (fun _ => (iter (fun (s : (Int) × (Int)) => (match s with | (x114, x115) => (if (decide (x115 < (a1.length : Int))) = true then (idx a1 x115).bind fun x156 => (idx a0.2.2.2 x156).bind fun x161 => (if (x161.1 != x114) = true then some (.inr (.inr ((0 : Int), (7 : Int)))) else some (.inl (x161.2.2, (W (x115 + (1 : Int)))))) else some (.inr (.inl (x114)))) : Option (((Int) × (Int)) ⊕ ((Int) ⊕ ((Int × Int)))))) fuel (a0.2.1, (0 : Int))).bind fun res145 => ctl (β := Int) (ρ := (Int × Int)) (τ := (Int × Int)) res145 (fun (x144) => some ((x144, (0 : Int)))) (fun q => some (q))) (fun q => some (q))
set_option maxRecDepth 20000 in
theorem spec_l10Walk_ok {w0 : World} {fuel : Nat} {p0 p1 : Value} {a0 : Timpl_Lts} {a1 : (List Int)} {r : (Int × Int)} (h0 : Rd (rPtr Rimpl_Lts) w0 p0 a0) (h1 : Rd (rList (rInt .i64)) w0 p1 a1) (hm : spec_l10Walk_m fuel a0 a1 = some r) :
  Calls Tryz.prog 77 #[p0, p1] w0 fun e w => e = .returned (.tuple #[.int .i64 r.1, .int .i64 r.2]) ∧ Heap w0 [] w := by
 unfold spec_l10Walk_m at hm
 have H := Heap.start w0
 obtain ⟨c31, h32, hat33⟩ := h0.ptr
 obtain ⟨c38, c39, rfl, h40, h41⟩ := h32
 obtain rfl := h40
 obtain ⟨c42, c43, rfl, h44, h45⟩ := h41
 obtain rfl := h44
 obtain ⟨c46, c47, rfl, h48, h49⟩ := h45
 obtain ⟨v34, rfl, h35⟩ := rd_list h48
 obtain ⟨v36, rfl, h37⟩ := rd_list h49
 refine enter (args := [p0, p1]) Tryz.func77 rfl 55 rfl (Nat.le_of_ble_eq_true rfl) (fun a S => ?_)
 refine wp_seq (region_plain ?_)
 refine lq (.int .i64 (0 : Int)) S (q_assign rfl) fun a S => ?_
 refine lq (.int .i64 (0 : Int)) S (q_assign rfl) fun a S => ?_
 refine lx_nil (thenN ?_)
 refine wp_seq (wp_seq (region_plain ?_))
 refine lq (.int .i64 (0 : Int)) S (q_assign rfl) fun a S => ?_
 refine lx_nil (thenN ?_)
 obtain ⟨res81, hit82, hk85⟩ := bind_some hm
 obtain ⟨f83, hf84, hit82⟩ := iter_name hit82
 refine block_loop (fun a w => Slots a 55 [(0, p0), (1, p1)] ∧ Heap w0 [] w ∧ res81 = .inl ()) ?_ ?_
 ·rintro a w ⟨S, H, rfl⟩
  have hm := ctl_inl hk85
  refine thenN ?_
  refine wp_seq (region_plain ?_)
  refine lq p0 S (q_move rfl) fun a S => ?_
  refine lq p0 S (q_nilCheck rfl ((hat33 0 _ rfl).isP)) fun a S => ?_
  refine lq (pAdd p0 1) S (q_fieldAddr' 1 2 rfl ((hat33 0 _ rfl).isP) Tryz.underlying30 rfl Tryz.sizeOf2) fun a S => ?_
  refine lx_e (.int .i64 a0.2.1) S trivial (by decide) rfl trivial (q_load1 rfl Tryz.isAgg2 (by rintro _ rfl; exact (At.of_add (m := 1) (j := 0) ((hat33 1 _ rfl).ext H.ext)))) (fun a S => ?_)
  refine lq (.int .i64 a0.2.1) S (q_assign rfl) fun a S => ?_
  refine lx_nil (thenN ?_)
  refine wp_seq (wp_seq (region_plain ?_))
  refine lq (.int .i64 (0 : Int)) S (q_assign rfl) fun a S => ?_
  refine lx_nil (thenN ?_)
  obtain ⟨res145, hit146, hk149⟩ := bind_some hm
  obtain ⟨f147, hf148, hit146⟩ := iter_name hit146
  refine block_loop (fun a w => ∃ (x144 : Int), Slots a 55 [(7, (.int .i64 x144))] ∧ Heap w0 [] w ∧ res145 = .inl (x144)) ?_ ?_
  ·rintro a w ⟨x144, S, H, rfl⟩
   have hm := ctl_inl hk149
   refine thenN ?_
   refine wp_seq (region_plain ?_)
   refine lq (.int .i64 x144) S (q_move rfl) fun a S => ?_
   refine lq (.int .i64 x144) S (q_assign rfl) fun a S => ?_
   refine lq (.int .i64 (0 : Int)) S (q_assign rfl) fun a S => ?_
   refine lx_nil (thenN ?_)
   refine wp_ret ?_
   obtain rfl := Option.some.inj hm
   exact leave2 S rfl rfl rfl ⟨rfl, H⟩
  ·skip
   refine loop_ghost (fun n a w => ∃ (x114 : Int) (x115 : Int), Slots a 55 [(0, p0), (1, p1), (7, (.int .i64 x114)), (8, (.int .i64 x115))] ∧ Heap w0 [] w ∧ iter f147 n (x114, x115) = some res145) _ ⟨a0.2.1, (0 : Int), S.sub ⟨rfl, rfl, rfl, rfl, trivial⟩, H, hit146⟩ ?_
   rintro n a w ⟨x114, x115, S, H, hit146⟩
   obtain ⟨m150, o151, rfl, hm, hc152⟩ := iter_step hit146
   rw [hf148] at hm
   refine wp_seq (wp_seq (region_plain ?_))
   refine lq (.int .i64 x115) S (q_move rfl) fun a S => ?_
   refine lq p1 S (q_move rfl) fun a S => ?_
   refine lq (.int .i64 (a1.length : Int)) S (q_lenSl rfl (h1).isSl rfl Tryz.underlying34) fun a S => ?_
   refine lq (.bool (decide (x115 < (a1.length : Int)))) S (q_lss rfl rfl) fun a S => ?_
   refine lx_nil (thenN ?_)
   refine cond_b S rfl (fun hc153 => ?_) (fun hc153 => ?_)
   ·have hm := ite_t hc153 hm
    refine wp_skip (thenN ?_)
    refine wp_seq ?_
    refine wp_block ?_
    refine wp_seq ?_
    refine region_drawG (fun w1 => Heap w0 [] w1) (fun i => [10, 11].contains i) mixed (by kernel_rfl) (fun w155 he154 => ?_)
    have H := H.later he154
    refine ⟨H.sel [] (by decide), ?_⟩
    refine lq p0 S (q_move rfl) fun a S => ?_
    refine lq p0 S (q_nilCheck rfl ((hat33 0 _ rfl).isP)) fun a S => ?_
    refine lq (pAdd p0 3) S (q_fieldAddr' 3 28 rfl ((hat33 0 _ rfl).isP) Tryz.underlying30 rfl Tryz.sizeOf28) fun a S => ?_
    refine lq v36 S (q_load1 rfl Tryz.isAgg28 (fun w1 hC => (At.of_add (m := 3) (j := 0) ((hat33 3 _ rfl).ext hC.ext)))) fun a S => ?_
    refine lq p1 S (q_move rfl) fun a S => ?_
    refine lq (.int .i64 x115) S (q_move rfl) fun a S => ?_
    obtain ⟨x156, e157, hm⟩ := bind_some hm
    obtain ⟨c158, h159, hat160⟩ := (h1).elem (idx_some e157).2
    obtain rfl := h159
    have hlt := lt_of_idx (idx_some e157).2
    refine lq (ePtr p1 (x115.toNat * 1)) S (q_indexAddr rfl (h1).isSl rfl (idx_some e157).1 hlt Tryz.underlying34 Tryz.sizeOf2) fun a S => ?_
    refine lq (.int .i64 x156) S (q_load1 rfl Tryz.isAgg2 (fun w1 hC => ((hat160 0 _ rfl).ext hC.ext))) fun a S => ?_
    obtain ⟨x161, e162, hm⟩ := bind_some hm
    obtain ⟨c163, h164, hat165⟩ := (h37).elem (idx_some e162).2
    obtain ⟨c166, c167, rfl, h168, h169⟩ := h164
    obtain rfl := h168
    obtain ⟨c170, c171, rfl, h172, h173⟩ := h169
    obtain rfl := h172
    obtain rfl := h173
    have hlt := lt_of_idx (idx_some e162).2
    refine lq (ePtr v36 (x156.toNat * 3)) S (q_indexAddr rfl (h37).isSl rfl (idx_some e162).1 hlt Tryz.underlying28 Tryz.sizeOf72) fun a S => ?_
    refine lq (.agg #[(.int .i64 x161.1), (.int .i64 x161.2.1), (.int .i64 x161.2.2)]) S (q_loadA (cs := [(.int .i64 x161.1), (.int .i64 x161.2.1), (.int .i64 x161.2.2)]) rfl ((hat165 0 _ rfl).isP) Tryz.isAgg72 Tryz.sizeOf72 (fun w1 hC => (fun j u hu => (hat165 j u hu).ext hC.ext))) fun a S => ?_
    refine lx_alloc S trivial (by decide) rfl H Tryz.zeroValue72 rfl (fun b174 w175 H => ⟨H.sel [] (by decide), fun a S => ?_⟩)
    refine lx_storeBox (o := 0) (i := 0) (us := [(.int .i64 x161.1), (.int .i64 x161.2.1), (.int .i64 x161.2.2)]) (cs' := [(.int .i64 x161.1), (.int .i64 x161.2.1), (.int .i64 x161.2.2)]) S trivial rfl H rfl rfl rfl rfl Tryz.sizeOf72 (Nat.le_of_ble_eq_true rfl) (List.forall_mem_cons.2 ⟨rfl, (List.forall_mem_cons.2 ⟨rfl, (List.forall_mem_cons.2 ⟨rfl, (fun _ h => nomatch h)⟩)⟩)⟩) rfl (fun w177 H => ⟨H.sel [] (by decide), fun a S => ?_⟩)
    change Heap w0 [bA b174 [(.int .i64 x161.1), (.int .i64 x161.2.1), (.int .i64 x161.2.2)] 72] w177 at H
    refine lx_nil (thenN ?_)
    refine wp_seq (wp_seq (region_plain ?_))
    refine lq (pAdd (bp b174) 0) S (q_fieldAddr' 0 2 rfl (isP_bp _) Tryz.underlying72 rfl Tryz.sizeOf2) fun a S => ?_
    refine lx_e (.int .i64 x161.1) S trivial (by decide) rfl trivial (q_load1 rfl Tryz.isAgg2 (by rintro _ rfl; exact (At.of_add (m := 0) (j := 0) (boxAt (i := 0) H rfl (j := 0) rfl)))) (fun a S => ?_)
    refine lq (.int .i64 x114) S (q_move rfl) fun a S => ?_
    refine lq (.bool (x161.1 != x114)) S (q_neq rfl rfl) fun a S => ?_
    refine lx_nil (thenN ?_)
    refine cond_b S rfl (fun hc178 => ?_) (fun hc178 => ?_)
    ·have hm := ite_t hc178 hm
     refine wp_seq (region_plain ?_)
     refine lq (.int .i64 (0 : Int)) S (q_assign rfl) fun a S => ?_
     refine lq (.int .i64 (7 : Int)) S (q_assign rfl) fun a S => ?_
     refine lx_nil (thenN ?_)
     refine wp_ret (then_ret ?_)
     refine inBlock_ret ?_
     refine then_ret ?_
     refine then_ret ?_
     refine inBlock_ret ?_
     refine then_ret ?_
     refine then_ret ?_
     obtain rfl := it_brk hm hc152
     have hm := ctl_inr hk149
     obtain rfl := Option.some.inj hm
     have H : Heap w0 [] w177 := H.sel [] (by decide)
     exact leave2 S rfl rfl rfl ⟨rfl, H⟩
    ·have hm := ite_f hc178 hm
     refine wp_skip (thenN ?_)
     refine region_plain ?_
     refine lq (pAdd (bp b174) 2) S (q_fieldAddr' 2 2 rfl (isP_bp _) Tryz.underlying72 rfl Tryz.sizeOf2) fun a S => ?_
     refine lx_e (.int .i64 x161.2.2) S trivial (by decide) rfl trivial (q_load1 rfl Tryz.isAgg2 (by rintro _ rfl; exact (At.of_add (m := 2) (j := 0) (boxAt (i := 0) H rfl (j := 2) rfl)))) (fun a S => ?_)
     refine lq (.int .i64 x161.2.2) S (q_assign rfl) fun a S => ?_
     refine lx_nil ?_
     refine inBlock_norm ?_
     refine thenN ?_
     refine region_plain ?_
     refine lq (.int .i64 x115) S (q_move rfl) fun a S => ?_
     refine lq (.int .i64 (W (x115 + (1 : Int)))) S (q_add rfl rfl) fun a S => ?_
     refine lq (.int .i64 (W (x115 + (1 : Int)))) S (q_assign rfl) fun a S => ?_
     refine lx_nil ?_
     have H : Heap w0 [] w177 := H.sel [] (by decide)
     exact ⟨m150, Nat.lt_succ_self _, x161.2.2, (W (x115 + (1 : Int))), S.sub ⟨rfl, rfl, rfl, rfl, trivial⟩, H, it_cont hm hc152⟩
   ·have hm := ite_f hc153 hm
    refine wp_exit ?_
    refine then_exit ?_
    refine then_exit ?_
    refine inBlock_exit ?_
    obtain rfl := it_brk hm hc152
    exact ⟨x114, S.sub ⟨rfl, trivial⟩, H, rfl⟩
 ·skip
  refine loop_ghost (fun n a w => ∃ (x65 : Int), Slots a 55 [(0, p0), (1, p1), (6, (.int .i64 x65))] ∧ Heap w0 [] w ∧ iter f83 n (x65) = some res81) _ ⟨(0 : Int), S.sub ⟨rfl, rfl, rfl, trivial⟩, H, hit82⟩ ?_
  rintro n a w ⟨x65, S, H, hit82⟩
  obtain ⟨m179, o180, rfl, hm, hc181⟩ := iter_step hit82
  rw [hf84] at hm
  refine wp_seq (wp_seq (region_plain ?_))
  refine lq (.int .i64 x65) S (q_move rfl) fun a S => ?_
  refine lq p1 S (q_move rfl) fun a S => ?_
  refine lq (.int .i64 (a1.length : Int)) S (q_lenSl rfl (h1).isSl rfl Tryz.underlying34) fun a S => ?_
  refine lq (.bool (decide (x65 < (a1.length : Int)))) S (q_lss rfl rfl) fun a S => ?_
  refine lx_nil (thenN ?_)
  refine cond_b S rfl (fun hc182 => ?_) (fun hc182 => ?_)
  ·have hm := ite_t hc182 hm
   refine wp_skip (thenN ?_)
   refine wp_seq ?_
   refine wp_block ?_
   refine wp_seq ?_
   refine region_drawG (fun w1 => Heap w0 [] w1) (fun i => [10].contains i) mixed (by kernel_rfl) (fun w184 he183 => ?_)
   have H := H.later he183
   refine ⟨H.sel [] (by decide), ?_⟩
   refine lq p1 S (q_move rfl) fun a S => ?_
   refine lq (.int .i64 x65) S (q_move rfl) fun a S => ?_
   obtain ⟨x185, e186, hm⟩ := bind_some hm
   obtain ⟨c187, h188, hat189⟩ := (h1).elem (idx_some e186).2
   obtain rfl := h188
   have hlt := lt_of_idx (idx_some e186).2
   refine lq (ePtr p1 (x65.toNat * 1)) S (q_indexAddr rfl (h1).isSl rfl (idx_some e186).1 hlt Tryz.underlying34 Tryz.sizeOf2) fun a S => ?_
   refine lq (.int .i64 x185) S (q_load1 rfl Tryz.isAgg2 (fun w1 hC => ((hat189 0 _ rfl).ext hC.ext))) fun a S => ?_
   refine lq p0 S (q_move rfl) fun a S => ?_
   refine lq p0 S (q_nilCheck rfl ((hat33 0 _ rfl).isP)) fun a S => ?_
   refine lq (pAdd p0 3) S (q_fieldAddr' 3 28 rfl ((hat33 0 _ rfl).isP) Tryz.underlying30 rfl Tryz.sizeOf28) fun a S => ?_
   refine lq v36 S (q_load1 rfl Tryz.isAgg28 (fun w1 hC => (At.of_add (m := 3) (j := 0) ((hat33 3 _ rfl).ext hC.ext)))) fun a S => ?_
   refine lq (.int .i64 (a0.2.2.2.length : Int)) S (q_lenSl rfl (h37).isSl rfl Tryz.underlying28) fun a S => ?_
   refine lq (.int .i64 (W ((a0.2.2.2.length : Int) - (1 : Int)))) S (q_sub rfl rfl) fun a S => ?_
   obtain ⟨x192, e193, hm⟩ := bind_some hm
   refine lx_call (xs := [.tmp 19, .const (.int .i64 (0)), .tmp 25]) S trivial (by decide) rfl rfl Tryz.call125 ((spec_l00In_ok    e193).mono ?_)
   rintro e w190 ⟨rfl, Hc191⟩
   have H := H.call0 Hc191
   refine ⟨_, rfl, H.sel [] (by decide), fun a S => ?_⟩
   refine lq (.bool (!x192)) S (q_not rfl) fun a S => ?_
   refine lx_nil (thenN ?_)
   refine cond_b S rfl (fun hc195 => ?_) (fun hc195 => ?_)
   ·have hm := ite_t hc195 hm
    refine wp_seq (region_plain ?_)
    refine lq (.int .i64 (0 : Int)) S (q_assign rfl) fun a S => ?_
    refine lq (.int .i64 (2 : Int)) S (q_assign rfl) fun a S => ?_
    refine lx_nil (thenN ?_)
    refine wp_ret (inBlock_ret ?_)
    refine then_ret ?_
    refine then_ret ?_
    refine inBlock_ret ?_
    refine then_ret ?_
    refine then_ret ?_
    obtain rfl := it_brk hm hc181
    have hm := ctl_inr hk85
    obtain rfl := Option.some.inj hm
    exact leave2 S rfl rfl rfl ⟨rfl, H⟩
   ·have hm := ite_f hc195 hm
    refine wp_skip ?_
    refine inBlock_norm ?_
    refine thenN ?_
    refine region_plain ?_
    refine lq (.int .i64 x65) S (q_move rfl) fun a S => ?_
    refine lq (.int .i64 (W (x65 + (1 : Int)))) S (q_add rfl rfl) fun a S => ?_
    refine lq (.int .i64 (W (x65 + (1 : Int)))) S (q_assign rfl) fun a S => ?_
    refine lx_nil ?_
    exact ⟨m179, Nat.lt_succ_self _, (W (x65 + (1 : Int))), S.sub ⟨rfl, rfl, rfl, trivial⟩, H, it_cont hm hc181⟩
  ·have hm := ite_f hc182 hm
   refine wp_exit ?_
   refine then_exit ?_
   refine then_exit ?_
   refine inBlock_exit ?_
   obtain rfl := it_brk hm hc181
   exact ⟨S.sub ⟨rfl, rfl, trivial⟩, H, rfl⟩

/-- impl.EndOfPath$1 -/
def impl_EndOfPath_1_m (fuel : Nat) (a0 : Int) (a1 : Timpl_Lts) : Option (Bool) :=
  (impl_index_m fuel a0 (a1.2.2.2.length : Int)).bind fun x52 => some ((!x52))
set_option maxRecDepth 20000 in
theorem impl_EndOfPath_1_ok {w0 : World} {fuel : Nat} {p1 : Value} {a0 : Int} {a1 : Timpl_Lts} {r : Bool} (h1 : Rd (rPtr Rimpl_Lts) w0 p1 a1) (hm : impl_EndOfPath_1_m fuel a0 a1 = some r) :
  Calls Tryz.prog 79 #[.int .i64 a0, p1] w0 fun e w => e = .returned (.bool r) ∧ Heap w0 [] w := by
 unfold impl_EndOfPath_1_m at hm
 have H := Heap.start w0
 obtain ⟨c31, h32, hat33⟩ := h1.ptr
 obtain ⟨c38, c39, rfl, h40, h41⟩ := h32
 obtain rfl := h40
 obtain ⟨c42, c43, rfl, h44, h45⟩ := h41
 obtain rfl := h44
 obtain ⟨c46, c47, rfl, h48, h49⟩ := h45
 obtain ⟨v34, rfl, h35⟩ := rd_list h48
 obtain ⟨v36, rfl, h37⟩ := rd_list h49
 refine enter (args := [.int .i64 a0, p1]) Tryz.func79 rfl 10 rfl (Nat.le_of_ble_eq_true rfl) (fun a S => ?_)
 refine wp_seq (region_plain ?_)
 refine lq (.bool false) S (q_assign rfl) fun a S => ?_
 refine lx_nil (thenN ?_)
 refine wp_seq (region_plain ?_)
 refine lq (.int .i64 a0) S (q_move rfl) fun a S => ?_
 refine lq (pAdd p1 3) S (q_fieldAddr' 3 28 rfl ((hat33 0 _ rfl).isP) Tryz.underlying30 rfl Tryz.sizeOf28) fun a S => ?_
 refine lx_e v36 S trivial (by decide) rfl trivial (q_load1 rfl Tryz.isAgg28 (by rintro _ rfl; exact (At.of_add (m := 3) (j := 0) ((hat33 3 _ rfl).ext H.ext)))) (fun a S => ?_)
 refine lq (.int .i64 (a1.2.2.2.length : Int)) S (q_lenSl rfl (h37).isSl rfl Tryz.underlying28) fun a S => ?_
 obtain ⟨x52, e53, hm⟩ := bind_some hm
 refine lx_call (xs := [.tmp 4, .tmp 7]) S trivial (by decide) rfl rfl Tryz.call74 ((impl_index_ok   e53).mono ?_)
 rintro e w50 ⟨rfl, Hc51⟩
 have H := H.call0 Hc51
 refine ⟨_, rfl, trivial, fun a S => ?_⟩
 refine lq (.bool (!x52)) S (q_not rfl) fun a S => ?_
 refine lq (.bool (!x52)) S (q_assign rfl) fun a S => ?_
 refine lx_nil (thenN ?_)
 refine wp_ret ?_
 obtain rfl := Option.some.inj hm
 exact leave1 S rfl rfl ⟨rfl, H⟩

/-- impl.EndOfPath -/
def impl_EndOfPath_m (fuel : Nat) (a0 : Timpl_Lts) (a1 : (List Int)) : Option ((Int × Int)) :=
  (impl_ValidLts_m fuel (a0.1, a0.2.1, a0.2.2.1, a0.2.2.2)).bind fun x54 => (if (!x54) = true then some (((0 : Int), (1 : Int))) else (slices_ContainsFunc__int64_int64_m fuel a1 (fun (z0 : Int) => impl_EndOfPath_1_m fuel z0 (a0.1, a0.2.1, a0.2.2.1, a0.2.2.2))).bind fun x60 => (if x60 = true then some (((0 : Int), (2 : Int))) else (iter (fun (s : (Int) × (Int)) => (match s with | (x100, x101) => (if (decide (x101 < (a1.length : Int))) = true then (idx a1 x101).bind fun x147 => (idx a0.2.2.2 x147).bind fun x152 => (if (x152.1 != x100) = true then some (.inr (.inr ((0 : Int), (7 : Int)))) else (idx a0.2.2.2 x147).bind fun x166 => some (.inl (x166.2.2, (W (x101 + (1 : Int)))))) else some (.inr (.inl (x100)))) : Option (((Int) × (Int)) ⊕ ((Int) ⊕ ((Int × Int)))))) fuel (a0.2.1, (0 : Int))).bind fun res138 => ctl (β := Int) (ρ := (Int × Int)) (τ := (Int × Int)) res138 (fun (x137) => some ((x137, (0 : Int)))) (fun q => some (q))))
set_option maxRecDepth 20000 in
theorem impl_EndOfPath_ok {w0 : World} {fuel : Nat} {p0 p1 : Value} {a0 : Timpl_Lts} {a1 : (List Int)} {r : (Int × Int)} (hG : Glob Tryz.prog w0) (h0 : Rd Rimpl_Lts w0 p0 a0) (h1 : Rd (rList (rInt .i64)) w0 p1 a1) (hm : impl_EndOfPath_m fuel a0 a1 = some r) :
  Calls Tryz.prog 28 #[p0, p1] w0 fun e w => e = .returned (.tuple #[.int .i64 r.1, .int .i64 r.2]) ∧ Heap w0 [] w := by
 unfold impl_EndOfPath_m at hm
 have H := Heap.start w0
 obtain ⟨c31, rfl, h32⟩ := h0
 obtain ⟨c37, c38, rfl, h39, h40⟩ := h32
 obtain rfl := h39
 obtain ⟨c41, c42, rfl, h43, h44⟩ := h40
 obtain rfl := h43
 obtain ⟨c45, c46, rfl, h47, h48⟩ := h44
 obtain ⟨v33, rfl, h34⟩ := rd_list h47
 obtain ⟨v35, rfl, h36⟩ := rd_list h48
 refine enter (args := [(.agg #[(.int .i64 a0.1), (.int .i64 a0.2.1), v33, v35]), p1]) Tryz.func28 rfl 41 rfl (Nat.le_of_ble_eq_true rfl) (fun a S => ?_)
 refine wp_seq (region_plain ?_)
 refine lx_box S trivial (by decide) rfl H rfl rfl (fun b49 w50 H => ⟨trivial, fun a S => ?_⟩)
 refine lq (.int .i64 (0 : Int)) S (q_assign rfl) fun a S => ?_
 refine lq (.int .i64 (0 : Int)) S (q_assign rfl) fun a S => ?_
 refine lx_nil (thenN ?_)
 refine wp_seq ?_
 refine wp_block ?_
 refine wp_seq (region_plain ?_)
 refine lx_e (.agg #[(.int .i64 a0.1), (.int .i64 a0.2.1), v33, v35]) S trivial (by decide) rfl trivial (q_loadA (cs := [(.int .i64 a0.1), (.int .i64 a0.2.1), v33, v35]) rfl (isP_bp _) Tryz.isAgg30 Tryz.sizeOf30 (by rintro _ rfl; exact (fun j u hu => boxAt (i := 0) H rfl hu))) (fun a S => ?_)
 obtain ⟨x54, e55, hm⟩ := bind_some hm
 refine lx_call (xs := [.tmp 10]) S trivial (by decide) rfl rfl Tryz.call22 ((impl_ValidLts_ok (hG.ext H.ext) ⟨[(.int .i64 a0.1), (.int .i64 a0.2.1), v33, v35], rfl, ⟨[(.int .i64 a0.1)], [(.int .i64 a0.2.1), v33, v35], rfl, rfl, ⟨[(.int .i64 a0.2.1)], [v33, v35], rfl, rfl, ⟨[v33], [v35], rfl, ((H.arg h34)).list_rd, ((H.arg h36)).list_rd⟩⟩⟩⟩ e55).mono ?_)
 rintro e w52 ⟨rfl, Hc53⟩
 have H := H.call0 Hc53
 refine ⟨_, rfl, trivial, fun a S => ?_⟩
 refine lq (.bool (!x54)) S (q_not rfl) fun a S => ?_
 refine lq (.bool (!x54)) S (q_assign rfl) fun a S => ?_
 refine lx_nil (thenN ?_)
 refine cond_b S rfl (fun hc57 => ?_) (fun hc57 => ?_)
 ·have hm := ite_t hc57 hm
  refine wp_seq (region_plain ?_)
  refine lq (.int .i64 (0 : Int)) S (q_assign rfl) fun a S => ?_
  refine lq (.int .i64 (1 : Int)) S (q_assign rfl) fun a S => ?_
  refine lx_nil (thenN ?_)
  refine wp_ret (inBlock_ret ?_)
  refine then_ret ?_
  obtain rfl := Option.some.inj hm
  have H : Heap w0 [] w52 := H.sel [] (by decide)
  exact leave2 S rfl rfl rfl ⟨rfl, H⟩
 ·have hm := ite_f hc57 hm
  refine wp_seq (region_plain ?_)
  refine lq p1 S (q_move rfl) fun a S => ?_
  refine lq (.func (.func 79) #[] #[(bp b49)]) S (q_makeFunc (xs := []) (ys := [.tmp 2]) rfl rfl) fun a S => ?_
  obtain ⟨x60, e61, hm⟩ := bind_some hm
  have hcap62 : Rd (rPtr Rimpl_Lts) w52 (bp b49) (a0.1, a0.2.1, a0.2.2.1, a0.2.2.2) := (rdPtr_box H 0 rfl ⟨[(.int .i64 a0.1)], [(.int .i64 a0.2.1), v33, v35], rfl, rfl, ⟨[(.int .i64 a0.2.1)], [v33, v35], rfl, rfl, ⟨[v33], [v35], rfl, ((H.arg h34)).list_rd, ((H.arg h36)).list_rd⟩⟩⟩)
  refine lx_call (xs := [.tmp 14, .tmp 15]) S trivial (by decide) rfl rfl Tryz.call78 ((slices_ContainsFunc__int64_int64_ok (f1 := 79) (fs1 := ([] : List Value)) (cp1 := ([(bp b49)] : List Value)) (a1 := (fun (z0 : Int) => impl_EndOfPath_1_m fuel z0 (a0.1, a0.2.1, a0.2.2.1, a0.2.2.2))) (H.arg h1) Tryz.call79 (fun he  hm => impl_EndOfPath_1_ok  (hcap62.ext he) hm) e61).mono ?_)
  rintro e w58 ⟨rfl, Hc59⟩
  have H := H.call0 Hc59
  refine ⟨_, rfl, trivial, fun a S => ?_⟩
  refine lq (.bool x60) S (q_assign rfl) fun a S => ?_
  refine lx_nil (thenN ?_)
  refine cond_b S rfl (fun hc64 => ?_) (fun hc64 => ?_)
  ·have hm := ite_t hc64 hm
   refine wp_seq (region_plain ?_)
   refine lq (.int .i64 (0 : Int)) S (q_assign rfl) fun a S => ?_
   refine lq (.int .i64 (2 : Int)) S (q_assign rfl) fun a S => ?_
   refine lx_nil (thenN ?_)
   refine wp_ret (inBlock_ret ?_)
   refine then_ret ?_
   obtain rfl := Option.some.inj hm
   have H : Heap w0 [] w58 := H.sel [] (by decide)
   exact leave2 S rfl rfl rfl ⟨rfl, H⟩
  ·have hm := ite_f hc64 hm
   refine wp_skip ?_
   refine inBlock_norm ?_
   refine thenN ?_
   refine wp_seq (region_plain ?_)
   refine lq (pAdd (bp b49) 1) S (q_fieldAddr' 1 2 rfl (isP_bp _) Tryz.underlying30 rfl Tryz.sizeOf2) fun a S => ?_
   refine lx_e (.int .i64 a0.2.1) S trivial (by decide) rfl trivial (q_load1 rfl Tryz.isAgg2 (by rintro _ rfl; exact (At.of_add (m := 1) (j := 0) (boxAt (i := 0) H rfl (j := 1) rfl)))) (fun a S => ?_)
   refine lq (.int .i64 a0.2.1) S (q_assign rfl) fun a S => ?_
   refine lx_nil (thenN ?_)
   refine wp_seq (wp_seq (region_plain ?_))
   refine lq p1 S (q_move rfl) fun a S => ?_
   refine lq (.int .i64 (a1.length : Int)) S (q_lenSl rfl (h1).isSl rfl Tryz.underlying34) fun a S => ?_
   refine lq (.int .i64 (0 : Int)) S (q_move rfl) fun a S => ?_
   refine lx_nil (thenN ?_)
   obtain ⟨res138, hit139, hk142⟩ := bind_some hm
   obtain ⟨f140, hf141, hit139⟩ := iter_name hit139
   refine block_loop (fun a w => ∃ (x137 : Int), Slots a 41 [(6, (.int .i64 x137))] ∧ Heap w0 [] w ∧ res138 = .inl (x137)) ?_ ?_
   ·rintro a w ⟨x137, S, H, rfl⟩
    have hm := ctl_inl hk142
    refine thenN ?_
    refine wp_seq (region_plain ?_)
    refine lq (.int .i64 x137) S (q_move rfl) fun a S => ?_
    refine lq (.int .i64 x137) S (q_assign rfl) fun a S => ?_
    refine lq (.int .i64 (0 : Int)) S (q_assign rfl) fun a S => ?_
    refine lx_nil (thenN ?_)
    refine wp_ret ?_
    obtain rfl := Option.some.inj hm
    exact leave2 S rfl rfl rfl ⟨rfl, H⟩
   ·skip
    refine loop_ghost (fun n a w => ∃ (x100 : Int) (x101 : Int), Slots a 41 [(2, (bp b49)), (6, (.int .i64 x100)), (19, p1), (20, (.int .i64 (a1.length : Int))), (21, (.int .i64 x101))] ∧ Heap w0 [bA b49 [(.int .i64 a0.1), (.int .i64 a0.2.1), v33, v35] 30] w ∧ iter f140 n (x100, x101) = some res138) _ ⟨a0.2.1, (0 : Int), S.sub ⟨rfl, rfl, rfl, rfl, rfl, trivial⟩, H, hit139⟩ ?_
    rintro n a w ⟨x100, x101, S, H, hit139⟩
    obtain ⟨m143, o144, rfl, hm, hc145⟩ := iter_step hit139
    rw [hf141] at hm
    refine wp_seq (region_plain ?_)
    refine lq (.bool (decide (x101 < (a1.length : Int)))) S (q_lss rfl rfl) fun a S => ?_
    refine lx_nil (thenN ?_)
    refine wp_seq ?_
    refine cond_b S rfl (fun hc146 => ?_) (fun hc146 => ?_)
    ·have hm := ite_t hc146 hm
     refine wp_skip (thenN ?_)
     refine wp_seq ?_
     refine wp_block ?_
     refine wp_seq (region_plain ?_)
     obtain ⟨x147, e148, hm⟩ := bind_some hm
     obtain ⟨c149, h150, hat151⟩ := (h1).elem (idx_some e148).2
     obtain rfl := h150
     have hlt := lt_of_idx (idx_some e148).2
     refine lq (ePtr p1 (x101.toNat * 1)) S (q_indexAddr rfl (h1).isSl rfl (idx_some e148).1 hlt Tryz.underlying34 Tryz.sizeOf2) fun a S => ?_
     refine lx_e (.int .i64 x147) S trivial (by decide) rfl trivial (q_load1 rfl Tryz.isAgg2 (by rintro _ rfl; exact ((hat151 0 _ rfl).ext H.ext))) (fun a S => ?_)
     refine lq (.int .i64 x147) S (q_assign rfl) fun a S => ?_
     refine lx_nil (thenN ?_)
     refine wp_seq (wp_seq (region_plain ?_))
     refine lq (pAdd (bp b49) 3) S (q_fieldAddr' 3 28 rfl (isP_bp _) Tryz.underlying30 rfl Tryz.sizeOf28) fun a S => ?_
     refine lx_e v35 S trivial (by decide) rfl trivial (q_load1 rfl Tryz.isAgg28 (by rintro _ rfl; exact (At.of_add (m := 3) (j := 0) (boxAt (i := 0) H rfl (j := 3) rfl)))) (fun a S => ?_)
     refine lq (.int .i64 x147) S (q_move rfl) fun a S => ?_
     obtain ⟨x152, e153, hm⟩ := bind_some hm
     obtain ⟨c154, h155, hat156⟩ := (h36).elem (idx_some e153).2
     obtain ⟨c157, c158, rfl, h159, h160⟩ := h155
     obtain rfl := h159
     obtain ⟨c161, c162, rfl, h163, h164⟩ := h160
     obtain rfl := h163
     obtain rfl := h164
     have hlt := lt_of_idx (idx_some e153).2
     refine lq (ePtr v35 (x147.toNat * 3)) S (q_indexAddr rfl (h36).isSl rfl (idx_some e153).1 hlt Tryz.underlying28 Tryz.sizeOf72) fun a S => ?_
     refine lq (pAdd (ePtr v35 (x147.toNat * 3)) 0) S (q_fieldAddr' 0 2 rfl ((hat156 0 _ rfl).isP) Tryz.underlying72 rfl Tryz.sizeOf2) fun a S => ?_
     refine lx_e (.int .i64 x152.1) S trivial (by decide) rfl trivial (q_load1 rfl Tryz.isAgg2 (by rintro _ rfl; exact (At.of_add (m := 0) (j := 0) ((hat156 0 _ rfl).ext H.ext)))) (fun a S => ?_)
     refine lq (.int .i64 x100) S (q_move rfl) fun a S => ?_
     refine lq (.bool (x152.1 != x100)) S (q_neq rfl rfl) fun a S => ?_
     refine lx_nil (thenN ?_)
     refine cond_b S rfl (fun hc165 => ?_) (fun hc165 => ?_)
     ·have hm := ite_t hc165 hm
      refine wp_seq (region_plain ?_)
      refine lq (.int .i64 (0 : Int)) S (q_assign rfl) fun a S => ?_
      refine lq (.int .i64 (7 : Int)) S (q_assign rfl) fun a S => ?_
      refine lx_nil (thenN ?_)
      refine wp_ret (then_ret ?_)
      refine inBlock_ret ?_
      refine then_ret ?_
      refine then_ret ?_
      refine inBlock_ret ?_
      refine then_ret ?_
      refine then_ret ?_
      obtain rfl := it_brk hm hc145
      have hm := ctl_inr hk142
      obtain rfl := Option.some.inj hm
      have H : Heap w0 [] w := H.sel [] (by decide)
      exact leave2 S rfl rfl rfl ⟨rfl, H⟩
     ·have hm := ite_f hc165 hm
      refine wp_skip (thenN ?_)
      refine region_plain ?_
      refine lq (pAdd (bp b49) 3) S (q_fieldAddr' 3 28 rfl (isP_bp _) Tryz.underlying30 rfl Tryz.sizeOf28) fun a S => ?_
      refine lx_e v35 S trivial (by decide) rfl trivial (q_load1 rfl Tryz.isAgg28 (by rintro _ rfl; exact (At.of_add (m := 3) (j := 0) (boxAt (i := 0) H rfl (j := 3) rfl)))) (fun a S => ?_)
      refine lq (.int .i64 x147) S (q_move rfl) fun a S => ?_
      obtain ⟨x166, e167, hm⟩ := bind_some hm
      obtain ⟨c168, h169, hat170⟩ := (h36).elem (idx_some e167).2
      obtain ⟨c171, c172, rfl, h173, h174⟩ := h169
      obtain rfl := h173
      obtain ⟨c175, c176, rfl, h177, h178⟩ := h174
      obtain rfl := h177
      obtain rfl := h178
      have hlt := lt_of_idx (idx_some e167).2
      refine lq (ePtr v35 (x147.toNat * 3)) S (q_indexAddr rfl (h36).isSl rfl (idx_some e167).1 hlt Tryz.underlying28 Tryz.sizeOf72) fun a S => ?_
      refine lq (pAdd (ePtr v35 (x147.toNat * 3)) 2) S (q_fieldAddr' 2 2 rfl ((hat170 0 _ rfl).isP) Tryz.underlying72 rfl Tryz.sizeOf2) fun a S => ?_
      refine lx_e (.int .i64 x166.2.2) S trivial (by decide) rfl trivial (q_load1 rfl Tryz.isAgg2 (by rintro _ rfl; exact (At.of_add (m := 2) (j := 0) ((hat170 2 _ rfl).ext H.ext)))) (fun a S => ?_)
      refine lq (.int .i64 x166.2.2) S (q_assign rfl) fun a S => ?_
      refine lx_nil ?_
      refine inBlock_norm ?_
      refine thenN ?_
      refine region_plain ?_
      refine lq (.int .i64 (W (x101 + (1 : Int)))) S (q_add rfl rfl) fun a S => ?_
      refine lq (.int .i64 (W (x101 + (1 : Int)))) S (q_move rfl) fun a S => ?_
      refine lx_nil ?_
      exact ⟨m143, Nat.lt_succ_self _, x166.2.2, (W (x101 + (1 : Int))), S.sub ⟨rfl, rfl, rfl, rfl, rfl, trivial⟩, H, it_cont hm hc145⟩
    ·have hm := ite_f hc146 hm
     refine wp_exit ?_
     refine then_exit ?_
     refine then_exit ?_
     refine inBlock_exit ?_
     obtain rfl := it_brk hm hc145
     have H : Heap w0 [] w := H.sel [] (by decide)
     exact ⟨x100, S.sub ⟨rfl, trivial⟩, H, rfl⟩
end Go.Proofs.YtkgkfbmcnchdbaaGreatDoor
