/- The models of some functions and their walks (printed by a program of this repo). -/
import Derived.Test.YtcddkipbedfhkaaF0
import Derived.Test.YtcddkipbedfhkaaF1
import Derived.Test.YtcddkipbedfhkaaGxAr
import Derived.Test.YtcddkipbedfhkaaGxT
import Derived.Test.YtcddkipbedfhkaaGxY
namespace Go.Proofs.Ytcddkipbedfhkaa
open Go.RowKit Go.Gx

/-- laws.eqVertexS -/
def laws_eqVertexS_m (fuel : Nat) (a0 : (List Timpl_Vertex)) (a1 : (List Timpl_Vertex)) : Option (Bool) :=
  (if ((a0.length : Int) != (a1.length : Int)) = true then some (false) else (iter (fun (s : (Int)) => (match s with | (x72) => (if (decide (x72 < (a0.length : Int))) = true then (idx a0 x72).bind fun x124 => (idx a1 x72).bind fun x139 => (laws_eqVertex_m fuel (x124.1, x124.2.1, x124.2.2) (x139.1, x139.2.1, x139.2.2)).bind fun x156 => (if (!x156) = true then some (.inr (.inr false)) else some (.inl ((W (x72 + (1 : Int)))))) else some (.inr (.inl ()))) : Option (((Int)) ⊕ ((Unit) ⊕ (Bool))))) fuel ((0 : Int))).bind fun res113 => ctl (β := Unit) (ρ := Bool) (τ := Bool) res113 (fun _ => some (true)) (fun q => some (q)))
set_option maxRecDepth 20000 in
theorem laws_eqVertexS_ok [dr : Dr] {w0 : World} {fuel : Nat} {p0 p1 : Value} {a0 : (List Timpl_Vertex)} {a1 : (List Timpl_Vertex)} {r : Bool} (h0 : Rd (rList Rimpl_Vertex) w0 p0 a0) (h1 : Rd (rList Rimpl_Vertex) w0 p1 a1) (hm : laws_eqVertexS_m fuel a0 a1 = some r) :
  Calls Try.prog 12 #[p0, p1] w0 fun e w => e = .returned (.bool r) ∧ Heap w0 [] w := by
 unfold laws_eqVertexS_m at hm
 have H := Heap.start w0
 refine enter (args := [p0, p1]) Try.func12 rfl 27 rfl (Nat.le_of_ble_eq_true rfl) (fun a S => ?_)
 refine wp_seq (region_plain ?_)
 refine lq (.bool false) S (q_assign rfl) fun a S => ?_
 refine lx_nil (thenN ?_)
 refine wp_seq (wp_seq (region_plain ?_))
 refine lq p0 S (q_move rfl) fun a S => ?_
 refine lq (.int .i64 (a0.length : Int)) S (q_lenSl rfl (h0).isSl rfl Try.underlying27) fun a S => ?_
 refine lq p1 S (q_move rfl) fun a S => ?_
 refine lq (.int .i64 (a1.length : Int)) S (q_lenSl rfl (h1).isSl rfl Try.underlying27) fun a S => ?_
 refine lq (.bool ((a0.length : Int) != (a1.length : Int))) S (q_neq rfl rfl) fun a S => ?_
 refine lx_nil (thenN ?_)
 refine cond_b S rfl (fun hc31 => ?_) (fun hc31 => ?_)
 ·have hm := ite_t hc31 hm
  refine wp_seq (region_plain ?_)
  refine lq (.bool false) S (q_assign rfl) fun a S => ?_
  refine lx_nil (thenN ?_)
  refine wp_ret (then_ret ?_)
  obtain rfl := Option.some.inj hm
  exact leave1 S rfl rfl ⟨rfl, H⟩
 ·have hm := ite_f hc31 hm
  refine wp_skip (thenN ?_)
  refine wp_seq (wp_seq (region_plain ?_))
  refine lq (.int .i64 (0 : Int)) S (q_assign rfl) fun a S => ?_
  refine lx_nil (thenN ?_)
  obtain ⟨res113, hit114, hk117⟩ := bind_some hm
  obtain ⟨f115, hf116, hit114⟩ := iter_name hit114
  refine block_loop (fun a w => Slots a 27 [] ∧ Heap w0 [] w ∧ res113 = .inl ()) ?_ ?_
  ·rintro a w ⟨S, H, rfl⟩
   have hm := ctl_inl hk117
   refine thenN ?_
   refine wp_seq (region_plain ?_)
   refine lq (.bool true) S (q_assign rfl) fun a S => ?_
   refine lx_nil (thenN ?_)
   refine wp_ret ?_
   obtain rfl := Option.some.inj hm
   exact leave1 S rfl rfl ⟨rfl, H⟩
  ·skip
   refine loop_ghost (fun n a w => ∃ (x72 : Int), Slots a 27 [(0, p0), (1, p1), (5, (.int .i64 x72))] ∧ Heap w0 [] w ∧ iter f115 n (x72) = some res113) _ ⟨(0 : Int), S.sub ⟨rfl, rfl, rfl, trivial⟩, H, hit114⟩ ?_
   rintro n a w ⟨x72, S, H, hit114⟩
   obtain ⟨m118, o119, rfl, hm, hc120⟩ := iter_step hit114
   rw [hf116] at hm
   refine wp_seq (wp_seq (region_plain ?_))
   refine lq (.int .i64 x72) S (q_move rfl) fun a S => ?_
   refine lq p0 S (q_move rfl) fun a S => ?_
   refine lq (.int .i64 (a0.length : Int)) S (q_lenSl rfl (h0).isSl rfl Try.underlying27) fun a S => ?_
   refine lq (.bool (decide (x72 < (a0.length : Int)))) S (q_lss rfl rfl) fun a S => ?_
   refine lx_nil (thenN ?_)
   refine cond_b S rfl (fun hc121 => ?_) (fun hc121 => ?_)
   ·have hm := ite_t hc121 hm
    refine wp_skip (thenN ?_)
    refine wp_seq ?_
    refine wp_block ?_
    refine wp_seq ?_
    refine region_drawG (fun w1 => Heap w0 [] w1) (fun i => [8].contains i) mixed (by kernel_rfl) (fun w123 he122 => ?_)
    have H := H.later he122
    refine ⟨H.sel [] (by decide), ?_⟩
    refine lq p0 S (q_move rfl) fun a S => ?_
    refine lq (.int .i64 x72) S (q_move rfl) fun a S => ?_
    obtain ⟨x124, e125, hm⟩ := bind_some hm
    obtain ⟨c126, h127, hat128⟩ := (h0).elem (idx_some e125).2
    obtain ⟨c131, c132, rfl, h133, h134⟩ := h127
    obtain rfl := h133
    obtain ⟨c135, c136, rfl, h137, h138⟩ := h134
    obtain rfl := h137
    obtain ⟨v129, rfl, h130⟩ := rd_list h138
    have hlt := lt_of_idx (idx_some e125).2
    refine lq (ePtr p0 (x72.toNat * 3)) S (q_indexAddr rfl (h0).isSl rfl (idx_some e125).1 hlt Try.underlying27 Try.sizeOf53) fun a S => ?_
    refine lq (.agg #[(.int .i64 x124.1), (.int .i64 x124.2.1), v129]) S (q_loadA (cs := [(.int .i64 x124.1), (.int .i64 x124.2.1), v129]) rfl ((hat128 0 _ rfl).isP) Try.isAgg53 Try.sizeOf53 (fun w1 hC => (fun j u hu => (hat128 j u hu).ext hC.ext))) fun a S => ?_
    refine lq p1 S (q_move rfl) fun a S => ?_
    refine lq (.int .i64 x72) S (q_move rfl) fun a S => ?_
    obtain ⟨x139, e140, hm⟩ := bind_some hm
    obtain ⟨c141, h142, hat143⟩ := (h1).elem (idx_some e140).2
    obtain ⟨c146, c147, rfl, h148, h149⟩ := h142
    obtain rfl := h148
    obtain ⟨c150, c151, rfl, h152, h153⟩ := h149
    obtain rfl := h152
    obtain ⟨v144, rfl, h145⟩ := rd_list h153
    have hlt := lt_of_idx (idx_some e140).2
    refine lq (ePtr p1 (x72.toNat * 3)) S (q_indexAddr rfl (h1).isSl rfl (idx_some e140).1 hlt Try.underlying27 Try.sizeOf53) fun a S => ?_
    refine lq (.agg #[(.int .i64 x139.1), (.int .i64 x139.2.1), v144]) S (q_loadA (cs := [(.int .i64 x139.1), (.int .i64 x139.2.1), v144]) rfl ((hat143 0 _ rfl).isP) Try.isAgg53 Try.sizeOf53 (fun w1 hC => (fun j u hu => (hat143 j u hu).ext hC.ext))) fun a S => ?_
    obtain ⟨x156, e157, hm⟩ := bind_some hm
    refine lx_call (xs := [.tmp 20, .tmp 24]) S trivial (by decide) rfl rfl Try.call45 ((laws_eqVertex_ok ⟨[(.int .i64 x124.1), (.int .i64 x124.2.1), v129], rfl, ⟨[(.int .i64 x124.1)], [(.int .i64 x124.2.1), v129], rfl, rfl, ⟨[(.int .i64 x124.2.1)], [v129], rfl, rfl, ((H.arg h130)).list_rd⟩⟩⟩ ⟨[(.int .i64 x139.1), (.int .i64 x139.2.1), v144], rfl, ⟨[(.int .i64 x139.1)], [(.int .i64 x139.2.1), v144], rfl, rfl, ⟨[(.int .i64 x139.2.1)], [v144], rfl, rfl, ((H.arg h145)).list_rd⟩⟩⟩ e157).mono ?_)
    rintro e w154 ⟨rfl, Hc155⟩
    have H := H.call0 Hc155
    refine ⟨_, rfl, H.sel [] (by decide), fun a S => ?_⟩
    refine lq (.bool (!x156)) S (q_not rfl) fun a S => ?_
    refine lx_nil (thenN ?_)
    refine cond_b S rfl (fun hc159 => ?_) (fun hc159 => ?_)
    ·have hm := ite_t hc159 hm
     refine wp_seq (region_plain ?_)
     refine lq (.bool false) S (q_assign rfl) fun a S => ?_
     refine lx_nil (thenN ?_)
     refine wp_ret (inBlock_ret ?_)
     refine then_ret ?_
     refine then_ret ?_
     refine inBlock_ret ?_
     refine then_ret ?_
     refine then_ret ?_
     obtain rfl := it_brk hm hc120
     have hm := ctl_inr hk117
     obtain rfl := Option.some.inj hm
     exact leave1 S rfl rfl ⟨rfl, H⟩
    ·have hm := ite_f hc159 hm
     refine wp_skip ?_
     refine inBlock_norm ?_
     refine thenN ?_
     refine region_plain ?_
     refine lq (.int .i64 x72) S (q_move rfl) fun a S => ?_
     refine lq (.int .i64 (W (x72 + (1 : Int)))) S (q_add rfl rfl) fun a S => ?_
     refine lq (.int .i64 (W (x72 + (1 : Int)))) S (q_assign rfl) fun a S => ?_
     refine lx_nil ?_
     exact ⟨m118, Nat.lt_succ_self _, (W (x72 + (1 : Int))), S.sub ⟨rfl, rfl, rfl, trivial⟩, H, it_cont hm hc120⟩
   ·have hm := ite_f hc121 hm
    refine wp_exit ?_
    refine then_exit ?_
    refine then_exit ?_
    refine inBlock_exit ?_
    obtain rfl := it_brk hm hc120
    exact ⟨S.sub trivial, H, rfl⟩

/-- spec.l23Bad -/
def spec_l23Bad_m (_ : Nat) (a0 : Int) (a1 : Int) : Option (Int) :=
  (if ((a1.tmod (2 : Int)) == a0) = true then some ((-1 : Int)) else some ((W (a1.tdiv (2 : Int)))))
set_option maxRecDepth 20000 in
theorem spec_l23Bad_ok [dr : Dr] {w0 : World} {fuel : Nat} {a0 : Int} {a1 : Int} {r : Int} (hm : spec_l23Bad_m fuel a0 a1 = some r) :
  Calls Try.prog 61 #[.int .i64 a0, .int .i64 a1] w0 fun e w => e = .returned (.int .i64 r) ∧ Heap w0 [] w := by
 unfold spec_l23Bad_m at hm
 have H := Heap.start w0
 refine enter (args := [.int .i64 a0, .int .i64 a1]) Try.func61 rfl 11 rfl (Nat.le_of_ble_eq_true rfl) (fun a S => ?_)
 refine wp_seq (region_plain ?_)
 refine lq (.int .i64 (0 : Int)) S (q_assign rfl) fun a S => ?_
 refine lx_nil (thenN ?_)
 refine wp_seq (wp_seq (region_plain ?_))
 refine lq (.int .i64 a1) S (q_move rfl) fun a S => ?_
 refine lq (.int .i64 (a1.tmod (2 : Int))) S (q_rem rfl rfl (show (2 : Int) ≠ 0 from by decide)) fun a S => ?_
 refine lq (.int .i64 a0) S (q_move rfl) fun a S => ?_
 refine lq (.bool ((a1.tmod (2 : Int)) == a0)) S (q_eql rfl rfl) fun a S => ?_
 refine lx_nil (thenN ?_)
 refine cond_b S rfl (fun hc31 => ?_) (fun hc31 => ?_)
 ·have hm := ite_t hc31 hm
  refine wp_seq (region_plain ?_)
  refine lq (.int .i64 (-1 : Int)) S (q_assign rfl) fun a S => ?_
  refine lx_nil (thenN ?_)
  refine wp_ret (then_ret ?_)
  obtain rfl := Option.some.inj hm
  exact leave1 S rfl rfl ⟨rfl, H⟩
 ·have hm := ite_f hc31 hm
  refine wp_skip (thenN ?_)
  refine wp_seq (region_plain ?_)
  refine lq (.int .i64 a1) S (q_move rfl) fun a S => ?_
  refine lq (.int .i64 (W (a1.tdiv (2 : Int)))) S (q_quo rfl rfl (show (2 : Int) ≠ 0 from by decide)) fun a S => ?_
  refine lq (.int .i64 (W (a1.tdiv (2 : Int)))) S (q_assign rfl) fun a S => ?_
  refine lx_nil (thenN ?_)
  refine wp_ret ?_
  obtain rfl := Option.some.inj hm
  exact leave1 S rfl rfl ⟨rfl, H⟩

/-- spec.l23Tops -/
def spec_l23Tops_m (fuel : Nat) (a0 : (List Timpl_Vertex)) (a1 : Int) : Option ((List Int)) :=
  (mks (5 : Int) (0 : Int)).bind fun x31 => (iter (fun (s : (List Int) × (Int)) => (match s with | (xs72, x73) => (if (decide (x73 < (a0.length : Int))) = true then join (κ := List Int → Option (((List Int) × (Int)) ⊕ (((List Int)) ⊕ ((List Int))))) (fun (xs119 : List Int) => some (.inl (xs119, (W (x73 + (1 : Int)))))) (fun K120 => (idx a0 x73).bind fun x122 => (spec_l23Bad_m fuel a1 x122.2.1).bind fun x139 => (if (decide ((0 : Int) ≤ x139)) = true then (idx xs72 x139).bind fun x143 => (idx xs72 x139).bind fun _ => (K120 (xs72.set x139.toNat (W (x143 + (1 : Int))))) else (K120 xs72))) else some (.inr (.inl (xs72)))) : Option (((List Int) × (Int)) ⊕ (((List Int)) ⊕ ((List Int)))))) fuel (x31, (0 : Int))).bind fun res110 => ctl (β := (List Int)) (ρ := (List Int)) (τ := (List Int)) res110 (fun (xs109) => some (xs109)) (fun q => some (q))
set_option maxRecDepth 20000 in
theorem spec_l23Tops_ok [dr : Dr] {w0 : World} {fuel : Nat} {p0 : Value} {a0 : (List Timpl_Vertex)} {a1 : Int} {r : (List Int)} (h0 : Rd (rList Rimpl_Vertex) w0 p0 a0) (hm : spec_l23Tops_m fuel a0 a1 = some r) :
  Calls Try.prog 31 #[p0, .int .i64 a1] w0 fun e w => ∃ (v0 : Value), e = .returned (v0) ∧ Heap w0 [oA (rList (rInt .i64)) v0 r] w := by
 unfold spec_l23Tops_m at hm
 have H := Heap.start w0
 refine enter (args := [p0, .int .i64 a1]) Try.func31 rfl 31 rfl (Nat.le_of_ble_eq_true rfl) (fun a S => ?_)
 refine wp_seq (region_plain ?_)
 refine lq (.slice none 0 0) S (q_assign rfl) fun a S => ?_
 refine lx_nil (thenN ?_)
 refine wp_seq (region_plain ?_)
 obtain ⟨x31, e32, hm⟩ := bind_some hm
 obtain ⟨m33, hn, hn2, rfl⟩ := mks_some e32
 refine lx_make (r := (rInt .i64)) (z0 := (0 : Int)) (n := m33) S trivial (by decide) rfl H (by rw [← hn]; rfl) (by rw [← hn]; rfl) Try.underlying38 (Try.ti2) rfl rfl (Nat.le_of_ble_eq_true rfl) (fun w => ⟨rfl, rfl⟩) hn2 (by decide) (fun v34 w35 H => ⟨trivial, fun a S => ?_⟩)
 refine lq v34 S (q_assign rfl) fun a S => ?_
 refine lx_nil (thenN ?_)
 refine wp_seq (wp_seq (region_plain ?_))
 refine lq (.int .i64 (0 : Int)) S (q_assign rfl) fun a S => ?_
 refine lx_nil (thenN ?_)
 obtain ⟨res110, hit111, hk114⟩ := bind_some hm
 obtain ⟨f112, hf113, hit111⟩ := iter_name hit111
 refine block_loop (fun a w => ∃ (xs109 : List Int), Slots a 31 [(5, v34)] ∧ Heap w0 [oA (rList (rInt .i64)) v34 xs109] w ∧ res110 = .inl (xs109)) ?_ ?_
 ·rintro a w ⟨xs109, S, H, rfl⟩
  have hm := ctl_inl hk114
  refine thenN ?_
  refine wp_seq (region_plain ?_)
  refine lq v34 S (q_move rfl) fun a S => ?_
  refine lq v34 S (q_assign rfl) fun a S => ?_
  refine lx_nil (thenN ?_)
  refine wp_ret ?_
  obtain rfl := Option.some.inj hm
  exact leave1 S rfl rfl ⟨v34, rfl, H⟩
 ·skip
  refine loop_ghost (fun n a w => ∃ (xs72 : List Int) (x73 : Int), Slots a 31 [(0, p0), (1, (.int .i64 a1)), (5, v34), (6, (.int .i64 x73))] ∧ Heap w0 [oA (rList (rInt .i64)) v34 xs72] w ∧ iter f112 n (xs72, x73) = some res110) _ ⟨(List.replicate m33 (0 : Int)), (0 : Int), S.sub ⟨rfl, rfl, rfl, rfl, trivial⟩, H, hit111⟩ ?_
  rintro n a w ⟨xs72, x73, S, H, hit111⟩
  obtain ⟨m115, o116, rfl, hm, hc117⟩ := iter_step hit111
  rw [hf113] at hm
  refine wp_seq (wp_seq (region_plain ?_))
  refine lq (.int .i64 x73) S (q_move rfl) fun a S => ?_
  refine lq p0 S (q_move rfl) fun a S => ?_
  refine lq (.int .i64 (a0.length : Int)) S (q_lenSl rfl (h0).isSl rfl Try.underlying27) fun a S => ?_
  refine lq (.bool (decide (x73 < (a0.length : Int)))) S (q_lss rfl rfl) fun a S => ?_
  refine lx_nil (thenN ?_)
  refine cond_b S rfl (fun hc118 => ?_) (fun hc118 => ?_)
  ·have hm := ite_t hc118 hm
   refine wp_skip (thenN ?_)
   obtain ⟨K120, hK121, hm⟩ := join_elim hm
   refine seq_cut (fun a w => ∃ (xs119 : List Int), Slots a 31 [(0, p0), (1, (.int .i64 a1)), (5, v34), (6, (.int .i64 x73))] ∧ Heap w0 [oA (rList (rInt .i64)) v34 xs119] w ∧ K120 xs119 = some o116) ?_ ?_
   ·rintro a w ⟨xs119, S, H, hm⟩
    subst hK121
    refine region_plain ?_
    refine lq (.int .i64 x73) S (q_move rfl) fun a S => ?_
    refine lq (.int .i64 (W (x73 + (1 : Int)))) S (q_add rfl rfl) fun a S => ?_
    refine lq (.int .i64 (W (x73 + (1 : Int)))) S (q_assign rfl) fun a S => ?_
    refine lx_nil ?_
    exact ⟨m115, Nat.lt_succ_self _, xs119, (W (x73 + (1 : Int))), S.sub ⟨rfl, rfl, rfl, rfl, trivial⟩, H, it_cont hm hc117⟩
   ·skip
    refine wp_block ?_
    refine wp_seq (region_plain ?_)
    refine lq (.int .i64 a1) S (q_move rfl) fun a S => ?_
    refine lq p0 S (q_move rfl) fun a S => ?_
    refine lq (.int .i64 x73) S (q_move rfl) fun a S => ?_
    obtain ⟨x122, e123, hm⟩ := bind_some hm
    obtain ⟨c124, h125, hat126⟩ := (h0).elem (idx_some e123).2
    obtain ⟨c129, c130, rfl, h131, h132⟩ := h125
    obtain rfl := h131
    obtain ⟨c133, c134, rfl, h135, h136⟩ := h132
    obtain rfl := h135
    obtain ⟨v127, rfl, h128⟩ := rd_list h136
    have hlt := lt_of_idx (idx_some e123).2
    refine lq (ePtr p0 (x73.toNat * 3)) S (q_indexAddr rfl (h0).isSl rfl (idx_some e123).1 hlt Try.underlying27 Try.sizeOf53) fun a S => ?_
    refine lq (pAdd (ePtr p0 (x73.toNat * 3)) 1) S (q_fieldAddr' 1 2 rfl ((hat126 0 _ rfl).isP) Try.underlying53 rfl Try.sizeOf2) fun a S => ?_
    refine lx_e (.int .i64 x122.2.1) S trivial (by decide) rfl trivial (q_load1 rfl Try.isAgg2 (by rintro _ rfl; exact (At.of_add (m := 1) (j := 0) ((hat126 1 _ rfl).ext H.ext)))) (fun a S => ?_)
    obtain ⟨x139, e140, hm⟩ := bind_some hm
    refine lx_call (xs := [.tmp 15, .tmp 20]) S trivial (by decide) rfl rfl Try.call61 ((spec_l23Bad_ok   e140).mono ?_)
    rintro e w137 ⟨rfl, Hc138⟩
    have H := H.call0 Hc138
    refine ⟨_, rfl, trivial, fun a S => ?_⟩
    refine lq (.int .i64 x139) S (q_assign rfl) fun a S => ?_
    refine lx_nil (thenN ?_)
    refine wp_seq (region_plain ?_)
    refine lq (.int .i64 x139) S (q_move rfl) fun a S => ?_
    refine lq (.bool (decide ((0 : Int) ≤ x139))) S (q_geq rfl rfl) fun a S => ?_
    refine lx_nil (thenN ?_)
    refine cond_b S rfl (fun hc142 => ?_) (fun hc142 => ?_)
    ·have hm := ite_t hc142 hm
     refine region_plain ?_
     refine lq v34 S (q_move rfl) fun a S => ?_
     refine lq (.int .i64 x139) S (q_move rfl) fun a S => ?_
     obtain ⟨x143, e144, hm⟩ := bind_some hm
     have hlt := lt_of_idx (idx_some e144).2
     refine lq (ePtr v34 (x139.toNat * 1)) S (q_indexAddr rfl (H.isSl 0 rfl) rfl (idx_some e144).1 hlt Try.underlying38 Try.sizeOf2) fun a S => ?_
     obtain ⟨c145, h146, hat147⟩ := (H.rdAt 0 rfl).elem (idx_some e144).2
     obtain rfl := h146
     refine lx_e (.int .i64 x143) S trivial (by decide) rfl trivial (q_load1 rfl Try.isAgg2 (by rintro _ rfl; exact (hat147 0 _ rfl))) (fun a S => ?_)
     refine lq (.int .i64 (W (x143 + (1 : Int)))) S (q_add rfl rfl) fun a S => ?_
     obtain ⟨x148, e149, hm⟩ := bind_some hm
     have hlt := lt_of_idx (idx_some e149).2
     refine lq (ePtr v34 (x139.toNat * 1)) S (q_indexAddr rfl (H.isSl 0 rfl) rfl (idx_some e149).1 hlt Try.underlying38 Try.sizeOf2) fun a S => ?_
     refine lx_storeElem (r := (rInt .i64)) (us := [(.int .i64 (W (x143 + (1 : Int))))]) (off := 0) (e' := (W (x143 + (1 : Int)))) S trivial rfl H.putE (ev_zero rfl) rfl (idx_some e149).2 rfl Try.sizeOf2 (Nat.le_of_ble_eq_true rfl) (List.forall_mem_cons.2 ⟨rfl, (List.forall_mem_nil _)⟩) (Upd.full rfl (fun w G hG => by cases (show G = [] from hG); exact ⟨rfl, rfl⟩)) (fun w150 H => ⟨trivial, fun a S => ?_⟩)
     refine lx_nil ?_
     refine inBlock_norm ?_
     exact ⟨(xs72.set x139.toNat (W (x143 + (1 : Int)))), S.sub ⟨rfl, rfl, rfl, rfl, trivial⟩, H, hm⟩
    ·have hm := ite_f hc142 hm
     refine wp_skip ?_
     refine inBlock_norm ?_
     exact ⟨xs72, S.sub ⟨rfl, rfl, rfl, rfl, trivial⟩, H, hm⟩
  ·have hm := ite_f hc118 hm
   refine wp_exit ?_
   refine then_exit ?_
   refine then_exit ?_
   refine inBlock_exit ?_
   obtain rfl := it_brk hm hc117
   exact ⟨xs72, S.sub ⟨rfl, trivial⟩, H, rfl⟩

/-- spec.l23Places -/
def spec_l23Places_m (_ : Nat) (a0 : Int) (a1 : Int) : Option (Int) :=
  (if (a0 == (0 : Int)) = true then some ((W ((W (a1 + (1 : Int))).tdiv (2 : Int)))) else some ((W ((W (a1.tdiv (2 : Int))) + (1 : Int)))))
set_option maxRecDepth 20000 in
theorem spec_l23Places_ok [dr : Dr] {w0 : World} {fuel : Nat} {a0 : Int} {a1 : Int} {r : Int} (hm : spec_l23Places_m fuel a0 a1 = some r) :
  Calls Try.prog 82 #[.int .i64 a0, .int .i64 a1] w0 fun e w => e = .returned (.int .i64 r) ∧ Heap w0 [] w := by
 unfold spec_l23Places_m at hm
 have H := Heap.start w0
 refine enter (args := [.int .i64 a0, .int .i64 a1]) Try.func82 rfl 13 rfl (Nat.le_of_ble_eq_true rfl) (fun a S => ?_)
 refine wp_seq (region_plain ?_)
 refine lq (.int .i64 (0 : Int)) S (q_assign rfl) fun a S => ?_
 refine lx_nil (thenN ?_)
 refine wp_seq (wp_seq (region_plain ?_))
 refine lq (.int .i64 a0) S (q_move rfl) fun a S => ?_
 refine lq (.bool (a0 == (0 : Int))) S (q_eql rfl rfl) fun a S => ?_
 refine lx_nil (thenN ?_)
 refine cond_b S rfl (fun hc31 => ?_) (fun hc31 => ?_)
 ·have hm := ite_t hc31 hm
  refine wp_seq (region_plain ?_)
  refine lq (.int .i64 a1) S (q_move rfl) fun a S => ?_
  refine lq (.int .i64 (W (a1 + (1 : Int)))) S (q_add rfl rfl) fun a S => ?_
  refine lq (.int .i64 (W ((W (a1 + (1 : Int))).tdiv (2 : Int)))) S (q_quo rfl rfl (show (2 : Int) ≠ 0 from by decide)) fun a S => ?_
  refine lq (.int .i64 (W ((W (a1 + (1 : Int))).tdiv (2 : Int)))) S (q_assign rfl) fun a S => ?_
  refine lx_nil (thenN ?_)
  refine wp_ret (then_ret ?_)
  obtain rfl := Option.some.inj hm
  exact leave1 S rfl rfl ⟨rfl, H⟩
 ·have hm := ite_f hc31 hm
  refine wp_skip (thenN ?_)
  refine wp_seq (region_plain ?_)
  refine lq (.int .i64 a1) S (q_move rfl) fun a S => ?_
  refine lq (.int .i64 (W (a1.tdiv (2 : Int)))) S (q_quo rfl rfl (show (2 : Int) ≠ 0 from by decide)) fun a S => ?_
  refine lq (.int .i64 (W ((W (a1.tdiv (2 : Int))) + (1 : Int)))) S (q_add rfl rfl) fun a S => ?_
  refine lq (.int .i64 (W ((W (a1.tdiv (2 : Int))) + (1 : Int)))) S (q_assign rfl) fun a S => ?_
  refine lx_nil (thenN ?_)
  refine wp_ret ?_
  obtain rfl := Option.some.inj hm
  exact leave1 S rfl rfl ⟨rfl, H⟩

/-- spec.l01Compare -/
def spec_l01Compare_m (fuel : Nat) (a0 : (List Int)) (a1 : (List Int)) : Option (Int) :=
  (iter (fun (s : (Int)) => (match s with | (x62) => (if (decide (x62 < (a0.length : Int))) = true then some (decide (x62 < (a1.length : Int))) else some false).bind fun t104 => (if t104 = true then (idx a0 x62).bind fun x110 => (idx a1 x62).bind fun x115 => (if (decide (x110 < x115)) = true then some (.inr (.inr (-1 : Int))) else (idx a0 x62).bind fun x123 => (idx a1 x62).bind fun x128 => (if (decide (x128 < x123)) = true then some (.inr (.inr (1 : Int))) else some (.inl ((W (x62 + (1 : Int))))))) else some (.inr (.inl ()))) : Option (((Int)) ⊕ ((Unit) ⊕ (Int))))) fuel ((0 : Int))).bind fun res94 => ctl (β := Unit) (ρ := Int) (τ := Int) res94 (fun _ => (if (decide ((a0.length : Int) < (a1.length : Int))) = true then some ((-1 : Int)) else (if (decide ((a1.length : Int) < (a0.length : Int))) = true then some ((1 : Int)) else some ((0 : Int))))) (fun q => some (q))
set_option maxRecDepth 20000 in
theorem spec_l01Compare_ok [dr : Dr] {w0 : World} {fuel : Nat} {p0 p1 : Value} {a0 : (List Int)} {a1 : (List Int)} {r : Int} (h0 : Rd (rList (rInt .i64)) w0 p0 a0) (h1 : Rd (rList (rInt .i64)) w0 p1 a1) (hm : spec_l01Compare_m fuel a0 a1 = some r) :
  Calls Try.prog 83 #[p0, p1] w0 fun e w => e = .returned (.int .i64 r) ∧ Heap w0 [] w := by
 unfold spec_l01Compare_m at hm
 have H := Heap.start w0
 refine enter (args := [p0, p1]) Try.func83 rfl 46 rfl (Nat.le_of_ble_eq_true rfl) (fun a S => ?_)
 refine wp_seq (region_plain ?_)
 refine lq (.int .i64 (0 : Int)) S (q_assign rfl) fun a S => ?_
 refine lx_nil (thenN ?_)
 refine wp_seq (wp_seq (region_plain ?_))
 refine lq (.int .i64 (0 : Int)) S (q_assign rfl) fun a S => ?_
 refine lx_nil (thenN ?_)
 obtain ⟨res94, hit95, hk98⟩ := bind_some hm
 obtain ⟨f96, hf97, hit95⟩ := iter_name hit95
 refine block_loop (fun a w => Slots a 46 [(0, p0), (1, p1)] ∧ Heap w0 [] w ∧ res94 = .inl ()) ?_ ?_
 ·rintro a w ⟨S, H, rfl⟩
  have hm := ctl_inl hk98
  refine thenN ?_
  refine wp_seq (wp_seq (region_plain ?_))
  refine lq p0 S (q_move rfl) fun a S => ?_
  refine lq (.int .i64 (a0.length : Int)) S (q_lenSl rfl (h0).isSl rfl Try.underlying38) fun a S => ?_
  refine lq p1 S (q_move rfl) fun a S => ?_
  refine lq (.int .i64 (a1.length : Int)) S (q_lenSl rfl (h1).isSl rfl Try.underlying38) fun a S => ?_
  refine lq (.bool (decide ((a0.length : Int) < (a1.length : Int)))) S (q_lss rfl rfl) fun a S => ?_
  refine lx_nil (thenN ?_)
  refine cond_b S rfl (fun hc99 => ?_) (fun hc99 => ?_)
  ·have hm := ite_t hc99 hm
   refine wp_seq (region_plain ?_)
   refine lq (.int .i64 (-1 : Int)) S (q_assign rfl) fun a S => ?_
   refine lx_nil (thenN ?_)
   refine wp_ret (then_ret ?_)
   obtain rfl := Option.some.inj hm
   exact leave1 S rfl rfl ⟨rfl, H⟩
  ·have hm := ite_f hc99 hm
   refine wp_skip (thenN ?_)
   refine wp_seq (wp_seq (region_plain ?_))
   refine lq p0 S (q_move rfl) fun a S => ?_
   refine lq (.int .i64 (a0.length : Int)) S (q_lenSl rfl (h0).isSl rfl Try.underlying38) fun a S => ?_
   refine lq p1 S (q_move rfl) fun a S => ?_
   refine lq (.int .i64 (a1.length : Int)) S (q_lenSl rfl (h1).isSl rfl Try.underlying38) fun a S => ?_
   refine lq (.bool (decide ((a1.length : Int) < (a0.length : Int)))) S (q_gtr rfl rfl) fun a S => ?_
   refine lx_nil (thenN ?_)
   refine cond_b S rfl (fun hc100 => ?_) (fun hc100 => ?_)
   ·have hm := ite_t hc100 hm
    refine wp_seq (region_plain ?_)
    refine lq (.int .i64 (1 : Int)) S (q_assign rfl) fun a S => ?_
    refine lx_nil (thenN ?_)
    refine wp_ret (then_ret ?_)
    obtain rfl := Option.some.inj hm
    exact leave1 S rfl rfl ⟨rfl, H⟩
   ·have hm := ite_f hc100 hm
    refine wp_skip (thenN ?_)
    refine wp_seq (region_plain ?_)
    refine lq (.int .i64 (0 : Int)) S (q_assign rfl) fun a S => ?_
    refine lx_nil (thenN ?_)
    refine wp_ret ?_
    obtain rfl := Option.some.inj hm
    exact leave1 S rfl rfl ⟨rfl, H⟩
 ·skip
  refine loop_ghost (fun n a w => ∃ (x62 : Int), Slots a 46 [(0, p0), (1, p1), (5, (.int .i64 x62))] ∧ Heap w0 [] w ∧ iter f96 n (x62) = some res94) _ ⟨(0 : Int), S.sub ⟨rfl, rfl, rfl, trivial⟩, H, hit95⟩ ?_
  rintro n a w ⟨x62, S, H, hit95⟩
  obtain ⟨m101, o102, rfl, hm, hc103⟩ := iter_step hit95
  rw [hf97] at hm
  refine wp_seq (wp_seq (region_plain ?_))
  refine lq (.int .i64 x62) S (q_move rfl) fun a S => ?_
  refine lq p0 S (q_move rfl) fun a S => ?_
  refine lq (.int .i64 (a0.length : Int)) S (q_lenSl rfl (h0).isSl rfl Try.underlying38) fun a S => ?_
  refine lq (.bool (decide (x62 < (a0.length : Int)))) S (q_lss rfl rfl) fun a S => ?_
  refine lq (.bool (decide (x62 < (a0.length : Int)))) S (q_move rfl) fun a S => ?_
  obtain ⟨t104, e105, hm⟩ := bind_some hm
  refine lx_cut 5 (fun a w => Slots a 46 [(0, p0), (1, p1), (5, (.int .i64 x62)), (15, (.bool t104))] ∧ Heap w0 [] w) ?_ ?_
  ·by_cases hc106 : (decide (x62 < (a0.length : Int))) = true
   ·have hm := ite_t hc106 e105
    refine lx_q (.int .i64 x62) S (want_b rfl rfl hc106) (by decide) (q_move rfl) (fun a S => ?_)
    refine lx_q p1 S (want_b rfl rfl hc106) (by decide) (q_move rfl) (fun a S => ?_)
    refine lx_q (.int .i64 (a1.length : Int)) S (want_b rfl rfl hc106) (by decide) (q_lenSl rfl (h1).isSl rfl Try.underlying38) (fun a S => ?_)
    refine lx_q (.bool (decide (x62 < (a1.length : Int)))) S (want_b rfl rfl hc106) (by decide) (q_lss rfl rfl) (fun a S => ?_)
    refine lq (.bool (decide (x62 < (a1.length : Int)))) S (q_pickT' rfl hc106 rfl) fun a S => ?_
    refine lx_nil ?_
    obtain rfl := Option.some.inj hm
    exact ⟨S.sub ⟨rfl, rfl, rfl, rfl, trivial⟩, H⟩
   ·have hm := ite_f (eq_false_of_ne_true hc106) e105
    have hc106 : (decide (x62 < (a0.length : Int))) = false := eq_false_of_ne_true hc106
    refine lx_skip S rfl rfl (isB_ne hc106) (by decide) (fun a S => ?_)
    refine lx_skip S rfl rfl (isB_ne hc106) (by decide) (fun a S => ?_)
    refine lx_skip S rfl rfl (isB_ne hc106) (by decide) (fun a S => ?_)
    refine lx_skip S rfl rfl (isB_ne hc106) (by decide) (fun a S => ?_)
    refine lq (.bool false) S (q_pickF' rfl hc106 rfl) fun a S => ?_
    refine lx_nil ?_
    obtain rfl := Option.some.inj hm
    exact ⟨S.sub ⟨rfl, rfl, rfl, rfl, trivial⟩, H⟩
  ·rintro a w ⟨S, H⟩
   refine lx_nil (thenN ?_)
   refine cond_b S rfl (fun hc107 => ?_) (fun hc107 => ?_)
   ·have hm := ite_t hc107 hm
    refine wp_skip (thenN ?_)
    refine wp_seq ?_
    refine wp_block ?_
    refine wp_seq ?_
    refine wp_seq ?_
    refine region_drawG (fun w1 => Heap w0 [] w1) (fun i => [].contains i) mixed (by kernel_rfl) (fun w109 he108 => ?_)
    have H := H.later he108
    refine ⟨H.sel [] (by decide), ?_⟩
    refine lq p0 S (q_move rfl) fun a S => ?_
    refine lq (.int .i64 x62) S (q_move rfl) fun a S => ?_
    obtain ⟨x110, e111, hm⟩ := bind_some hm
    obtain ⟨c112, h113, hat114⟩ := (h0).elem (idx_some e111).2
    obtain rfl := h113
    have hlt := lt_of_idx (idx_some e111).2
    refine lq (ePtr p0 (x62.toNat * 1)) S (q_indexAddr rfl (h0).isSl rfl (idx_some e111).1 hlt Try.underlying38 Try.sizeOf2) fun a S => ?_
    refine lq (.int .i64 x110) S (q_load1 rfl Try.isAgg2 (fun w1 hC => ((hat114 0 _ rfl).ext hC.ext))) fun a S => ?_
    refine lq p1 S (q_move rfl) fun a S => ?_
    refine lq (.int .i64 x62) S (q_move rfl) fun a S => ?_
    obtain ⟨x115, e116, hm⟩ := bind_some hm
    obtain ⟨c117, h118, hat119⟩ := (h1).elem (idx_some e116).2
    obtain rfl := h118
    have hlt := lt_of_idx (idx_some e116).2
    refine lq (ePtr p1 (x62.toNat * 1)) S (q_indexAddr rfl (h1).isSl rfl (idx_some e116).1 hlt Try.underlying38 Try.sizeOf2) fun a S => ?_
    refine lq (.int .i64 x115) S (q_load1 rfl Try.isAgg2 (fun w1 hC => ((hat119 0 _ rfl).ext hC.ext))) fun a S => ?_
    refine lq (.bool (decide (x110 < x115))) S (q_lss rfl rfl) fun a S => ?_
    refine lx_nil (thenN ?_)
    refine cond_b S rfl (fun hc120 => ?_) (fun hc120 => ?_)
    ·have hm := ite_t hc120 hm
     refine wp_seq (region_plain ?_)
     refine lq (.int .i64 (-1 : Int)) S (q_assign rfl) fun a S => ?_
     refine lx_nil (thenN ?_)
     refine wp_ret (then_ret ?_)
     refine inBlock_ret ?_
     refine then_ret ?_
     refine then_ret ?_
     refine inBlock_ret ?_
     refine then_ret ?_
     refine then_ret ?_
     obtain rfl := it_brk hm hc103
     have hm := ctl_inr hk98
     obtain rfl := Option.some.inj hm
     exact leave1 S rfl rfl ⟨rfl, H⟩
    ·have hm := ite_f hc120 hm
     refine wp_skip (thenN ?_)
     refine wp_seq ?_
     refine region_drawG (fun w1 => Heap w0 [] w1) (fun i => [].contains i) mixed (by kernel_rfl) (fun w122 he121 => ?_)
     have H := H.later he121
     refine ⟨H.sel [] (by decide), ?_⟩
     refine lq p0 S (q_move rfl) fun a S => ?_
     refine lq (.int .i64 x62) S (q_move rfl) fun a S => ?_
     obtain ⟨x123, e124, hm⟩ := bind_some hm
     obtain ⟨c125, h126, hat127⟩ := (h0).elem (idx_some e124).2
     obtain rfl := h126
     have hlt := lt_of_idx (idx_some e124).2
     refine lq (ePtr p0 (x62.toNat * 1)) S (q_indexAddr rfl (h0).isSl rfl (idx_some e124).1 hlt Try.underlying38 Try.sizeOf2) fun a S => ?_
     refine lq (.int .i64 x123) S (q_load1 rfl Try.isAgg2 (fun w1 hC => ((hat127 0 _ rfl).ext hC.ext))) fun a S => ?_
     refine lq p1 S (q_move rfl) fun a S => ?_
     refine lq (.int .i64 x62) S (q_move rfl) fun a S => ?_
     obtain ⟨x128, e129, hm⟩ := bind_some hm
     obtain ⟨c130, h131, hat132⟩ := (h1).elem (idx_some e129).2
     obtain rfl := h131
     have hlt := lt_of_idx (idx_some e129).2
     refine lq (ePtr p1 (x62.toNat * 1)) S (q_indexAddr rfl (h1).isSl rfl (idx_some e129).1 hlt Try.underlying38 Try.sizeOf2) fun a S => ?_
     refine lq (.int .i64 x128) S (q_load1 rfl Try.isAgg2 (fun w1 hC => ((hat132 0 _ rfl).ext hC.ext))) fun a S => ?_
     refine lq (.bool (decide (x128 < x123))) S (q_gtr rfl rfl) fun a S => ?_
     refine lx_nil (thenN ?_)
     refine cond_b S rfl (fun hc133 => ?_) (fun hc133 => ?_)
     ·have hm := ite_t hc133 hm
      refine wp_seq (region_plain ?_)
      refine lq (.int .i64 (1 : Int)) S (q_assign rfl) fun a S => ?_
      refine lx_nil (thenN ?_)
      refine wp_ret (inBlock_ret ?_)
      refine then_ret ?_
      refine then_ret ?_
      refine inBlock_ret ?_
      refine then_ret ?_
      refine then_ret ?_
      obtain rfl := it_brk hm hc103
      have hm := ctl_inr hk98
      obtain rfl := Option.some.inj hm
      exact leave1 S rfl rfl ⟨rfl, H⟩
     ·have hm := ite_f hc133 hm
      refine wp_skip ?_
      refine inBlock_norm ?_
      refine thenN ?_
      refine region_plain ?_
      refine lq (.int .i64 x62) S (q_move rfl) fun a S => ?_
      refine lq (.int .i64 (W (x62 + (1 : Int)))) S (q_add rfl rfl) fun a S => ?_
      refine lq (.int .i64 (W (x62 + (1 : Int)))) S (q_assign rfl) fun a S => ?_
      refine lx_nil ?_
      exact ⟨m101, Nat.lt_succ_self _, (W (x62 + (1 : Int))), S.sub ⟨rfl, rfl, rfl, trivial⟩, H, it_cont hm hc103⟩
   ·have hm := ite_f hc107 hm
    refine wp_exit ?_
    refine then_exit ?_
    refine then_exit ?_
    refine inBlock_exit ?_
    obtain rfl := it_brk hm hc103
    exact ⟨S.sub ⟨rfl, rfl, trivial⟩, H, rfl⟩

/-- impl.playerOk -/
def impl_playerOk_m (fuel : Nat) (a0 : Int) : Option (Bool) :=
  (impl_within_m fuel a0 (0 : Int) (1 : Int)).bind fun x33 => some (x33)
set_option maxRecDepth 20000 in
theorem impl_playerOk_ok [dr : Dr] {w0 : World} {fuel : Nat} {a0 : Int} {r : Bool} (hm : impl_playerOk_m fuel a0 = some r) :
  Calls Try.prog 36 #[.int .i64 a0] w0 fun e w => e = .returned (.bool r) ∧ Heap w0 [] w := by
 unfold impl_playerOk_m at hm
 have H := Heap.start w0
 refine enter (args := [.int .i64 a0]) Try.func36 rfl 5 rfl (Nat.le_of_ble_eq_true rfl) (fun a S => ?_)
 refine wp_seq (region_plain ?_)
 refine lq (.bool false) S (q_assign rfl) fun a S => ?_
 refine lx_nil (thenN ?_)
 refine wp_seq (region_plain ?_)
 refine lq (.int .i64 a0) S (q_move rfl) fun a S => ?_
 obtain ⟨x33, e34, hm⟩ := bind_some hm
 refine lx_call (xs := [.tmp 3, .const (.int .i64 (0)), .const (.int .i64 (1))]) S trivial (by decide) rfl rfl Try.call63 ((impl_within_ok    e34).mono ?_)
 rintro e w31 ⟨rfl, Hc32⟩
 have H := H.call0 Hc32
 refine ⟨_, rfl, trivial, fun a S => ?_⟩
 refine lq (.bool x33) S (q_assign rfl) fun a S => ?_
 refine lx_nil (thenN ?_)
 refine wp_ret ?_
 obtain rfl := Option.some.inj hm
 exact leave1 S rfl rfl ⟨rfl, H⟩

/-- impl.newMeasured -/
def impl_newMeasured_m (fuel : Nat) (a0 : (List Timpl_Vertex)) (a1 : Int) : Option (Timpl_measured) :=
  (iter (fun (s : (Int) × (Int) × (Int) × (Int) × (Int) × (Int)) => (match s with | (x75, x76, x77, x78, x79, x80) => (if (decide (x80 < (a0.length : Int))) = true then join (κ := Int → Int → Int → Int → Int → Option (((Int) × (Int) × (Int) × (Int) × (Int) × (Int)) ⊕ ((Int × Int × Int × Int × Int) ⊕ (Timpl_measured)))) (fun (x137 : Int) (x138 : Int) (x139 : Int) (x140 : Int) (x141 : Int) => some (.inl (x137, x138, x139, x140, x141, (W (x80 + (1 : Int)))))) (fun K142 => (idx a0 x80).bind fun x144 => (if ((x144.2.1.tmod (2 : Int)) != a1) = true then (idx [x75, x76, x77, x78, x79] (W (x144.2.1.tdiv (2 : Int)))).bind fun x166 => (idx [x75, x76, x77, x78, x79] (W (x144.2.1.tdiv (2 : Int)))).bind fun _ => (K142 (if (W (x144.2.1.tdiv (2 : Int))).toNat = 0 then (W (x166 + (1 : Int))) else x75) (if (W (x144.2.1.tdiv (2 : Int))).toNat = 1 then (W (x166 + (1 : Int))) else x76) (if (W (x144.2.1.tdiv (2 : Int))).toNat = 2 then (W (x166 + (1 : Int))) else x77) (if (W (x144.2.1.tdiv (2 : Int))).toNat = 3 then (W (x166 + (1 : Int))) else x78) (if (W (x144.2.1.tdiv (2 : Int))).toNat = 4 then (W (x166 + (1 : Int))) else x79)) else (K142 x75 x76 x77 x78 x79))) else some (.inr (.inl (x75, x76, x77, x78, x79)))) : Option (((Int) × (Int) × (Int) × (Int) × (Int) × (Int)) ⊕ ((Int × Int × Int × Int × Int) ⊕ (Timpl_measured))))) fuel ((0 : Int), (0 : Int), (0 : Int), (0 : Int), (0 : Int), (0 : Int))).bind fun res127 => ctl (β := Int × Int × Int × Int × Int) (ρ := Timpl_measured) (τ := Timpl_measured) res127 (fun (x122, x123, x124, x125, x126) => some ((a0, a1, (x122, x123, x124, x125, x126)))) (fun q => some (q))
set_option maxRecDepth 20000 in
theorem impl_newMeasured_ok [dr : Dr] {w0 : World} {fuel : Nat} {p0 : Value} {a0 : (List Timpl_Vertex)} {a1 : Int} {r : Timpl_measured} (h0 : Rd (rList Rimpl_Vertex) w0 p0 a0) (hm : impl_newMeasured_m fuel a0 a1 = some r) :
  Calls Try.prog 37 #[p0, .int .i64 a1] w0 fun e w => ∃ (v0 : Value), e = .returned (v0) ∧ Rd (rPtr Rimpl_measured) w v0 r ∧ Heap w0 [] w := by
 unfold impl_newMeasured_m at hm
 have H := Heap.start w0
 refine enter (args := [p0, .int .i64 a1]) Try.func37 rfl 37 rfl (Nat.le_of_ble_eq_true rfl) (fun a S => ?_)
 refine wp_seq (region_plain ?_)
 refine lq (.pointer none) S (q_assign rfl) fun a S => ?_
 refine lx_nil (thenN ?_)
 refine wp_seq (region_plain ?_)
 refine lq p0 S (q_move rfl) fun a S => ?_
 refine lq (.int .i64 a1) S (q_move rfl) fun a S => ?_
 refine lq (.agg #[p0, (.int .i64 a1), (.int .i64 (0 : Int)), (.int .i64 (0 : Int)), (.int .i64 (0 : Int)), (.int .i64 (0 : Int)), (.int .i64 (0 : Int))]) S (q_build (zs := [(.slice none 0 0), (.int .i64 (0 : Int)), (.int .i64 (0 : Int)), (.int .i64 (0 : Int)), (.int .i64 (0 : Int)), (.int .i64 (0 : Int)), (.int .i64 (0 : Int))]) (szs := [1, 1, 5]) (ps := [(0, [p0]), (1, [(.int .i64 a1)])]) (parts := [(0, .tmp 8), (1, .tmp 9)]) rfl Try.underlying87 Try.zeroValue87 (fun w => by simp [Try.sizeOf2, Try.sizeOf27, Try.sizeOf85]) ⟨rfl, (cells_sl (h0).isSl), Nat.le_of_ble_eq_true rfl, ⟨rfl, rfl, Nat.le_of_ble_eq_true rfl, trivial⟩⟩ rfl) fun a S => ?_
 refine lx_box S trivial (by decide) rfl H rfl rfl (fun b31 w32 H => ⟨trivial, fun a S => ?_⟩)
 refine lq (bp b31) S (q_assign rfl) fun a S => ?_
 refine lx_nil (thenN ?_)
 refine wp_seq (wp_seq (region_plain ?_))
 refine lq p0 S (q_move rfl) fun a S => ?_
 refine lq (.int .i64 (a0.length : Int)) S (q_lenSl rfl (h0).isSl rfl Try.underlying27) fun a S => ?_
 refine lq (.int .i64 (0 : Int)) S (q_move rfl) fun a S => ?_
 refine lx_nil (thenN ?_)
 obtain ⟨res127, hit128, hk131⟩ := bind_some hm
 obtain ⟨f129, hf130, hit128⟩ := iter_name hit128
 refine block_loop (fun a w => ∃ (x122 : Int) (x123 : Int) (x124 : Int) (x125 : Int) (x126 : Int), Slots a 37 [(5, (bp b31))] ∧ Heap w0 [bA b31 [p0, (.int .i64 a1), (.int .i64 x122), (.int .i64 x123), (.int .i64 x124), (.int .i64 x125), (.int .i64 x126)] 87] w ∧ res127 = .inl (x122, x123, x124, x125, x126)) ?_ ?_
 ·rintro a w ⟨x122, x123, x124, x125, x126, S, H, rfl⟩
  have hm := ctl_inl hk131
  refine thenN ?_
  refine wp_seq (region_plain ?_)
  refine lq (bp b31) S (q_move rfl) fun a S => ?_
  refine lq (bp b31) S (q_assign rfl) fun a S => ?_
  refine lx_nil (thenN ?_)
  refine wp_ret ?_
  obtain rfl := Option.some.inj hm
  have ho132 : Rd (rPtr Rimpl_measured) w (bp b31) (a0, a1, (x122, x123, x124, x125, x126)) := (rdPtr_box H 0 rfl ⟨[p0], [(.int .i64 a1), (.int .i64 x122), (.int .i64 x123), (.int .i64 x124), (.int .i64 x125), (.int .i64 x126)], rfl, ((H.arg h0)).list_rd, ⟨[(.int .i64 a1)], [(.int .i64 x122), (.int .i64 x123), (.int .i64 x124), (.int .i64 x125), (.int .i64 x126)], rfl, rfl, ⟨[(.int .i64 x122)], [(.int .i64 x123), (.int .i64 x124), (.int .i64 x125), (.int .i64 x126)], rfl, rfl, ⟨[(.int .i64 x123)], [(.int .i64 x124), (.int .i64 x125), (.int .i64 x126)], rfl, rfl, ⟨[(.int .i64 x124)], [(.int .i64 x125), (.int .i64 x126)], rfl, rfl, ⟨[(.int .i64 x125)], [(.int .i64 x126)], rfl, rfl, rfl⟩⟩⟩⟩⟩⟩)
  have H : Heap w0 [] w := H.sel [] (by decide)
  exact leave1 S rfl rfl ⟨(bp b31), rfl, ho132, H⟩
 ·skip
  refine loop_ghost (fun n a w => ∃ (x75 : Int) (x76 : Int) (x77 : Int) (x78 : Int) (x79 : Int) (x80 : Int), Slots a 37 [(1, (.int .i64 a1)), (5, (bp b31)), (12, p0), (13, (.int .i64 (a0.length : Int))), (14, (.int .i64 x80))] ∧ Heap w0 [bA b31 [p0, (.int .i64 a1), (.int .i64 x75), (.int .i64 x76), (.int .i64 x77), (.int .i64 x78), (.int .i64 x79)] 87] w ∧ iter f129 n (x75, x76, x77, x78, x79, x80) = some res127) _ ⟨(0 : Int), (0 : Int), (0 : Int), (0 : Int), (0 : Int), (0 : Int), S.sub ⟨rfl, rfl, rfl, rfl, rfl, trivial⟩, H, hit128⟩ ?_
  rintro n a w ⟨x75, x76, x77, x78, x79, x80, S, H, hit128⟩
  obtain ⟨m133, o134, rfl, hm, hc135⟩ := iter_step hit128
  rw [hf130] at hm
  refine wp_seq (region_plain ?_)
  refine lq (.bool (decide (x80 < (a0.length : Int)))) S (q_lss rfl rfl) fun a S => ?_
  refine lx_nil (thenN ?_)
  refine wp_seq ?_
  refine cond_b S rfl (fun hc136 => ?_) (fun hc136 => ?_)
  ·have hm := ite_t hc136 hm
   refine wp_skip (thenN ?_)
   obtain ⟨K142, hK143, hm⟩ := join_elim hm
   refine seq_cut (fun a w => ∃ (x137 : Int) (x138 : Int) (x139 : Int) (x140 : Int) (x141 : Int), Slots a 37 [(1, (.int .i64 a1)), (5, (bp b31)), (12, p0), (13, (.int .i64 (a0.length : Int))), (14, (.int .i64 x80))] ∧ Heap w0 [bA b31 [p0, (.int .i64 a1), (.int .i64 x137), (.int .i64 x138), (.int .i64 x139), (.int .i64 x140), (.int .i64 x141)] 87] w ∧ K142 x137 x138 x139 x140 x141 = some o134) ?_ ?_
   ·rintro a w ⟨x137, x138, x139, x140, x141, S, H, hm⟩
    subst hK143
    refine region_plain ?_
    refine lq (.int .i64 (W (x80 + (1 : Int)))) S (q_add rfl rfl) fun a S => ?_
    refine lq (.int .i64 (W (x80 + (1 : Int)))) S (q_move rfl) fun a S => ?_
    refine lx_nil ?_
    exact ⟨m133, Nat.lt_succ_self _, x137, x138, x139, x140, x141, (W (x80 + (1 : Int))), S.sub ⟨rfl, rfl, rfl, rfl, rfl, trivial⟩, H, it_cont hm hc135⟩
   ·skip
    refine wp_block ?_
    refine wp_seq (region_plain ?_)
    obtain ⟨x144, e145, hm⟩ := bind_some hm
    obtain ⟨c146, h147, hat148⟩ := (h0).elem (idx_some e145).2
    obtain ⟨c151, c152, rfl, h153, h154⟩ := h147
    obtain rfl := h153
    obtain ⟨c155, c156, rfl, h157, h158⟩ := h154
    obtain rfl := h157
    obtain ⟨v149, rfl, h150⟩ := rd_list h158
    have hlt := lt_of_idx (idx_some e145).2
    refine lq (ePtr p0 (x80.toNat * 3)) S (q_indexAddr rfl (h0).isSl rfl (idx_some e145).1 hlt Try.underlying27 Try.sizeOf53) fun a S => ?_
    refine lx_e (.agg #[(.int .i64 x144.1), (.int .i64 x144.2.1), v149]) S trivial (by decide) rfl trivial (q_loadA (cs := [(.int .i64 x144.1), (.int .i64 x144.2.1), v149]) rfl ((hat148 0 _ rfl).isP) Try.isAgg53 Try.sizeOf53 (by rintro _ rfl; exact (fun j u hu => (hat148 j u hu).ext H.ext))) (fun a S => ?_)
    refine lx_alloc S trivial (by decide) rfl H Try.zeroValue53 rfl (fun b159 w160 H => ⟨trivial, fun a S => ?_⟩)
    refine lx_storeBox (o := 0) (i := 0) (us := [(.int .i64 x144.1), (.int .i64 x144.2.1), v149]) (cs' := [(.int .i64 x144.1), (.int .i64 x144.2.1), v149]) S trivial rfl H rfl rfl rfl rfl Try.sizeOf53 (Nat.le_of_ble_eq_true rfl) (List.forall_mem_cons.2 ⟨rfl, (List.forall_mem_cons.2 ⟨rfl, (List.forall_mem_cons.2 ⟨one_sl (h150).isSl, (List.forall_mem_nil _)⟩)⟩)⟩) rfl (fun w162 H => ⟨trivial, fun a S => ?_⟩)
    change Heap w0 [bA b159 [(.int .i64 x144.1), (.int .i64 x144.2.1), v149] 53, bA b31 [p0, (.int .i64 a1), (.int .i64 x75), (.int .i64 x76), (.int .i64 x77), (.int .i64 x78), (.int .i64 x79)] 87] w162 at H
    refine lx_nil (thenN ?_)
    refine wp_seq (region_plain ?_)
    refine lq (pAdd (bp b159) 1) S (q_fieldAddr' 1 2 rfl (isP_bp _) Try.underlying53 rfl Try.sizeOf2) fun a S => ?_
    refine lx_e (.int .i64 x144.2.1) S trivial (by decide) rfl trivial (q_load1 rfl Try.isAgg2 (by rintro _ rfl; exact (At.of_add (m := 1) (j := 0) (boxAt (i := 0) H rfl (j := 1) rfl)))) (fun a S => ?_)
    refine lq (.int .i64 (x144.2.1.tmod (2 : Int))) S (q_rem rfl rfl (show (2 : Int) ≠ 0 from by decide)) fun a S => ?_
    refine lq (.int .i64 a1) S (q_move rfl) fun a S => ?_
    refine lq (.bool ((x144.2.1.tmod (2 : Int)) != a1)) S (q_neq rfl rfl) fun a S => ?_
    refine lx_nil (thenN ?_)
    refine cond_b S rfl (fun hc163 => ?_) (fun hc163 => ?_)
    ·have hm := ite_t hc163 hm
     refine region_drawG (fun w1 => Heap w0 [bA b159 [(.int .i64 x144.1), (.int .i64 x144.2.1), v149] 53] w1) (fun i => [7, 12].contains i) mixed (by kernel_rfl) (fun w165 he164 => ?_)
     have H := H.later he164
     refine ⟨H.sel [0] (by decide), ?_⟩
     refine lq (bp b31) S (q_move rfl) fun a S => ?_
     refine lq (pAdd (bp b159) 1) S (q_fieldAddr' 1 2 rfl (isP_bp _) Try.underlying53 rfl Try.sizeOf2) fun a S => ?_
     refine lq (.int .i64 x144.2.1) S (q_load1 rfl Try.isAgg2 (fun w1 hC => (At.of_add (m := 1) (j := 0) (boxAt (i := 0) hC rfl (j := 1) rfl)))) fun a S => ?_
     refine lq (.int .i64 (W (x144.2.1.tdiv (2 : Int)))) S (q_quo rfl rfl (show (2 : Int) ≠ 0 from by decide)) fun a S => ?_
     refine lq (bp b31) S (q_nilCheck rfl (isP_bp _)) fun a S => ?_
     refine lq (pAdd (bp b31) 2) S (q_fieldAddr' 2 85 rfl (isP_bp _) Try.underlying87 rfl Try.sizeOf85) fun a S => ?_
     obtain ⟨x166, e167, hm⟩ := bind_some hm
     refine lq (pAdd (pAdd (bp b31) 2) ((W (x144.2.1.tdiv (2 : Int))).toNat * 1)) S (q_indexArr rfl ((isP_bp _).add 2) rfl (idx_some e167).1 (lt_of_idx (idx_some e167).2) Try.underlying85 Try.sizeOf2) fun a S => ?_
     refine lx_e (.int .i64 x166) S trivial (by decide) rfl (H.sel [0] (by decide)) (q_load1 rfl Try.isAgg2 (by rintro _ rfl; exact (at_idx (At.of_add (m := 2) (j := (W (x144.2.1.tdiv (2 : Int))).toNat) (boxAt (i := 1) H rfl (j := 2 + (W (x144.2.1.tdiv (2 : Int))).toNat) (arr_at (ms := [x75, x76, x77, x78, x79]) rfl (idx_some e167).2)))))) (fun a S => ?_)
     refine lq (.int .i64 (W (x166 + (1 : Int)))) S (q_add rfl rfl) fun a S => ?_
     refine lq (bp b31) S (q_nilCheck rfl (isP_bp _)) fun a S => ?_
     refine lq (pAdd (bp b31) 2) S (q_fieldAddr' 2 85 rfl (isP_bp _) Try.underlying87 rfl Try.sizeOf85) fun a S => ?_
     obtain ⟨x168, e169, hm⟩ := bind_some hm
     refine lq (pAdd (pAdd (bp b31) 2) ((W (x144.2.1.tdiv (2 : Int))).toNat * 1)) S (q_indexArr rfl ((isP_bp _).add 2) rfl (idx_some e169).1 (lt_of_idx (idx_some e169).2) Try.underlying85 Try.sizeOf2) fun a S => ?_
     refine lx_storeBox (o := 2 + (W (x144.2.1.tdiv (2 : Int))).toNat * 1) (i := 1) (us := [(.int .i64 (W (x166 + (1 : Int))))]) (cs' := [p0, (.int .i64 a1), (.int .i64 (if (W (x144.2.1.tdiv (2 : Int))).toNat = 0 then (W (x166 + (1 : Int))) else x75)), (.int .i64 (if (W (x144.2.1.tdiv (2 : Int))).toNat = 1 then (W (x166 + (1 : Int))) else x76)), (.int .i64 (if (W (x144.2.1.tdiv (2 : Int))).toNat = 2 then (W (x166 + (1 : Int))) else x77)), (.int .i64 (if (W (x144.2.1.tdiv (2 : Int))).toNat = 3 then (W (x166 + (1 : Int))) else x78)), (.int .i64 (if (W (x144.2.1.tdiv (2 : Int))).toNat = 4 then (W (x166 + (1 : Int))) else x79))]) S trivial rfl H rfl (ev_pp rfl) rfl rfl Try.sizeOf2 (by have h5 : (W (x144.2.1.tdiv (2 : Int))).toNat < 5 := lt_of_idx (idx_some e169).2; show 2 + (W (x144.2.1.tdiv (2 : Int))).toNat * 1 + 1 ≤ 7; omega) (List.forall_mem_cons.2 ⟨rfl, (List.forall_mem_nil _)⟩) (by rcases five (lt_of_idx (idx_some e169).2) with h | h | h | h | h <;> rw [h] <;> rfl) (fun w170 H => ⟨H.sel [0] (by decide), fun a S => ?_⟩)
     change Heap w0 [bA b159 [(.int .i64 x144.1), (.int .i64 x144.2.1), v149] 53, bA b31 [p0, (.int .i64 a1), (.int .i64 (if (W (x144.2.1.tdiv (2 : Int))).toNat = 0 then (W (x166 + (1 : Int))) else x75)), (.int .i64 (if (W (x144.2.1.tdiv (2 : Int))).toNat = 1 then (W (x166 + (1 : Int))) else x76)), (.int .i64 (if (W (x144.2.1.tdiv (2 : Int))).toNat = 2 then (W (x166 + (1 : Int))) else x77)), (.int .i64 (if (W (x144.2.1.tdiv (2 : Int))).toNat = 3 then (W (x166 + (1 : Int))) else x78)), (.int .i64 (if (W (x144.2.1.tdiv (2 : Int))).toNat = 4 then (W (x166 + (1 : Int))) else x79))] 87] w170 at H
     refine lx_nil ?_
     refine inBlock_norm ?_
     have H : Heap w0 [bA b31 [p0, (.int .i64 a1), (.int .i64 (if (W (x144.2.1.tdiv (2 : Int))).toNat = 0 then (W (x166 + (1 : Int))) else x75)), (.int .i64 (if (W (x144.2.1.tdiv (2 : Int))).toNat = 1 then (W (x166 + (1 : Int))) else x76)), (.int .i64 (if (W (x144.2.1.tdiv (2 : Int))).toNat = 2 then (W (x166 + (1 : Int))) else x77)), (.int .i64 (if (W (x144.2.1.tdiv (2 : Int))).toNat = 3 then (W (x166 + (1 : Int))) else x78)), (.int .i64 (if (W (x144.2.1.tdiv (2 : Int))).toNat = 4 then (W (x166 + (1 : Int))) else x79))] 87] w170 := H.sel [1] (by decide)
     exact ⟨(if (W (x144.2.1.tdiv (2 : Int))).toNat = 0 then (W (x166 + (1 : Int))) else x75), (if (W (x144.2.1.tdiv (2 : Int))).toNat = 1 then (W (x166 + (1 : Int))) else x76), (if (W (x144.2.1.tdiv (2 : Int))).toNat = 2 then (W (x166 + (1 : Int))) else x77), (if (W (x144.2.1.tdiv (2 : Int))).toNat = 3 then (W (x166 + (1 : Int))) else x78), (if (W (x144.2.1.tdiv (2 : Int))).toNat = 4 then (W (x166 + (1 : Int))) else x79), S.sub ⟨rfl, rfl, rfl, rfl, rfl, trivial⟩, H, hm⟩
    ·have hm := ite_f hc163 hm
     refine wp_skip ?_
     refine inBlock_norm ?_
     have H : Heap w0 [bA b31 [p0, (.int .i64 a1), (.int .i64 x75), (.int .i64 x76), (.int .i64 x77), (.int .i64 x78), (.int .i64 x79)] 87] w162 := H.sel [1] (by decide)
     exact ⟨x75, x76, x77, x78, x79, S.sub ⟨rfl, rfl, rfl, rfl, rfl, trivial⟩, H, hm⟩
  ·have hm := ite_f hc136 hm
   refine wp_exit ?_
   refine then_exit ?_
   refine then_exit ?_
   refine inBlock_exit ?_
   obtain rfl := it_brk hm hc135
   exact ⟨x75, x76, x77, x78, x79, S.sub ⟨rfl, trivial⟩, H, rfl⟩

/-- (*impl.measured).bad -/
def Pimpl_measured_bad_m (_ : Nat) (a0 : Timpl_measured) (a1 : Int) : Option (Int) :=
  some ((W ((W ((W ((2 : Int) * a1)) + (1 : Int))) - a0.2.1)))
set_option maxRecDepth 20000 in
theorem Pimpl_measured_bad_ok [dr : Dr] {w0 : World} {fuel : Nat} {p0 : Value} {a0 : Timpl_measured} {a1 : Int} {r : Int} (h0 : Rd (rPtr Rimpl_measured) w0 p0 a0) (hm : Pimpl_measured_bad_m fuel a0 a1 = some r) :
  Calls Try.prog 86 #[p0, .int .i64 a1] w0 fun e w => e = .returned (.int .i64 r) ∧ Heap w0 [] w := by
 unfold Pimpl_measured_bad_m at hm
 have H := Heap.start w0
 obtain ⟨c31, h32, hat33⟩ := h0.ptr
 obtain ⟨c36, c37, rfl, h38, h39⟩ := h32
 obtain ⟨v34, rfl, h35⟩ := rd_list h38
 obtain ⟨c40, c41, rfl, h42, h43⟩ := h39
 obtain rfl := h42
 obtain ⟨c44, c45, rfl, h46, h47⟩ := h43
 obtain rfl := h46
 obtain ⟨c48, c49, rfl, h50, h51⟩ := h47
 obtain rfl := h50
 obtain ⟨c52, c53, rfl, h54, h55⟩ := h51
 obtain rfl := h54
 obtain ⟨c56, c57, rfl, h58, h59⟩ := h55
 obtain rfl := h58
 obtain rfl := h59
 refine enter (args := [p0, .int .i64 a1]) Try.func86 rfl 13 rfl (Nat.le_of_ble_eq_true rfl) (fun a S => ?_)
 refine wp_seq (region_plain ?_)
 refine lq (.int .i64 (0 : Int)) S (q_assign rfl) fun a S => ?_
 refine lx_nil (thenN ?_)
 refine wp_seq (region_plain ?_)
 refine lq (.int .i64 a1) S (q_move rfl) fun a S => ?_
 refine lq (.int .i64 (W ((2 : Int) * a1))) S (q_mul rfl rfl) fun a S => ?_
 refine lq (.int .i64 (W ((W ((2 : Int) * a1)) + (1 : Int)))) S (q_add rfl rfl) fun a S => ?_
 refine lq p0 S (q_move rfl) fun a S => ?_
 refine lq p0 S (q_nilCheck rfl ((hat33 0 _ rfl).isP)) fun a S => ?_
 refine lq (pAdd p0 1) S (q_fieldAddr' 1 2 rfl ((hat33 0 _ rfl).isP) Try.underlying87 rfl Try.sizeOf2) fun a S => ?_
 refine lx_e (.int .i64 a0.2.1) S trivial (by decide) rfl trivial (q_load1 rfl Try.isAgg2 (by rintro _ rfl; exact (At.of_add (m := 1) (j := 0) ((hat33 1 _ rfl).ext H.ext)))) (fun a S => ?_)
 refine lq (.int .i64 (W ((W ((W ((2 : Int) * a1)) + (1 : Int))) - a0.2.1))) S (q_sub rfl rfl) fun a S => ?_
 refine lq (.int .i64 (W ((W ((W ((2 : Int) * a1)) + (1 : Int))) - a0.2.1))) S (q_assign rfl) fun a S => ?_
 refine lx_nil (thenN ?_)
 refine wp_ret ?_
 obtain rfl := Option.some.inj hm
 exact leave1 S rfl rfl ⟨rfl, H⟩

/-- (*impl.measured).upTo -/
def Pimpl_measured_upTo_m (fuel : Nat) (a0 : Timpl_measured) (a1 : Int) : Option (Int) :=
  (iter (fun (s : (Int)) => (match s with | (x70) => (if (decide (x70 < (5 : Int))) = true then (Pimpl_measured_bad_m fuel a0 x70).bind fun x95 => some (decide (x95 ≤ a1)) else some false).bind fun t90 => (if t90 = true then some (.inl ((W (x70 + (1 : Int))))) else some (.inr (.inl (x70)))) : Option (((Int)) ⊕ ((Int) ⊕ (Int))))) fuel ((0 : Int))).bind fun res82 => ctl (β := Int) (ρ := Int) (τ := Int) res82 (fun (x81) => some (x81)) (fun q => some (q))
set_option maxRecDepth 20000 in
theorem Pimpl_measured_upTo_ok [dr : Dr] {w0 : World} {fuel : Nat} {p0 : Value} {a0 : Timpl_measured} {a1 : Int} {r : Int} (h0 : Rd (rPtr Rimpl_measured) w0 p0 a0) (hm : Pimpl_measured_upTo_m fuel a0 a1 = some r) :
  Calls Try.prog 68 #[p0, .int .i64 a1] w0 fun e w => e = .returned (.int .i64 r) ∧ Heap w0 [] w := by
 unfold Pimpl_measured_upTo_m at hm
 have H := Heap.start w0
 obtain ⟨c31, h32, hat33⟩ := h0.ptr
 obtain ⟨c36, c37, rfl, h38, h39⟩ := h32
 obtain ⟨v34, rfl, h35⟩ := rd_list h38
 obtain ⟨c40, c41, rfl, h42, h43⟩ := h39
 obtain rfl := h42
 obtain ⟨c44, c45, rfl, h46, h47⟩ := h43
 obtain rfl := h46
 obtain ⟨c48, c49, rfl, h50, h51⟩ := h47
 obtain rfl := h50
 obtain ⟨c52, c53, rfl, h54, h55⟩ := h51
 obtain rfl := h54
 obtain ⟨c56, c57, rfl, h58, h59⟩ := h55
 obtain rfl := h58
 obtain rfl := h59
 refine enter (args := [p0, .int .i64 a1]) Try.func68 rfl 18 rfl (Nat.le_of_ble_eq_true rfl) (fun a S => ?_)
 refine wp_seq (region_plain ?_)
 refine lq (.int .i64 (0 : Int)) S (q_assign rfl) fun a S => ?_
 refine lx_nil (thenN ?_)
 refine wp_seq (region_plain ?_)
 refine lq (.int .i64 (0 : Int)) S (q_assign rfl) fun a S => ?_
 refine lx_nil (thenN ?_)
 refine wp_seq ?_
 obtain ⟨res82, hit83, hk86⟩ := bind_some hm
 obtain ⟨f84, hf85, hit83⟩ := iter_name hit83
 refine block_loop (fun a w => ∃ (x81 : Int), Slots a 18 [(5, (.int .i64 x81))] ∧ Heap w0 [] w ∧ res82 = .inl (x81)) ?_ ?_
 ·rintro a w ⟨x81, S, H, rfl⟩
  have hm := ctl_inl hk86
  refine thenN ?_
  refine wp_seq (region_plain ?_)
  refine lq (.int .i64 x81) S (q_move rfl) fun a S => ?_
  refine lq (.int .i64 x81) S (q_assign rfl) fun a S => ?_
  refine lx_nil (thenN ?_)
  refine wp_ret ?_
  obtain rfl := Option.some.inj hm
  exact leave1 S rfl rfl ⟨rfl, H⟩
 ·skip
  refine loop_ghost (fun n a w => ∃ (x70 : Int), Slots a 18 [(0, p0), (1, (.int .i64 a1)), (5, (.int .i64 x70))] ∧ Heap w0 [] w ∧ iter f84 n (x70) = some res82) _ ⟨(0 : Int), S.sub ⟨rfl, rfl, rfl, trivial⟩, H, hit83⟩ ?_
  rintro n a w ⟨x70, S, H, hit83⟩
  obtain ⟨m87, o88, rfl, hm, hc89⟩ := iter_step hit83
  rw [hf85] at hm
  refine wp_seq (wp_seq (region_plain ?_))
  refine lq (.int .i64 x70) S (q_move rfl) fun a S => ?_
  refine lq (.bool (decide (x70 < (5 : Int)))) S (q_lss rfl rfl) fun a S => ?_
  refine lq (.bool (decide (x70 < (5 : Int)))) S (q_move rfl) fun a S => ?_
  obtain ⟨t90, e91, hm⟩ := bind_some hm
  refine lx_cut 6 (fun a w => Slots a 18 [(0, p0), (1, (.int .i64 a1)), (5, (.int .i64 x70)), (14, (.bool t90))] ∧ Heap w0 [] w) ?_ ?_
  ·by_cases hc92 : (decide (x70 < (5 : Int))) = true
   ·have hm := ite_t hc92 e91
    refine lx_q p0 S (want_b rfl rfl hc92) (by decide) (q_move rfl) (fun a S => ?_)
    refine lx_q (.int .i64 x70) S (want_b rfl rfl hc92) (by decide) (q_move rfl) (fun a S => ?_)
    obtain ⟨x95, e96, hm⟩ := bind_some hm
    refine lx_call (xs := [.tmp 9, .tmp 10]) S (want_b rfl rfl hc92) (by decide) rfl rfl Try.call86 ((Pimpl_measured_bad_ok (H.arg h0)  e96).mono ?_)
    rintro e w93 ⟨rfl, Hc94⟩
    have H := H.call0 Hc94
    refine ⟨_, rfl, trivial, fun a S => ?_⟩
    refine lx_q (.int .i64 a1) S (want_b rfl rfl hc92) (by decide) (q_move rfl) (fun a S => ?_)
    refine lx_q (.bool (decide (x95 ≤ a1))) S (want_b rfl rfl hc92) (by decide) (q_leq rfl rfl) (fun a S => ?_)
    refine lq (.bool (decide (x95 ≤ a1))) S (q_pickT' rfl hc92 rfl) fun a S => ?_
    refine lx_nil ?_
    obtain rfl := Option.some.inj hm
    exact ⟨S.sub ⟨rfl, rfl, rfl, rfl, trivial⟩, H⟩
   ·have hm := ite_f (eq_false_of_ne_true hc92) e91
    have hc92 : (decide (x70 < (5 : Int))) = false := eq_false_of_ne_true hc92
    refine lx_skip S rfl rfl (isB_ne hc92) (by decide) (fun a S => ?_)
    refine lx_skip S rfl rfl (isB_ne hc92) (by decide) (fun a S => ?_)
    refine lx_skip S rfl rfl (isB_ne hc92) (by decide) (fun a S => ?_)
    refine lx_skip S rfl rfl (isB_ne hc92) (by decide) (fun a S => ?_)
    refine lx_skip S rfl rfl (isB_ne hc92) (by decide) (fun a S => ?_)
    refine lq (.bool false) S (q_pickF' rfl hc92 rfl) fun a S => ?_
    refine lx_nil ?_
    obtain rfl := Option.some.inj hm
    exact ⟨S.sub ⟨rfl, rfl, rfl, rfl, trivial⟩, H⟩
  ·rintro a w ⟨S, H⟩
   refine lx_nil (thenN ?_)
   refine cond_b S rfl (fun hc98 => ?_) (fun hc98 => ?_)
   ·have hm := ite_t hc98 hm
    refine wp_skip (thenN ?_)
    refine wp_block ?_
    refine region_plain ?_
    refine lq (.int .i64 x70) S (q_move rfl) fun a S => ?_
    refine lq (.int .i64 (W (x70 + (1 : Int)))) S (q_add rfl rfl) fun a S => ?_
    refine lq (.int .i64 (W (x70 + (1 : Int)))) S (q_assign rfl) fun a S => ?_
    refine lx_nil ?_
    refine inBlock_norm ?_
    exact ⟨m87, Nat.lt_succ_self _, (W (x70 + (1 : Int))), S.sub ⟨rfl, rfl, rfl, trivial⟩, H, it_cont hm hc89⟩
   ·have hm := ite_f hc98 hm
    refine wp_exit ?_
    refine then_exit ?_
    refine then_exit ?_
    refine inBlock_exit ?_
    obtain rfl := it_brk hm hc89
    exact ⟨x70, S.sub ⟨rfl, trivial⟩, H, rfl⟩

/-- slices.Compare[[]int64,int64] -/
def slices_Compare__int64_int64_m (fuel : Nat) (a0 : (List Int)) (a1 : (List Int)) : Option (Int) :=
  (iter (fun (s : (Int)) => (match s with | (x50) => (if (decide (x50 < (a0.length : Int))) = true then (idx a0 x50).bind fun x80 => (if (decide ((a1.length : Int) ≤ x50)) = true then some (.inr (.inr (1 : Int))) else (idx a1 x50).bind fun x86 => (cmp_Compare_int64_m fuel x80 x86).bind fun x93 => (if (x93 != (0 : Int)) = true then some (.inr (.inr x93)) else some (.inl ((W (x50 + (1 : Int))))))) else some (.inr (.inl ()))) : Option (((Int)) ⊕ ((Unit) ⊕ (Int))))) fuel ((0 : Int))).bind fun res70 => ctl (β := Unit) (ρ := Int) (τ := Int) res70 (fun _ => (if (decide ((a0.length : Int) < (a1.length : Int))) = true then some ((-1 : Int)) else some ((0 : Int)))) (fun q => some (q))
set_option maxRecDepth 20000 in
theorem slices_Compare__int64_int64_ok [dr : Dr] {w0 : World} {fuel : Nat} {p0 p1 : Value} {a0 : (List Int)} {a1 : (List Int)} {r : Int} (h0 : Rd (rList (rInt .i64)) w0 p0 a0) (h1 : Rd (rList (rInt .i64)) w0 p1 a1) (hm : slices_Compare__int64_int64_m fuel a0 a1 = some r) :
  Calls Try.prog 69 #[p0, p1] w0 fun e w => e = .returned (.int .i64 r) ∧ Heap w0 [] w := by
 unfold slices_Compare__int64_int64_m at hm
 have H := Heap.start w0
 refine enter (args := [p0, p1]) Try.func69 rfl 36 rfl (Nat.le_of_ble_eq_true rfl) (fun a S => ?_)
 refine wp_seq (region_plain ?_)
 refine lq (.int .i64 (0 : Int)) S (q_assign rfl) fun a S => ?_
 refine lx_nil (thenN ?_)
 refine wp_seq (wp_seq (region_plain ?_))
 refine lq p0 S (q_move rfl) fun a S => ?_
 refine lq (.int .i64 (a0.length : Int)) S (q_lenSl rfl (h0).isSl rfl Try.underlying38) fun a S => ?_
 refine lq (.int .i64 (0 : Int)) S (q_move rfl) fun a S => ?_
 refine lx_nil (thenN ?_)
 obtain ⟨res70, hit71, hk74⟩ := bind_some hm
 obtain ⟨f72, hf73, hit71⟩ := iter_name hit71
 refine block_loop (fun a w => Slots a 36 [(0, p0), (1, p1)] ∧ Heap w0 [] w ∧ res70 = .inl ()) ?_ ?_
 ·rintro a w ⟨S, H, rfl⟩
  have hm := ctl_inl hk74
  refine thenN ?_
  refine wp_seq (wp_seq (region_plain ?_))
  refine lq p0 S (q_move rfl) fun a S => ?_
  refine lq (.int .i64 (a0.length : Int)) S (q_lenSl rfl (h0).isSl rfl Try.underlying38) fun a S => ?_
  refine lq p1 S (q_move rfl) fun a S => ?_
  refine lq (.int .i64 (a1.length : Int)) S (q_lenSl rfl (h1).isSl rfl Try.underlying38) fun a S => ?_
  refine lq (.bool (decide ((a0.length : Int) < (a1.length : Int)))) S (q_lss rfl rfl) fun a S => ?_
  refine lx_nil (thenN ?_)
  refine cond_b S rfl (fun hc75 => ?_) (fun hc75 => ?_)
  ·have hm := ite_t hc75 hm
   refine wp_seq (region_plain ?_)
   refine lq (.int .i64 (-1 : Int)) S (q_assign rfl) fun a S => ?_
   refine lx_nil (thenN ?_)
   refine wp_ret (then_ret ?_)
   obtain rfl := Option.some.inj hm
   exact leave1 S rfl rfl ⟨rfl, H⟩
  ·have hm := ite_f hc75 hm
   refine wp_skip (thenN ?_)
   refine wp_seq (region_plain ?_)
   refine lq (.int .i64 (0 : Int)) S (q_assign rfl) fun a S => ?_
   refine lx_nil (thenN ?_)
   refine wp_ret ?_
   obtain rfl := Option.some.inj hm
   exact leave1 S rfl rfl ⟨rfl, H⟩
 ·skip
  refine loop_ghost (fun n a w => ∃ (x50 : Int), Slots a 36 [(0, p0), (1, p1), (9, p0), (10, (.int .i64 (a0.length : Int))), (11, (.int .i64 x50))] ∧ Heap w0 [] w ∧ iter f72 n (x50) = some res70) _ ⟨(0 : Int), S.sub ⟨rfl, rfl, rfl, rfl, rfl, trivial⟩, H, hit71⟩ ?_
  rintro n a w ⟨x50, S, H, hit71⟩
  obtain ⟨m76, o77, rfl, hm, hc78⟩ := iter_step hit71
  rw [hf73] at hm
  refine wp_seq (region_plain ?_)
  refine lq (.bool (decide (x50 < (a0.length : Int)))) S (q_lss rfl rfl) fun a S => ?_
  refine lx_nil (thenN ?_)
  refine wp_seq ?_
  refine cond_b S rfl (fun hc79 => ?_) (fun hc79 => ?_)
  ·have hm := ite_t hc79 hm
   refine wp_skip (thenN ?_)
   refine wp_seq ?_
   refine wp_block ?_
   refine wp_seq (region_plain ?_)
   refine lq (.int .i64 x50) S (q_move rfl) fun a S => ?_
   obtain ⟨x80, e81, hm⟩ := bind_some hm
   obtain ⟨c82, h83, hat84⟩ := (h0).elem (idx_some e81).2
   obtain rfl := h83
   have hlt := lt_of_idx (idx_some e81).2
   refine lq (ePtr p0 (x50.toNat * 1)) S (q_indexAddr rfl (h0).isSl rfl (idx_some e81).1 hlt Try.underlying38 Try.sizeOf2) fun a S => ?_
   refine lx_e (.int .i64 x80) S trivial (by decide) rfl trivial (q_load1 rfl Try.isAgg2 (by rintro _ rfl; exact ((hat84 0 _ rfl).ext H.ext))) (fun a S => ?_)
   refine lq (.int .i64 x50) S (q_assign rfl) fun a S => ?_
   refine lq (.int .i64 x80) S (q_assign rfl) fun a S => ?_
   refine lx_nil (thenN ?_)
   refine wp_seq (wp_seq (region_plain ?_))
   refine lq (.int .i64 x50) S (q_move rfl) fun a S => ?_
   refine lq p1 S (q_move rfl) fun a S => ?_
   refine lq (.int .i64 (a1.length : Int)) S (q_lenSl rfl (h1).isSl rfl Try.underlying38) fun a S => ?_
   refine lq (.bool (decide ((a1.length : Int) ≤ x50))) S (q_geq rfl rfl) fun a S => ?_
   refine lx_nil (thenN ?_)
   refine cond_b S rfl (fun hc85 => ?_) (fun hc85 => ?_)
   ·have hm := ite_t hc85 hm
    refine wp_seq (region_plain ?_)
    refine lq (.int .i64 (1 : Int)) S (q_assign rfl) fun a S => ?_
    refine lx_nil (thenN ?_)
    refine wp_ret (then_ret ?_)
    refine inBlock_ret ?_
    refine then_ret ?_
    refine then_ret ?_
    refine inBlock_ret ?_
    refine then_ret ?_
    refine then_ret ?_
    obtain rfl := it_brk hm hc78
    have hm := ctl_inr hk74
    obtain rfl := Option.some.inj hm
    exact leave1 S rfl rfl ⟨rfl, H⟩
   ·have hm := ite_f hc85 hm
    refine wp_skip (thenN ?_)
    refine wp_seq (region_plain ?_)
    refine lq p1 S (q_move rfl) fun a S => ?_
    refine lq (.int .i64 x50) S (q_move rfl) fun a S => ?_
    obtain ⟨x86, e87, hm⟩ := bind_some hm
    obtain ⟨c88, h89, hat90⟩ := (h1).elem (idx_some e87).2
    obtain rfl := h89
    have hlt := lt_of_idx (idx_some e87).2
    refine lq (ePtr p1 (x50.toNat * 1)) S (q_indexAddr rfl (h1).isSl rfl (idx_some e87).1 hlt Try.underlying38 Try.sizeOf2) fun a S => ?_
    refine lx_e (.int .i64 x86) S trivial (by decide) rfl trivial (q_load1 rfl Try.isAgg2 (by rintro _ rfl; exact ((hat90 0 _ rfl).ext H.ext))) (fun a S => ?_)
    refine lq (.int .i64 x86) S (q_assign rfl) fun a S => ?_
    refine lx_nil (thenN ?_)
    refine wp_seq (region_plain ?_)
    refine lq (.int .i64 x80) S (q_move rfl) fun a S => ?_
    refine lq (.int .i64 x86) S (q_move rfl) fun a S => ?_
    obtain ⟨x93, e94, hm⟩ := bind_some hm
    refine lx_call (xs := [.tmp 24, .tmp 25]) S trivial (by decide) rfl rfl Try.call56 ((cmp_Compare_int64_ok   e94).mono ?_)
    rintro e w91 ⟨rfl, Hc92⟩
    have H := H.call0 Hc92
    refine ⟨_, rfl, trivial, fun a S => ?_⟩
    refine lq (.int .i64 x93) S (q_assign rfl) fun a S => ?_
    refine lx_nil (thenN ?_)
    refine wp_seq (region_plain ?_)
    refine lq (.int .i64 x93) S (q_move rfl) fun a S => ?_
    refine lq (.bool (x93 != (0 : Int))) S (q_neq rfl rfl) fun a S => ?_
    refine lx_nil (thenN ?_)
    refine cond_b S rfl (fun hc96 => ?_) (fun hc96 => ?_)
    ·have hm := ite_t hc96 hm
     refine wp_seq (region_plain ?_)
     refine lq (.int .i64 x93) S (q_move rfl) fun a S => ?_
     refine lq (.int .i64 x93) S (q_assign rfl) fun a S => ?_
     refine lx_nil (thenN ?_)
     refine wp_ret (inBlock_ret ?_)
     refine then_ret ?_
     refine then_ret ?_
     refine inBlock_ret ?_
     refine then_ret ?_
     refine then_ret ?_
     obtain rfl := it_brk hm hc78
     have hm := ctl_inr hk74
     obtain rfl := Option.some.inj hm
     exact leave1 S rfl rfl ⟨rfl, H⟩
    ·have hm := ite_f hc96 hm
     refine wp_skip ?_
     refine inBlock_norm ?_
     refine thenN ?_
     refine region_plain ?_
     refine lq (.int .i64 (W (x50 + (1 : Int)))) S (q_add rfl rfl) fun a S => ?_
     refine lq (.int .i64 (W (x50 + (1 : Int)))) S (q_move rfl) fun a S => ?_
     refine lx_nil ?_
     exact ⟨m76, Nat.lt_succ_self _, (W (x50 + (1 : Int))), S.sub ⟨rfl, rfl, rfl, rfl, rfl, trivial⟩, H, it_cont hm hc78⟩
  ·have hm := ite_f hc79 hm
   refine wp_exit ?_
   refine then_exit ?_
   refine then_exit ?_
   refine inBlock_exit ?_
   obtain rfl := it_brk hm hc78
   exact ⟨S.sub ⟨rfl, rfl, trivial⟩, H, rfl⟩

/-- laws.eqInt64SS -/
def laws_eqInt64SS_m (fuel : Nat) (a0 : (List (List Int))) (a1 : (List (List Int))) : Option (Bool) :=
  (if ((a0.length : Int) != (a1.length : Int)) = true then some (false) else (iter (fun (s : (Int)) => (match s with | (x56) => (if (decide (x56 < (a0.length : Int))) = true then (idx a0 x56).bind fun x92 => (idx a1 x56).bind fun x99 => (laws_eqInt64S_m fuel x92 x99).bind fun x108 => (if (!x108) = true then some (.inr (.inr false)) else some (.inl ((W (x56 + (1 : Int)))))) else some (.inr (.inl ()))) : Option (((Int)) ⊕ ((Unit) ⊕ (Bool))))) fuel ((0 : Int))).bind fun res81 => ctl (β := Unit) (ρ := Bool) (τ := Bool) res81 (fun _ => some (true)) (fun q => some (q)))
set_option maxRecDepth 20000 in
theorem laws_eqInt64SS_ok [dr : Dr] {w0 : World} {fuel : Nat} {p0 p1 : Value} {a0 : (List (List Int))} {a1 : (List (List Int))} {r : Bool} (h0 : Rd (rList (rList (rInt .i64))) w0 p0 a0) (h1 : Rd (rList (rList (rInt .i64))) w0 p1 a1) (hm : laws_eqInt64SS_m fuel a0 a1 = some r) :
  Calls Try.prog 13 #[p0, p1] w0 fun e w => e = .returned (.bool r) ∧ Heap w0 [] w := by
 unfold laws_eqInt64SS_m at hm
 have H := Heap.start w0
 refine enter (args := [p0, p1]) Try.func13 rfl 27 rfl (Nat.le_of_ble_eq_true rfl) (fun a S => ?_)
 refine wp_seq (region_plain ?_)
 refine lq (.bool false) S (q_assign rfl) fun a S => ?_
 refine lx_nil (thenN ?_)
 refine wp_seq (wp_seq (region_plain ?_))
 refine lq p0 S (q_move rfl) fun a S => ?_
 refine lq (.int .i64 (a0.length : Int)) S (q_lenSl rfl (h0).isSl rfl Try.underlying23) fun a S => ?_
 refine lq p1 S (q_move rfl) fun a S => ?_
 refine lq (.int .i64 (a1.length : Int)) S (q_lenSl rfl (h1).isSl rfl Try.underlying23) fun a S => ?_
 refine lq (.bool ((a0.length : Int) != (a1.length : Int))) S (q_neq rfl rfl) fun a S => ?_
 refine lx_nil (thenN ?_)
 refine cond_b S rfl (fun hc31 => ?_) (fun hc31 => ?_)
 ·have hm := ite_t hc31 hm
  refine wp_seq (region_plain ?_)
  refine lq (.bool false) S (q_assign rfl) fun a S => ?_
  refine lx_nil (thenN ?_)
  refine wp_ret (then_ret ?_)
  obtain rfl := Option.some.inj hm
  exact leave1 S rfl rfl ⟨rfl, H⟩
 ·have hm := ite_f hc31 hm
  refine wp_skip (thenN ?_)
  refine wp_seq (wp_seq (region_plain ?_))
  refine lq (.int .i64 (0 : Int)) S (q_assign rfl) fun a S => ?_
  refine lx_nil (thenN ?_)
  obtain ⟨res81, hit82, hk85⟩ := bind_some hm
  obtain ⟨f83, hf84, hit82⟩ := iter_name hit82
  refine block_loop (fun a w => Slots a 27 [] ∧ Heap w0 [] w ∧ res81 = .inl ()) ?_ ?_
  ·rintro a w ⟨S, H, rfl⟩
   have hm := ctl_inl hk85
   refine thenN ?_
   refine wp_seq (region_plain ?_)
   refine lq (.bool true) S (q_assign rfl) fun a S => ?_
   refine lx_nil (thenN ?_)
   refine wp_ret ?_
   obtain rfl := Option.some.inj hm
   exact leave1 S rfl rfl ⟨rfl, H⟩
  ·skip
   refine loop_ghost (fun n a w => ∃ (x56 : Int), Slots a 27 [(0, p0), (1, p1), (5, (.int .i64 x56))] ∧ Heap w0 [] w ∧ iter f83 n (x56) = some res81) _ ⟨(0 : Int), S.sub ⟨rfl, rfl, rfl, trivial⟩, H, hit82⟩ ?_
   rintro n a w ⟨x56, S, H, hit82⟩
   obtain ⟨m86, o87, rfl, hm, hc88⟩ := iter_step hit82
   rw [hf84] at hm
   refine wp_seq (wp_seq (region_plain ?_))
   refine lq (.int .i64 x56) S (q_move rfl) fun a S => ?_
   refine lq p0 S (q_move rfl) fun a S => ?_
   refine lq (.int .i64 (a0.length : Int)) S (q_lenSl rfl (h0).isSl rfl Try.underlying23) fun a S => ?_
   refine lq (.bool (decide (x56 < (a0.length : Int)))) S (q_lss rfl rfl) fun a S => ?_
   refine lx_nil (thenN ?_)
   refine cond_b S rfl (fun hc89 => ?_) (fun hc89 => ?_)
   ·have hm := ite_t hc89 hm
    refine wp_skip (thenN ?_)
    refine wp_seq ?_
    refine wp_block ?_
    refine wp_seq ?_
    refine region_drawG (fun w1 => Heap w0 [] w1) (fun i => [8].contains i) mixed (by kernel_rfl) (fun w91 he90 => ?_)
    have H := H.later he90
    refine ⟨H.sel [] (by decide), ?_⟩
    refine lq p0 S (q_move rfl) fun a S => ?_
    refine lq (.int .i64 x56) S (q_move rfl) fun a S => ?_
    obtain ⟨x92, e93, hm⟩ := bind_some hm
    obtain ⟨c94, h95, hat96⟩ := (h0).elem (idx_some e93).2
    obtain ⟨v97, rfl, h98⟩ := rd_list h95
    have hlt := lt_of_idx (idx_some e93).2
    refine lq (ePtr p0 (x56.toNat * 1)) S (q_indexAddr rfl (h0).isSl rfl (idx_some e93).1 hlt Try.underlying23 Try.sizeOf38) fun a S => ?_
    refine lq v97 S (q_load1 rfl Try.isAgg38 (fun w1 hC => ((hat96 0 _ rfl).ext hC.ext))) fun a S => ?_
    refine lq p1 S (q_move rfl) fun a S => ?_
    refine lq (.int .i64 x56) S (q_move rfl) fun a S => ?_
    obtain ⟨x99, e100, hm⟩ := bind_some hm
    obtain ⟨c101, h102, hat103⟩ := (h1).elem (idx_some e100).2
    obtain ⟨v104, rfl, h105⟩ := rd_list h102
    have hlt := lt_of_idx (idx_some e100).2
    refine lq (ePtr p1 (x56.toNat * 1)) S (q_indexAddr rfl (h1).isSl rfl (idx_some e100).1 hlt Try.underlying23 Try.sizeOf38) fun a S => ?_
    refine lq v104 S (q_load1 rfl Try.isAgg38 (fun w1 hC => ((hat103 0 _ rfl).ext hC.ext))) fun a S => ?_
    obtain ⟨x108, e109, hm⟩ := bind_some hm
    refine lx_call (xs := [.tmp 20, .tmp 24]) S trivial (by decide) rfl rfl Try.call22 ((laws_eqInt64S_ok (H.arg h98) (H.arg h105) e109).mono ?_)
    rintro e w106 ⟨rfl, Hc107⟩
    have H := H.call0 Hc107
    refine ⟨_, rfl, H.sel [] (by decide), fun a S => ?_⟩
    refine lq (.bool (!x108)) S (q_not rfl) fun a S => ?_
    refine lx_nil (thenN ?_)
    refine cond_b S rfl (fun hc111 => ?_) (fun hc111 => ?_)
    ·have hm := ite_t hc111 hm
     refine wp_seq (region_plain ?_)
     refine lq (.bool false) S (q_assign rfl) fun a S => ?_
     refine lx_nil (thenN ?_)
     refine wp_ret (inBlock_ret ?_)
     refine then_ret ?_
     refine then_ret ?_
     refine inBlock_ret ?_
     refine then_ret ?_
     refine then_ret ?_
     obtain rfl := it_brk hm hc88
     have hm := ctl_inr hk85
     obtain rfl := Option.some.inj hm
     exact leave1 S rfl rfl ⟨rfl, H⟩
    ·have hm := ite_f hc111 hm
     refine wp_skip ?_
     refine inBlock_norm ?_
     refine thenN ?_
     refine region_plain ?_
     refine lq (.int .i64 x56) S (q_move rfl) fun a S => ?_
     refine lq (.int .i64 (W (x56 + (1 : Int)))) S (q_add rfl rfl) fun a S => ?_
     refine lq (.int .i64 (W (x56 + (1 : Int)))) S (q_assign rfl) fun a S => ?_
     refine lx_nil ?_
     exact ⟨m86, Nat.lt_succ_self _, (W (x56 + (1 : Int))), S.sub ⟨rfl, rfl, rfl, trivial⟩, H, it_cont hm hc88⟩
   ·have hm := ite_f hc89 hm
    refine wp_exit ?_
    refine then_exit ?_
    refine then_exit ?_
    refine inBlock_exit ?_
    obtain rfl := it_brk hm hc88
    exact ⟨S.sub trivial, H, rfl⟩
end Go.Proofs.Ytcddkipbedfhkaa
