/- The model of a statement and its walk (printed by a program of this repo). -/
import Derived.Test.YtcddkipbedfhkaaF0
import Derived.Test.YtcddkipbedfhkaaF1
import Derived.Test.YtcddkipbedfhkaaF2
import Derived.Test.YtcddkipbedfhkaaF3
import Derived.Test.YtcddkipbedfhkaaF5
import Derived.Test.YtcddkipbedfhkaaGxT
import Derived.Test.YtcddkipbedfhkaaGxY
namespace Go.Proofs.Ytcddkipbedfhkaa
open Go.RowKit Go.Gx

/-- impl.MeasuresOf -/
def impl_MeasuresOf_m (fuel : Nat) (a0 : (List Timpl_Vertex)) (a1 : Int) : Option (((List (List Int)) × Int)) :=
  (impl_ValidGame_m fuel a0).bind fun x33 => (if (!x33) = true then some (([], (1 : Int))) else (impl_playerOk_m fuel a1).bind fun x40 => (if (!x40) = true then some (([], (2 : Int))) else (if (decide ((16 : Int) < (a0.length : Int))) = true then some (([], (5 : Int))) else (impl_newMeasured_m fuel a0 a1).bind fun x49 => (mks (a0.length : Int) []).bind fun x57 => (iter (fun (s : (List (List Int)) × (Int)) => (match s with | (xs75, x76) => (if (decide (x76 < (x57.length : Int))) = true then (mks (5 : Int) (0 : Int)).bind fun x597 => (idx xs75 x76).bind fun _ => some (.inl ((xs75.set x76.toNat x597), (W (x76 + (1 : Int))))) else some (.inr (.inl (xs75)))) : Option (((List (List Int)) × (Int)) ⊕ (((List (List Int))) ⊕ (((List (List Int)) × Int)))))) fuel (x57, (0 : Int))).bind fun res90 => ctl (β := (List (List Int))) (ρ := ((List (List Int)) × Int)) (τ := ((List (List Int)) × Int)) res90 (fun (xs89) => (iter (fun (s : (List (List Int)) × (Bool)) => (match s with | (xs258, x259) => (if x259 = true then (iter (fun (s : (List (List Int)) × (Bool) × (Int)) => (match s with | (xs483, x484, x485) => (if (decide (x485 < (a0.length : Int))) = true then join (κ := List (List Int) → Bool → Option (((List (List Int)) × (Bool) × (Int)) ⊕ (((List (List Int)) × Bool) ⊕ (((List (List Int)) × Int))))) (fun (xs547 : List (List Int)) (x548 : Bool) => some (.inl (xs547, x548, (W (x485 + (1 : Int)))))) (fun K549 => (idx a0 x485).bind fun x551 => (Pimpl_measured_due_m fuel x49 (x551.1, x551.2.1, x551.2.2) xs483).bind fun x572 => (idx xs483 x485).bind fun x577 => (impl_compareRows_m fuel x572 x577).bind fun x586 => (if (decide ((0 : Int) < x586)) = true then (idx xs483 x485).bind fun _ => (K549 (xs483.set x485.toNat x572) true) else (K549 xs483 x484))) else some (.inr (.inl (xs483, x484)))) : Option (((List (List Int)) × (Bool) × (Int)) ⊕ (((List (List Int)) × Bool) ⊕ (((List (List Int)) × Int)))))) fuel (xs258, false, (0 : Int))).bind fun res538 => ctl (β := (List (List Int)) × Bool) (ρ := ((List (List Int)) × Int)) (τ := (((List (List Int)) × (Bool)) ⊕ (((List (List Int))) ⊕ (((List (List Int)) × Int))))) res538 (fun (xs536, x537) => some (.inl (xs536, x537))) (fun q => some (.inr (.inr q))) else some (.inr (.inl (xs258)))) : Option (((List (List Int)) × (Bool)) ⊕ (((List (List Int))) ⊕ (((List (List Int)) × Int)))))) fuel (xs89, true)).bind fun res424 => ctl (β := (List (List Int))) (ρ := ((List (List Int)) × Int)) (τ := ((List (List Int)) × Int)) res424 (fun (xs423) => some ((xs423, (0 : Int)))) (fun q => some (q))) (fun q => some (q)))))
set_option maxRecDepth 20000 in
theorem impl_MeasuresOf_ok [dr : Dr] {w0 : World} {fuel : Nat} {p0 : Value} {a0 : (List Timpl_Vertex)} {a1 : Int} {r : ((List (List Int)) × Int)} (h0 : Rd (rList Rimpl_Vertex) w0 p0 a0) (hm : impl_MeasuresOf_m fuel a0 a1 = some r) :
  Calls Try.prog 15 #[p0, .int .i64 a1] w0 fun e w => ∃ (v0 : Value), e = .returned (.tuple #[v0, .int .i64 r.2]) ∧ Heap w0 [oA (rList (rList (rInt .i64))) v0 r.1] w := by
 unfold impl_MeasuresOf_m at hm
 have H := Heap.start w0
 refine enter (args := [p0, .int .i64 a1]) Try.func15 rfl 66 rfl (Nat.le_of_ble_eq_true rfl) (fun a S => ?_)
 refine wp_seq (region_plain ?_)
 refine lq (.slice none 0 0) S (q_assign rfl) fun a S => ?_
 refine lq (.int .i64 (0 : Int)) S (q_assign rfl) fun a S => ?_
 refine lx_nil (thenN ?_)
 refine wp_seq ?_
 refine wp_block ?_
 refine wp_seq (region_plain ?_)
 refine lq p0 S (q_move rfl) fun a S => ?_
 obtain ⟨x33, e34, hm⟩ := bind_some hm
 refine lx_call (xs := [.tmp 14]) S trivial (by decide) rfl rfl Try.call35 ((impl_ValidGame_ok (H.arg h0) e34).mono ?_)
 rintro e w31 ⟨rfl, Hc32⟩
 have H := H.call0 Hc32
 refine ⟨_, rfl, trivial, fun a S => ?_⟩
 refine lq (.bool (!x33)) S (q_not rfl) fun a S => ?_
 refine lq (.bool (!x33)) S (q_assign rfl) fun a S => ?_
 refine lx_nil (thenN ?_)
 refine cond_b S rfl (fun hc36 => ?_) (fun hc36 => ?_)
 ·have hm := ite_t hc36 hm
  refine wp_seq (region_plain ?_)
  refine lq (.slice none 0 0) S (q_assign rfl) fun a S => ?_
  refine lq (.int .i64 (1 : Int)) S (q_assign rfl) fun a S => ?_
  refine lx_nil (thenN ?_)
  refine wp_ret (inBlock_ret ?_)
  refine then_ret ?_
  obtain rfl := Option.some.inj hm
  have H : Heap w0 [oA (rList (rList (rInt .i64))) (.slice none 0 0) ([] : List (List Int))] w31 := H.nilList (rList (rInt .i64))
  exact leave2 S rfl rfl rfl ⟨(.slice none 0 0), rfl, H⟩
 ·have hm := ite_f hc36 hm
  refine wp_seq (region_plain ?_)
  refine lq (.int .i64 a1) S (q_move rfl) fun a S => ?_
  obtain ⟨x40, e41, hm⟩ := bind_some hm
  refine lx_call (xs := [.tmp 18]) S trivial (by decide) rfl rfl Try.call36 ((impl_playerOk_ok  e41).mono ?_)
  rintro e w38 ⟨rfl, Hc39⟩
  have H := H.call0 Hc39
  refine ⟨_, rfl, trivial, fun a S => ?_⟩
  refine lq (.bool (!x40)) S (q_not rfl) fun a S => ?_
  refine lq (.bool (!x40)) S (q_assign rfl) fun a S => ?_
  refine lx_nil (thenN ?_)
  refine cond_b S rfl (fun hc43 => ?_) (fun hc43 => ?_)
  ·have hm := ite_t hc43 hm
   refine wp_seq (region_plain ?_)
   refine lq (.slice none 0 0) S (q_assign rfl) fun a S => ?_
   refine lq (.int .i64 (2 : Int)) S (q_assign rfl) fun a S => ?_
   refine lx_nil (thenN ?_)
   refine wp_ret (inBlock_ret ?_)
   refine then_ret ?_
   obtain rfl := Option.some.inj hm
   have H : Heap w0 [oA (rList (rList (rInt .i64))) (.slice none 0 0) ([] : List (List Int))] w38 := H.nilList (rList (rInt .i64))
   exact leave2 S rfl rfl rfl ⟨(.slice none 0 0), rfl, H⟩
  ·have hm := ite_f hc43 hm
   refine wp_seq (region_plain ?_)
   refine lq p0 S (q_move rfl) fun a S => ?_
   refine lq (.int .i64 (a0.length : Int)) S (q_lenSl rfl (h0).isSl rfl Try.underlying27) fun a S => ?_
   refine lq (.bool (decide ((16 : Int) < (a0.length : Int)))) S (q_gtr rfl rfl) fun a S => ?_
   refine lq (.bool (decide ((16 : Int) < (a0.length : Int)))) S (q_assign rfl) fun a S => ?_
   refine lx_nil (thenN ?_)
   refine cond_b S rfl (fun hc45 => ?_) (fun hc45 => ?_)
   ·have hm := ite_t hc45 hm
    refine wp_seq (region_plain ?_)
    refine lq (.slice none 0 0) S (q_assign rfl) fun a S => ?_
    refine lq (.int .i64 (5 : Int)) S (q_assign rfl) fun a S => ?_
    refine lx_nil (thenN ?_)
    refine wp_ret (inBlock_ret ?_)
    refine then_ret ?_
    obtain rfl := Option.some.inj hm
    have H : Heap w0 [oA (rList (rList (rInt .i64))) (.slice none 0 0) ([] : List (List Int))] w38 := H.nilList (rList (rInt .i64))
    exact leave2 S rfl rfl rfl ⟨(.slice none 0 0), rfl, H⟩
   ·have hm := ite_f hc45 hm
    refine wp_skip ?_
    refine inBlock_norm ?_
    refine thenN ?_
    refine wp_seq (region_plain ?_)
    refine lq p0 S (q_move rfl) fun a S => ?_
    refine lq (.int .i64 a1) S (q_move rfl) fun a S => ?_
    obtain ⟨x49, e50, hm⟩ := bind_some hm
    refine lx_call (xs := [.tmp 25, .tmp 26]) S trivial (by decide) rfl rfl Try.call37 ((impl_newMeasured_ok (H.arg h0)  e50).mono ?_)
    rintro e w47 ⟨v51, rfl, hs53, Hc48⟩
    have H := H.call0 Hc48
    refine ⟨_, rfl, trivial, fun a S => ?_⟩
    have H0 := H
    have h55 := H0.arg h0
    have h56 := hs53.ext (Ext.refl _)
    have H := Heap.start w47
    refine lq v51 S (q_assign rfl) fun a S => ?_
    refine lx_nil (thenN ?_)
    refine wp_seq (region_plain ?_)
    refine lq p0 S (q_move rfl) fun a S => ?_
    refine lq (.int .i64 (a0.length : Int)) S (q_lenSl rfl (h55).isSl rfl Try.underlying27) fun a S => ?_
    obtain ⟨x57, e58, hm⟩ := bind_some hm
    obtain ⟨m59, hn, hn2, rfl⟩ := mks_some e58
    refine lx_make (r := (rList (rInt .i64))) (z0 := []) (n := m59) S trivial (by decide) rfl H (by rw [← hn]; rfl) (by rw [← hn]; rfl) Try.underlying23 (Try.ti38) rfl rfl (Nat.le_of_ble_eq_true rfl) (fun w => (oA_list.1 drop_nil_own)) hn2 (by decide) (fun v60 w61 H => ⟨trivial, fun a S => ?_⟩)
    refine lq v60 S (q_assign rfl) fun a S => ?_
    refine lx_nil (thenN ?_)
    refine wp_seq (wp_seq (region_plain ?_))
    refine lq v60 S (q_move rfl) fun a S => ?_
    refine lq (.int .i64 ((List.replicate m59 []).length : Int)) S (q_lenSl rfl (H.isSl 0 rfl) rfl Try.underlying23) fun a S => ?_
    refine lq (.int .i64 (0 : Int)) S (q_move rfl) fun a S => ?_
    refine lx_nil (thenN ?_)
    obtain ⟨res90, hit91, hk94⟩ := bind_some hm
    obtain ⟨f92, hf93, hit91⟩ := iter_name hit91
    refine block_loop (fun a w => ∃ (xs89 : List (List Int)), Slots a 66 [(0, p0), (6, v51), (7, v60)] ∧ Heap w47 [oA (rList (rList (rInt .i64))) v60 xs89] w ∧ res90 = .inl (xs89)) ?_ ?_
    ·rintro a w ⟨xs89, S, H, rfl⟩
     have hm := ctl_inl hk94
     refine thenN ?_
     refine wp_seq (wp_seq (region_plain ?_))
     refine lq (.bool true) S (q_assign rfl) fun a S => ?_
     refine lx_nil (thenN ?_)
     obtain ⟨res424, hit425, hk428⟩ := bind_some hm
     obtain ⟨f426, hf427, hit425⟩ := iter_name hit425
     refine block_loop (fun a w => ∃ (xs423 : List (List Int)), Slots a 66 [(7, v60)] ∧ Heap w47 [oA (rList (rList (rInt .i64))) v60 xs423] w ∧ res424 = .inl (xs423)) ?_ ?_
     ·rintro a w ⟨xs423, S, H, rfl⟩
      have hm := ctl_inl hk428
      refine thenN ?_
      refine wp_seq (region_plain ?_)
      refine lq v60 S (q_move rfl) fun a S => ?_
      refine lq v60 S (q_assign rfl) fun a S => ?_
      refine lq (.int .i64 (0 : Int)) S (q_assign rfl) fun a S => ?_
      refine lx_nil (thenN ?_)
      refine wp_ret ?_
      obtain rfl := Option.some.inj hm
      have H : Heap w0 [oA (rList (rList (rInt .i64))) v60 xs423] w := H0.call H
      exact leave2 S rfl rfl rfl ⟨v60, rfl, H⟩
     ·skip
      refine loop_ghost (fun n a w => ∃ (xs258 : List (List Int)) (x259 : Bool), Slots a 66 [(0, p0), (6, v51), (7, v60), (9, (.bool x259))] ∧ Heap w47 [oA (rList (rList (rInt .i64))) v60 xs258] w ∧ iter f426 n (xs258, x259) = some res424) _ ⟨xs89, true, S.sub ⟨rfl, rfl, rfl, rfl, trivial⟩, H, hit425⟩ ?_
      rintro n a w ⟨xs258, x259, S, H, hit425⟩
      obtain ⟨m429, o430, rfl, hm, hc431⟩ := iter_step hit425
      rw [hf427] at hm
      refine wp_seq (wp_seq (region_plain ?_))
      refine lq (.bool x259) S (q_move rfl) fun a S => ?_
      refine lx_nil (thenN ?_)
      refine cond_b S rfl (fun hc432 => ?_) (fun hc432 => ?_)
      ·have hm := ite_t hc432 hm
       refine wp_skip (thenN ?_)
       refine wp_block ?_
       refine wp_seq (region_plain ?_)
       refine lq (.bool false) S (q_assign rfl) fun a S => ?_
       refine lx_nil (thenN ?_)
       refine wp_seq (region_plain ?_)
       refine lq p0 S (q_move rfl) fun a S => ?_
       refine lq (.int .i64 (a0.length : Int)) S (q_lenSl rfl (h55).isSl rfl Try.underlying27) fun a S => ?_
       refine lq (.int .i64 (0 : Int)) S (q_move rfl) fun a S => ?_
       refine lx_nil (thenN ?_)
       obtain ⟨res538, hit539, hk542⟩ := bind_some hm
       obtain ⟨f540, hf541, hit539⟩ := iter_name hit539
       refine block_loop (fun a w => ∃ (xs536 : List (List Int)) (x537 : Bool), Slots a 66 [(0, p0), (6, v51), (7, v60), (9, (.bool x537))] ∧ Heap w47 [oA (rList (rList (rInt .i64))) v60 xs536] w ∧ res538 = .inl (xs536, x537)) ?_ ?_
       ·rintro a w ⟨xs536, x537, S, H, rfl⟩
        have hm := ctl_inl hk542
        refine inBlock_norm ?_
        exact ⟨m429, Nat.lt_succ_self _, xs536, x537, S.sub ⟨rfl, rfl, rfl, rfl, trivial⟩, H, it_cont hm hc431⟩
       ·skip
        refine loop_ghost (fun n a w => ∃ (xs483 : List (List Int)) (x484 : Bool) (x485 : Int), Slots a 66 [(0, p0), (6, v51), (7, v60), (9, (.bool x484)), (42, p0), (43, (.int .i64 (a0.length : Int))), (44, (.int .i64 x485))] ∧ Heap w47 [oA (rList (rList (rInt .i64))) v60 xs483] w ∧ iter f540 n (xs483, x484, x485) = some res538) _ ⟨xs258, false, (0 : Int), S.sub ⟨rfl, rfl, rfl, rfl, rfl, rfl, rfl, trivial⟩, H, hit539⟩ ?_
        rintro n a w ⟨xs483, x484, x485, S, H, hit539⟩
        obtain ⟨m543, o544, rfl, hm, hc545⟩ := iter_step hit539
        rw [hf541] at hm
        refine wp_seq (region_plain ?_)
        refine lq (.bool (decide (x485 < (a0.length : Int)))) S (q_lss rfl rfl) fun a S => ?_
        refine lx_nil (thenN ?_)
        refine wp_seq ?_
        refine cond_b S rfl (fun hc546 => ?_) (fun hc546 => ?_)
        ·have hm := ite_t hc546 hm
         refine wp_skip (thenN ?_)
         obtain ⟨K549, hK550, hm⟩ := join_elim hm
         refine seq_cut (fun a w => ∃ (xs547 : List (List Int)) (x548 : Bool), Slots a 66 [(0, p0), (6, v51), (7, v60), (9, (.bool x548)), (42, p0), (43, (.int .i64 (a0.length : Int))), (44, (.int .i64 x485))] ∧ Heap w47 [oA (rList (rList (rInt .i64))) v60 xs547] w ∧ K549 xs547 x548 = some o544) ?_ ?_
         ·rintro a w ⟨xs547, x548, S, H, hm⟩
          subst hK550
          refine region_plain ?_
          refine lq (.int .i64 (W (x485 + (1 : Int)))) S (q_add rfl rfl) fun a S => ?_
          refine lq (.int .i64 (W (x485 + (1 : Int)))) S (q_move rfl) fun a S => ?_
          refine lx_nil ?_
          exact ⟨m543, Nat.lt_succ_self _, xs547, x548, (W (x485 + (1 : Int))), S.sub ⟨rfl, rfl, rfl, rfl, rfl, rfl, rfl, trivial⟩, H, it_cont hm hc545⟩
         ·skip
          refine wp_block ?_
          refine wp_seq (region_plain ?_)
          refine lq (.int .i64 x485) S (q_move rfl) fun a S => ?_
          obtain ⟨x551, e552, hm⟩ := bind_some hm
          obtain ⟨c553, h554, hat555⟩ := (h55).elem (idx_some e552).2
          obtain ⟨c558, c559, rfl, h560, h561⟩ := h554
          obtain rfl := h560
          obtain ⟨c562, c563, rfl, h564, h565⟩ := h561
          obtain rfl := h564
          obtain ⟨v556, rfl, h557⟩ := rd_list h565
          have hlt := lt_of_idx (idx_some e552).2
          refine lq (ePtr p0 (x485.toNat * 3)) S (q_indexAddr rfl (h55).isSl rfl (idx_some e552).1 hlt Try.underlying27 Try.sizeOf53) fun a S => ?_
          refine lx_e (.agg #[(.int .i64 x551.1), (.int .i64 x551.2.1), v556]) S trivial (by decide) rfl trivial (q_loadA (cs := [(.int .i64 x551.1), (.int .i64 x551.2.1), v556]) rfl ((hat555 0 _ rfl).isP) Try.isAgg53 Try.sizeOf53 (by rintro _ rfl; exact (fun j u hu => (hat555 j u hu).ext H.ext))) (fun a S => ?_)
          refine lx_alloc S trivial (by decide) rfl H Try.zeroValue53 rfl (fun b566 w567 H => ⟨trivial, fun a S => ?_⟩)
          refine lq (.int .i64 x485) S (q_assign rfl) fun a S => ?_
          refine lx_storeBox (o := 0) (i := 0) (us := [(.int .i64 x551.1), (.int .i64 x551.2.1), v556]) (cs' := [(.int .i64 x551.1), (.int .i64 x551.2.1), v556]) S trivial rfl H rfl rfl rfl rfl Try.sizeOf53 (Nat.le_of_ble_eq_true rfl) (List.forall_mem_cons.2 ⟨rfl, (List.forall_mem_cons.2 ⟨rfl, (List.forall_mem_cons.2 ⟨one_sl (h557).isSl, (List.forall_mem_nil _)⟩)⟩)⟩) rfl (fun w569 H => ⟨trivial, fun a S => ?_⟩)
          change Heap w47 [bA b566 [(.int .i64 x551.1), (.int .i64 x551.2.1), v556] 53, oA (rList (rList (rInt .i64))) v60 xs483] w569 at H
          refine lx_nil (thenN ?_)
          refine wp_seq (region_plain ?_)
          refine lq v51 S (q_move rfl) fun a S => ?_
          refine lx_e (.agg #[(.int .i64 x551.1), (.int .i64 x551.2.1), v556]) S trivial (by decide) rfl trivial (q_loadA (cs := [(.int .i64 x551.1), (.int .i64 x551.2.1), v556]) rfl (isP_bp _) Try.isAgg53 Try.sizeOf53 (by rintro _ rfl; exact (fun j u hu => boxAt (i := 0) H rfl hu))) (fun a S => ?_)
          refine lq v60 S (q_move rfl) fun a S => ?_
          obtain ⟨x572, e573, hm⟩ := bind_some hm
          refine lx_call (xs := [.tmp 49, .tmp 50, .tmp 51]) S trivial (by decide) rfl rfl Try.call47 ((Pimpl_measured_due_ok (H.arg h56) ⟨[(.int .i64 x551.1), (.int .i64 x551.2.1), v556], rfl, ⟨[(.int .i64 x551.1)], [(.int .i64 x551.2.1), v556], rfl, rfl, ⟨[(.int .i64 x551.2.1)], [v556], rfl, rfl, ((H.arg h557)).list_rd⟩⟩⟩ (H.rdAt 1 rfl) e573).mono ?_)
          rintro e w570 ⟨v574, rfl, Hc571⟩
          have H := H.call1 Hc571
          refine ⟨_, rfl, trivial, fun a S => ?_⟩
          refine lq v574 S (q_assign rfl) fun a S => ?_
          refine lx_nil (thenN ?_)
          refine wp_seq (region_plain ?_)
          refine lq v574 S (q_move rfl) fun a S => ?_
          refine lq v60 S (q_move rfl) fun a S => ?_
          refine lq (.int .i64 x485) S (q_move rfl) fun a S => ?_
          obtain ⟨x577, e578, hm⟩ := bind_some hm
          have hlt := lt_of_idx (idx_some e578).2
          refine lq (ePtr v60 (x485.toNat * 1)) S (q_indexAddr rfl (H.isSl 2 rfl) rfl (idx_some e578).1 hlt Try.underlying23 Try.sizeOf38) fun a S => ?_
          obtain ⟨c579, h580, hat581⟩ := (H.rdAt 2 rfl).elem (idx_some e578).2
          obtain ⟨v582, rfl, h583⟩ := rd_list h580
          refine lx_e v582 S trivial (by decide) rfl trivial (q_load1 rfl Try.isAgg38 (by rintro _ rfl; exact (hat581 0 _ rfl))) (fun a S => ?_)
          obtain ⟨x586, e587, hm⟩ := bind_some hm
          refine lx_call (xs := [.tmp 53, .tmp 57]) S trivial (by decide) rfl rfl Try.call48 ((impl_compareRows_ok (H.rdAt 0 rfl) (h583.ext (Ext.refl _)) e587).mono ?_)
          rintro e w584 ⟨rfl, Hc585⟩
          have H := H.call0 Hc585
          refine ⟨_, rfl, trivial, fun a S => ?_⟩
          refine lq (.bool (decide ((0 : Int) < x586))) S (q_gtr rfl rfl) fun a S => ?_
          refine lx_nil (thenN ?_)
          refine cond_b S rfl (fun hc589 => ?_) (fun hc589 => ?_)
          ·have hm := ite_t hc589 hm
           refine wp_seq (region_plain ?_)
           refine lq v60 S (q_move rfl) fun a S => ?_
           refine lq (.int .i64 x485) S (q_move rfl) fun a S => ?_
           refine lq v574 S (q_move rfl) fun a S => ?_
           obtain ⟨x590, e591, hm⟩ := bind_some hm
           have hlt := lt_of_idx (idx_some e591).2
           refine lq (ePtr v60 (x485.toNat * 1)) S (q_indexAddr rfl (H.isSl 2 rfl) rfl (idx_some e591).1 hlt Try.underlying23 Try.sizeOf38) fun a S => ?_
           have hcl : Value.cells v574 = List.toArray [v574] := (cells_sl (H.isSl 0 rfl))
           have hon : ∀ c ∈ ([v574] : List Value), c.oneCell' = true := (List.forall_mem_cons.2 ⟨one_sl (H.isSl 0 rfl), (List.forall_mem_nil _)⟩)
           have H : Heap w47 [oA (rList (rList (rInt .i64))) v60 xs483, oA (rList (rInt .i64)) v574 x572, bA b566 [(.int .i64 x551.1), (.int .i64 x551.2.1), v556] 53] w584 := H.front 2 rfl
           refine lx_storeElem (r := (rList (rInt .i64))) (us := [v574]) (off := 0) (e' := x572) S trivial rfl H (ev_zero rfl) rfl (idx_some e591).2 hcl Try.sizeOf38 (Nat.le_of_ble_eq_true rfl) hon (Upd.full rfl (fun w G hG => oA_list.1 hG)) (fun w592 H => ⟨trivial, fun a S => ?_⟩)
           refine lx_nil (thenN ?_)
           refine region_plain ?_
           refine lq (.bool true) S (q_assign rfl) fun a S => ?_
           refine lx_nil ?_
           refine inBlock_norm ?_
           have H : Heap w47 [oA (rList (rList (rInt .i64))) v60 (xs483.set x485.toNat x572)] w592 := H.sel [0] (by decide)
           exact ⟨(xs483.set x485.toNat x572), true, S.sub ⟨rfl, rfl, rfl, rfl, rfl, rfl, rfl, trivial⟩, H, hm⟩
          ·have hm := ite_f hc589 hm
           refine wp_skip ?_
           refine inBlock_norm ?_
           have H : Heap w47 [oA (rList (rList (rInt .i64))) v60 xs483] w584 := H.sel [2] (by decide)
           exact ⟨xs483, x484, S.sub ⟨rfl, rfl, rfl, rfl, rfl, rfl, rfl, trivial⟩, H, hm⟩
        ·have hm := ite_f hc546 hm
         refine wp_exit ?_
         refine then_exit ?_
         refine then_exit ?_
         refine inBlock_exit ?_
         obtain rfl := it_brk hm hc545
         exact ⟨xs483, x484, S.sub ⟨rfl, rfl, rfl, rfl, trivial⟩, H, rfl⟩
      ·have hm := ite_f hc432 hm
       refine wp_exit ?_
       refine then_exit ?_
       refine then_exit ?_
       refine inBlock_exit ?_
       obtain rfl := it_brk hm hc431
       exact ⟨xs258, S.sub ⟨rfl, trivial⟩, H, rfl⟩
    ·skip
     refine loop_ghost (fun n a w => ∃ (xs75 : List (List Int)) (x76 : Int), Slots a 66 [(0, p0), (6, v51), (7, v60), (32, (.int .i64 ((List.replicate m59 []).length : Int))), (33, (.int .i64 x76))] ∧ Heap w47 [oA (rList (rList (rInt .i64))) v60 xs75] w ∧ iter f92 n (xs75, x76) = some res90) _ ⟨(List.replicate m59 []), (0 : Int), S.sub ⟨rfl, rfl, rfl, rfl, rfl, trivial⟩, H, hit91⟩ ?_
     rintro n a w ⟨xs75, x76, S, H, hit91⟩
     obtain ⟨m593, o594, rfl, hm, hc595⟩ := iter_step hit91
     rw [hf93] at hm
     refine wp_seq (region_plain ?_)
     refine lq (.bool (decide (x76 < ((List.replicate m59 []).length : Int)))) S (q_lss rfl rfl) fun a S => ?_
     refine lx_nil (thenN ?_)
     refine wp_seq ?_
     refine cond_b S rfl (fun hc596 => ?_) (fun hc596 => ?_)
     ·have hm := ite_t hc596 hm
      refine wp_skip (thenN ?_)
      refine wp_seq ?_
      refine wp_block ?_
      refine wp_seq (region_plain ?_)
      refine lq (.int .i64 x76) S (q_move rfl) fun a S => ?_
      refine lq (.int .i64 x76) S (q_assign rfl) fun a S => ?_
      refine lx_nil (thenN ?_)
      refine region_plain ?_
      refine lq v60 S (q_move rfl) fun a S => ?_
      refine lq (.int .i64 x76) S (q_move rfl) fun a S => ?_
      obtain ⟨x597, e598, hm⟩ := bind_some hm
      obtain ⟨m599, hn, hn2, rfl⟩ := mks_some e598
      refine lx_make (r := (rInt .i64)) (z0 := (0 : Int)) (n := m599) S trivial (by decide) rfl H (by rw [← hn]; rfl) (by rw [← hn]; rfl) Try.underlying38 (Try.ti2) rfl rfl (Nat.le_of_ble_eq_true rfl) (fun w => ⟨rfl, rfl⟩) hn2 (by decide) (fun v600 w601 H => ⟨trivial, fun a S => ?_⟩)
      obtain ⟨x603, e604, hm⟩ := bind_some hm
      have hlt := lt_of_idx (idx_some e604).2
      refine lq (ePtr v60 (x76.toNat * 1)) S (q_indexAddr rfl (H.isSl 1 rfl) rfl (idx_some e604).1 hlt Try.underlying23 Try.sizeOf38) fun a S => ?_
      have hcl : Value.cells v600 = List.toArray [v600] := (cells_sl (H.isSl 0 rfl))
      have hon : ∀ c ∈ ([v600] : List Value), c.oneCell' = true := (List.forall_mem_cons.2 ⟨one_sl (H.isSl 0 rfl), (List.forall_mem_nil _)⟩)
      have H : Heap w47 [oA (rList (rList (rInt .i64))) v60 xs75, oA (rList (rInt .i64)) v600 (List.replicate m599 (0 : Int))] w601 := H.front 1 rfl
      refine lx_storeElem (r := (rList (rInt .i64))) (us := [v600]) (off := 0) (e' := (List.replicate m599 (0 : Int))) S trivial rfl H (ev_zero rfl) rfl (idx_some e604).2 hcl Try.sizeOf38 (Nat.le_of_ble_eq_true rfl) hon (Upd.full rfl (fun w G hG => oA_list.1 hG)) (fun w605 H => ⟨trivial, fun a S => ?_⟩)
      refine lx_nil ?_
      refine inBlock_norm ?_
      refine thenN ?_
      refine region_plain ?_
      refine lq (.int .i64 (W (x76 + (1 : Int)))) S (q_add rfl rfl) fun a S => ?_
      refine lq (.int .i64 (W (x76 + (1 : Int)))) S (q_move rfl) fun a S => ?_
      refine lx_nil ?_
      exact ⟨m593, Nat.lt_succ_self _, (xs75.set x76.toNat (List.replicate m599 (0 : Int))), (W (x76 + (1 : Int))), S.sub ⟨rfl, rfl, rfl, rfl, rfl, trivial⟩, H, it_cont hm hc595⟩
     ·have hm := ite_f hc596 hm
      refine wp_exit ?_
      refine then_exit ?_
      refine then_exit ?_
      refine inBlock_exit ?_
      obtain rfl := it_brk hm hc595
      exact ⟨xs75, S.sub ⟨rfl, rfl, rfl, trivial⟩, H, rfl⟩

/-- laws.markInt64SS -/
def laws_markInt64SS_m (fuel : Nat) (a0 : (List (List Int))) (a1 : Int) : Option (Int × (List (List Int))) :=
  (iter (fun (s : (List (List Int)) × (Int) × (Int)) => (match s with | (xs48, x49, x50) => (if (decide (x50 < (xs48.length : Int))) = true then (idx xs48 x50).bind fun x79 => (laws_markInt64S_m fuel x79 x49).bind fun x88 => some (.inl ((xs48.set x50.toNat x88.2), x88.1, (W (x50 + (1 : Int))))) else some (.inr (.inl (x49, xs48)))) : Option (((List (List Int)) × (Int) × (Int)) ⊕ ((Int × (List (List Int))) ⊕ (Int × (List (List Int))))))) fuel (a0, a1, (0 : Int))).bind fun res70 => ctl (β := Int × (List (List Int))) (ρ := Int × (List (List Int))) (τ := Int × (List (List Int))) res70 (fun (x68, xs69) => some ((x68, xs69))) (fun q => some (q))
set_option maxRecDepth 20000 in
theorem laws_markInt64SS_ok [dr : Dr] {w0 : World} {fuel : Nat} {p0 : Value} {a0 : (List (List Int))} {a1 : Int} {w00 : World} {L : List Asrt} {r : Int × (List (List Int))} (H : Heap w00 (oA (rList (rList (rInt .i64))) p0 a0 :: L) w0) (hm : laws_markInt64SS_m fuel a0 a1 = some r) :
  Calls Try.prog 17 #[p0, .int .i64 a1] w0 fun e w => e = .returned (.int .i64 r.1) ∧ Heap w00 (oA (rList (rList (rInt .i64))) p0 r.2 :: L) w := by
 unfold laws_markInt64SS_m at hm
 refine enter (args := [p0, .int .i64 a1]) Try.func17 rfl 19 rfl (Nat.le_of_ble_eq_true rfl) (fun a S => ?_)
 refine wp_seq (region_plain ?_)
 refine lq (.int .i64 (0 : Int)) S (q_assign rfl) fun a S => ?_
 refine lx_nil (thenN ?_)
 refine wp_seq (wp_seq (region_plain ?_))
 refine lq (.int .i64 (0 : Int)) S (q_assign rfl) fun a S => ?_
 refine lx_nil (thenN ?_)
 obtain ⟨res70, hit71, hk74⟩ := bind_some hm
 obtain ⟨f72, hf73, hit71⟩ := iter_name hit71
 refine block_loop (fun a w => ∃ (x68 : Int) (xs69 : List (List Int)), Slots a 19 [(1, (.int .i64 x68))] ∧ Heap w00 (oA (rList (rList (rInt .i64))) p0 xs69 :: L) w ∧ res70 = .inl (x68, xs69)) ?_ ?_
 ·rintro a w ⟨x68, xs69, S, H, rfl⟩
  have hm := ctl_inl hk74
  refine thenN ?_
  refine wp_seq (region_plain ?_)
  refine lq (.int .i64 x68) S (q_move rfl) fun a S => ?_
  refine lq (.int .i64 x68) S (q_assign rfl) fun a S => ?_
  refine lx_nil (thenN ?_)
  refine wp_ret ?_
  obtain rfl := Option.some.inj hm
  exact leave1 S rfl rfl ⟨rfl, H⟩
 ·skip
  refine loop_ghost (fun n a w => ∃ (xs48 : List (List Int)) (x49 : Int) (x50 : Int), Slots a 19 [(0, p0), (1, (.int .i64 x49)), (5, (.int .i64 x50))] ∧ Heap w00 (oA (rList (rList (rInt .i64))) p0 xs48 :: L) w ∧ iter f72 n (xs48, x49, x50) = some res70) _ ⟨a0, a1, (0 : Int), S.sub ⟨rfl, rfl, rfl, trivial⟩, H, hit71⟩ ?_
  rintro n a w ⟨xs48, x49, x50, S, H, hit71⟩
  obtain ⟨m75, o76, rfl, hm, hc77⟩ := iter_step hit71
  rw [hf73] at hm
  refine wp_seq (wp_seq (region_plain ?_))
  refine lq (.int .i64 x50) S (q_move rfl) fun a S => ?_
  refine lq p0 S (q_move rfl) fun a S => ?_
  refine lq (.int .i64 (xs48.length : Int)) S (q_lenSl rfl (H.isSl 0 rfl) rfl Try.underlying23) fun a S => ?_
  refine lq (.bool (decide (x50 < (xs48.length : Int)))) S (q_lss rfl rfl) fun a S => ?_
  refine lx_nil (thenN ?_)
  refine cond_b S rfl (fun hc78 => ?_) (fun hc78 => ?_)
  ·have hm := ite_t hc78 hm
   refine wp_skip (thenN ?_)
   refine wp_seq ?_
   refine wp_block ?_
   refine region_plain ?_
   refine lq p0 S (q_move rfl) fun a S => ?_
   refine lq (.int .i64 x50) S (q_move rfl) fun a S => ?_
   obtain ⟨x79, e80, hm⟩ := bind_some hm
   have hlt := lt_of_idx (idx_some e80).2
   refine lq (ePtr p0 (x50.toNat * 1)) S (q_indexAddr rfl (H.isSl 0 rfl) rfl (idx_some e80).1 hlt Try.underlying23 Try.sizeOf38) fun a S => ?_
   obtain ⟨c81, h82, hat83⟩ := (H.rdAt 0 rfl).elem (idx_some e80).2
   obtain ⟨v84, rfl, h85⟩ := rd_list h82
   refine lx_e v84 S trivial (by decide) rfl trivial (q_load1 rfl Try.isAgg38 (by rintro _ rfl; exact (hat83 0 _ rfl))) (fun a S => ?_)
   refine lq (.int .i64 x49) S (q_move rfl) fun a S => ?_
   obtain ⟨x88, e89, hm⟩ := bind_some hm
   obtain ⟨u90, hat91, H⟩ := H.lend (idx_some e80).2 (Lend.here)
   obtain rfl : v84 = u90 := At.eq (hat83 0 _ rfl) hat91
   refine lx_call (xs := [.tmp 15, .tmp 16]) S trivial (by decide) rfl rfl Try.call24 ((laws_markInt64S_ok H  e89).mono ?_)
   rintro e w86 ⟨rfl, H⟩
   have H : Heap w00 (oA (rList (rList (rInt .i64))) p0 (xs48.set x50.toNat x88.2) :: L) w86 := H.back
   refine ⟨_, rfl, trivial, fun a S => ?_⟩
   refine lq (.int .i64 x88.1) S (q_assign rfl) fun a S => ?_
   refine lx_nil ?_
   refine inBlock_norm ?_
   refine thenN ?_
   refine region_plain ?_
   refine lq (.int .i64 x50) S (q_move rfl) fun a S => ?_
   refine lq (.int .i64 (W (x50 + (1 : Int)))) S (q_add rfl rfl) fun a S => ?_
   refine lq (.int .i64 (W (x50 + (1 : Int)))) S (q_assign rfl) fun a S => ?_
   refine lx_nil ?_
   exact ⟨m75, Nat.lt_succ_self _, (xs48.set x50.toNat x88.2), x88.1, (W (x50 + (1 : Int))), S.sub ⟨rfl, rfl, rfl, trivial⟩, H, it_cont hm hc77⟩
  ·have hm := ite_f hc78 hm
   refine wp_exit ?_
   refine then_exit ?_
   refine then_exit ?_
   refine inBlock_exit ?_
   obtain rfl := it_brk hm hc77
   exact ⟨x49, xs48, S.sub ⟨rfl, trivial⟩, H, rfl⟩

/-- laws.heldInt64SS -/
def laws_heldInt64SS_m (fuel : Nat) (a0 : (List (List Int))) (a1 : Int) : Option (Int) :=
  (iter (fun (s : (Int) × (Int)) => (match s with | (x47, x48) => (if (decide (x48 < (a0.length : Int))) = true then (idx a0 x48).bind fun x75 => (laws_heldInt64S_m fuel x75 x47).bind fun x84 => (if (decide (x84 < (0 : Int))) = true then some (.inr (.inr (-1 : Int))) else some (.inl (x84, (W (x48 + (1 : Int)))))) else some (.inr (.inl (x47)))) : Option (((Int) × (Int)) ⊕ ((Int) ⊕ (Int))))) fuel (a1, (0 : Int))).bind fun res66 => ctl (β := Int) (ρ := Int) (τ := Int) res66 (fun (x65) => some (x65)) (fun q => some (q))
set_option maxRecDepth 20000 in
theorem laws_heldInt64SS_ok [dr : Dr] {w0 : World} {fuel : Nat} {p0 : Value} {a0 : (List (List Int))} {a1 : Int} {r : Int} (h0 : Rd (rList (rList (rInt .i64))) w0 p0 a0) (hm : laws_heldInt64SS_m fuel a0 a1 = some r) :
  Calls Try.prog 18 #[p0, .int .i64 a1] w0 fun e w => e = .returned (.int .i64 r) ∧ Heap w0 [] w := by
 unfold laws_heldInt64SS_m at hm
 have H := Heap.start w0
 refine enter (args := [p0, .int .i64 a1]) Try.func18 rfl 21 rfl (Nat.le_of_ble_eq_true rfl) (fun a S => ?_)
 refine wp_seq (region_plain ?_)
 refine lq (.int .i64 (0 : Int)) S (q_assign rfl) fun a S => ?_
 refine lx_nil (thenN ?_)
 refine wp_seq (wp_seq (region_plain ?_))
 refine lq (.int .i64 (0 : Int)) S (q_assign rfl) fun a S => ?_
 refine lx_nil (thenN ?_)
 obtain ⟨res66, hit67, hk70⟩ := bind_some hm
 obtain ⟨f68, hf69, hit67⟩ := iter_name hit67
 refine block_loop (fun a w => ∃ (x65 : Int), Slots a 21 [(1, (.int .i64 x65))] ∧ Heap w0 [] w ∧ res66 = .inl (x65)) ?_ ?_
 ·rintro a w ⟨x65, S, H, rfl⟩
  have hm := ctl_inl hk70
  refine thenN ?_
  refine wp_seq (region_plain ?_)
  refine lq (.int .i64 x65) S (q_move rfl) fun a S => ?_
  refine lq (.int .i64 x65) S (q_assign rfl) fun a S => ?_
  refine lx_nil (thenN ?_)
  refine wp_ret ?_
  obtain rfl := Option.some.inj hm
  exact leave1 S rfl rfl ⟨rfl, H⟩
 ·skip
  refine loop_ghost (fun n a w => ∃ (x47 : Int) (x48 : Int), Slots a 21 [(0, p0), (1, (.int .i64 x47)), (5, (.int .i64 x48))] ∧ Heap w0 [] w ∧ iter f68 n (x47, x48) = some res66) _ ⟨a1, (0 : Int), S.sub ⟨rfl, rfl, rfl, trivial⟩, H, hit67⟩ ?_
  rintro n a w ⟨x47, x48, S, H, hit67⟩
  obtain ⟨m71, o72, rfl, hm, hc73⟩ := iter_step hit67
  rw [hf69] at hm
  refine wp_seq (wp_seq (region_plain ?_))
  refine lq (.int .i64 x48) S (q_move rfl) fun a S => ?_
  refine lq p0 S (q_move rfl) fun a S => ?_
  refine lq (.int .i64 (a0.length : Int)) S (q_lenSl rfl (h0).isSl rfl Try.underlying23) fun a S => ?_
  refine lq (.bool (decide (x48 < (a0.length : Int)))) S (q_lss rfl rfl) fun a S => ?_
  refine lx_nil (thenN ?_)
  refine cond_b S rfl (fun hc74 => ?_) (fun hc74 => ?_)
  ·have hm := ite_t hc74 hm
   refine wp_skip (thenN ?_)
   refine wp_seq ?_
   refine wp_block ?_
   refine wp_seq (region_plain ?_)
   refine lq p0 S (q_move rfl) fun a S => ?_
   refine lq (.int .i64 x48) S (q_move rfl) fun a S => ?_
   obtain ⟨x75, e76, hm⟩ := bind_some hm
   obtain ⟨c77, h78, hat79⟩ := (h0).elem (idx_some e76).2
   obtain ⟨v80, rfl, h81⟩ := rd_list h78
   have hlt := lt_of_idx (idx_some e76).2
   refine lq (ePtr p0 (x48.toNat * 1)) S (q_indexAddr rfl (h0).isSl rfl (idx_some e76).1 hlt Try.underlying23 Try.sizeOf38) fun a S => ?_
   refine lx_e v80 S trivial (by decide) rfl trivial (q_load1 rfl Try.isAgg38 (by rintro _ rfl; exact ((hat79 0 _ rfl).ext H.ext))) (fun a S => ?_)
   refine lq (.int .i64 x47) S (q_move rfl) fun a S => ?_
   obtain ⟨x84, e85, hm⟩ := bind_some hm
   refine lx_call (xs := [.tmp 15, .tmp 16]) S trivial (by decide) rfl rfl Try.call26 ((laws_heldInt64S_ok (H.arg h81)  e85).mono ?_)
   rintro e w82 ⟨rfl, Hc83⟩
   have H := H.call0 Hc83
   refine ⟨_, rfl, trivial, fun a S => ?_⟩
   refine lq (.int .i64 x84) S (q_assign rfl) fun a S => ?_
   refine lx_nil (thenN ?_)
   refine wp_seq (region_plain ?_)
   refine lq (.int .i64 x84) S (q_move rfl) fun a S => ?_
   refine lq (.bool (decide (x84 < (0 : Int)))) S (q_lss rfl rfl) fun a S => ?_
   refine lx_nil (thenN ?_)
   refine cond_b S rfl (fun hc87 => ?_) (fun hc87 => ?_)
   ·have hm := ite_t hc87 hm
    refine wp_seq (region_plain ?_)
    refine lq (.int .i64 (-1 : Int)) S (q_assign rfl) fun a S => ?_
    refine lx_nil (thenN ?_)
    refine wp_ret (inBlock_ret ?_)
    refine then_ret ?_
    refine then_ret ?_
    refine inBlock_ret ?_
    refine then_ret ?_
    refine then_ret ?_
    obtain rfl := it_brk hm hc73
    have hm := ctl_inr hk70
    obtain rfl := Option.some.inj hm
    exact leave1 S rfl rfl ⟨rfl, H⟩
   ·have hm := ite_f hc87 hm
    refine wp_skip ?_
    refine inBlock_norm ?_
    refine thenN ?_
    refine region_plain ?_
    refine lq (.int .i64 x48) S (q_move rfl) fun a S => ?_
    refine lq (.int .i64 (W (x48 + (1 : Int)))) S (q_add rfl rfl) fun a S => ?_
    refine lq (.int .i64 (W (x48 + (1 : Int)))) S (q_assign rfl) fun a S => ?_
    refine lx_nil ?_
    exact ⟨m71, Nat.lt_succ_self _, x84, (W (x48 + (1 : Int))), S.sub ⟨rfl, rfl, rfl, trivial⟩, H, it_cont hm hc73⟩
  ·have hm := ite_f hc74 hm
   refine wp_exit ?_
   refine then_exit ?_
   refine then_exit ?_
   refine inBlock_exit ?_
   obtain rfl := it_brk hm hc73
   exact ⟨x47, S.sub ⟨rfl, trivial⟩, H, rfl⟩

/-- laws.FnExactMeasuresOf -/
def laws_FnExactMeasuresOf_m (fuel : Nat) (a0 : (List Tlaws_Vertex)) (a1 : Int) : Option (Bool) :=
  (laws_szVertexS_m fuel a0 (1048576 : Int)).bind fun x33 => (if (decide (x33 < (0 : Int))) = true then some (true) else (laws_toVertexS_m fuel a0).bind fun x39 => (spec_MeasuresOf_m fuel x39 a1).bind fun x46 => (laws_toVertexS_m fuel a0).bind fun x53 => (impl_MeasuresOf_m fuel x53 a1).bind fun x60 => (laws_eqInt64SS_m fuel x60.1 x46.1).bind fun x67 => (if (!x67) = true then some true else some (x60.2 != x46.2)).bind fun t70 => (if t70 = true then some (false) else (laws_toVertexS_m fuel a0).bind fun x76 => (laws_eqVertexS_m fuel x53 x76).bind fun x83 => (if (!x83) = true then some (false) else (laws_markVertexS_m fuel x53 (1 : Int)).bind fun x89 => (if (decide (x89.1 < (0 : Int))) = true then some true else (laws_eqInt64SS_m fuel x60.1 x46.1).bind fun x96 => some (!x96)).bind fun t91 => (if t91 = true then some true else some (x60.2 != x46.2)).bind fun t99 => (if t99 = true then some (false) else (laws_markInt64SS_m fuel x60.1 (1 : Int)).bind fun x105 => (laws_heldInt64SS_m fuel x105.2 (1 : Int)).bind fun x109 => (if (decide (x109 < (0 : Int))) = true then some (false) else (if (x109 != x105.1) = true then some (false) else (laws_toVertexS_m fuel a0).bind fun x116 => (impl_MeasuresOf_m fuel x116 a1).bind fun x123 => (laws_eqInt64SS_m fuel x123.1 x46.1).bind fun x130 => (if (!x130) = true then some true else some (x123.2 != x46.2)).bind fun t133 => (if t133 = true then some (false) else (laws_heldInt64SS_m fuel x105.2 (1 : Int)).bind fun x139 => (if (decide (x139 < (0 : Int))) = true then some (false) else (if (x139 != x105.1) = true then some (false) else some (true))))))))))
set_option maxRecDepth 20000 in
theorem laws_FnExactMeasuresOf_ok [dr : Dr] {w0 : World} {fuel : Nat} {p0 : Value} {a0 : (List Tlaws_Vertex)} {a1 : Int} {r : Bool} (h0 : Rd (rList Rlaws_Vertex) w0 p0 a0) (hm : laws_FnExactMeasuresOf_m fuel a0 a1 = some r) :
  Calls Try.prog 4 #[p0, .int .i64 a1] w0 fun e w => e = .returned (.bool r) ∧ Heap w0 [] w := by
 unfold laws_FnExactMeasuresOf_m at hm
 have H := Heap.start w0
 refine enter (args := [p0, .int .i64 a1]) Try.func4 rfl 101 rfl (Nat.le_of_ble_eq_true rfl) (fun a S => ?_)
 refine wp_seq (region_plain ?_)
 refine lq (.bool false) S (q_assign rfl) fun a S => ?_
 refine lx_nil (thenN ?_)
 refine wp_seq (region_plain ?_)
 refine lq (.int .i64 (1048576 : Int)) S (q_assign rfl) fun a S => ?_
 refine lx_nil (thenN ?_)
 refine wp_seq (region_plain ?_)
 refine lq p0 S (q_move rfl) fun a S => ?_
 refine lq (.int .i64 (1048576 : Int)) S (q_move rfl) fun a S => ?_
 obtain ⟨x33, e34, hm⟩ := bind_some hm
 refine lx_call (xs := [.tmp 16, .tmp 17]) S trivial (by decide) rfl rfl Try.call6 ((laws_szVertexS_ok (H.arg h0)  e34).mono ?_)
 rintro e w31 ⟨rfl, Hc32⟩
 have H := H.call0 Hc32
 refine ⟨_, rfl, trivial, fun a S => ?_⟩
 refine lq (.int .i64 x33) S (q_assign rfl) fun a S => ?_
 refine lx_nil (thenN ?_)
 refine wp_seq (wp_seq (region_plain ?_))
 refine lq (.int .i64 x33) S (q_move rfl) fun a S => ?_
 refine lq (.bool (decide (x33 < (0 : Int)))) S (q_lss rfl rfl) fun a S => ?_
 refine lx_nil (thenN ?_)
 refine cond_b S rfl (fun hc36 => ?_) (fun hc36 => ?_)
 ·have hm := ite_t hc36 hm
  refine wp_seq (region_plain ?_)
  refine lq (.bool true) S (q_assign rfl) fun a S => ?_
  refine lx_nil (thenN ?_)
  refine wp_ret (then_ret ?_)
  obtain rfl := Option.some.inj hm
  exact leave1 S rfl rfl ⟨rfl, H⟩
 ·have hm := ite_f hc36 hm
  refine wp_skip (thenN ?_)
  refine wp_seq (region_plain ?_)
  refine lq p0 S (q_move rfl) fun a S => ?_
  obtain ⟨x39, e40, hm⟩ := bind_some hm
  refine lx_call (xs := [.tmp 22]) S trivial (by decide) rfl rfl Try.call9 ((laws_toVertexS_ok (H.arg h0) e40).mono ?_)
  rintro e w37 ⟨v41, rfl, Hc38⟩
  have H := H.call1 Hc38
  refine ⟨_, rfl, trivial, fun a S => ?_⟩
  refine lq (.int .i64 a1) S (q_move rfl) fun a S => ?_
  obtain ⟨x46, e47, hm⟩ := bind_some hm
  refine lx_call (xs := [.tmp 23, .tmp 24]) S trivial (by decide) rfl rfl Try.call14 ((spec_MeasuresOf_ok (H.rdAt 0 rfl)  e47).mono ?_)
  rintro e w44 ⟨v48, rfl, Hc45⟩
  have H := H.call1 Hc45
  refine ⟨_, rfl, trivial, fun a S => ?_⟩
  refine lq (.tuple #[v48, (.int .i64 x46.2)]) S (q_move rfl) fun a S => ?_
  refine lq v48 S (q_extract rfl rfl) fun a S => ?_
  refine lq (.int .i64 x46.2) S (q_extract rfl rfl) fun a S => ?_
  refine lq v48 S (q_assign rfl) fun a S => ?_
  refine lq (.int .i64 x46.2) S (q_assign rfl) fun a S => ?_
  refine lx_nil (thenN ?_)
  refine wp_seq (region_plain ?_)
  refine lq p0 S (q_move rfl) fun a S => ?_
  obtain ⟨x53, e54, hm⟩ := bind_some hm
  refine lx_call (xs := [.tmp 28]) S trivial (by decide) rfl rfl Try.call9 ((laws_toVertexS_ok (H.arg h0) e54).mono ?_)
  rintro e w51 ⟨v55, rfl, Hc52⟩
  have H := H.call1 Hc52
  refine ⟨_, rfl, trivial, fun a S => ?_⟩
  refine lq v55 S (q_assign rfl) fun a S => ?_
  refine lx_nil (thenN ?_)
  refine wp_seq (region_plain ?_)
  refine lq v55 S (q_move rfl) fun a S => ?_
  refine lq (.int .i64 a1) S (q_move rfl) fun a S => ?_
  obtain ⟨x60, e61, hm⟩ := bind_some hm
  refine lx_call (xs := [.tmp 31, .tmp 32]) S trivial (by decide) rfl rfl Try.call15 ((impl_MeasuresOf_ok (H.rdAt 0 rfl)  e61).mono ?_)
  rintro e w58 ⟨v62, rfl, Hc59⟩
  have H := H.call1 Hc59
  refine ⟨_, rfl, trivial, fun a S => ?_⟩
  refine lq (.tuple #[v62, (.int .i64 x60.2)]) S (q_move rfl) fun a S => ?_
  refine lq v62 S (q_extract rfl rfl) fun a S => ?_
  refine lq (.int .i64 x60.2) S (q_extract rfl rfl) fun a S => ?_
  refine lq v62 S (q_assign rfl) fun a S => ?_
  refine lq (.int .i64 x60.2) S (q_assign rfl) fun a S => ?_
  refine lx_nil (thenN ?_)
  refine wp_seq (wp_seq (region_plain ?_))
  refine lq v62 S (q_move rfl) fun a S => ?_
  refine lq v48 S (q_move rfl) fun a S => ?_
  obtain ⟨x67, e68, hm⟩ := bind_some hm
  refine lx_call (xs := [.tmp 36, .tmp 37]) S trivial (by decide) rfl rfl Try.call13 ((laws_eqInt64SS_ok (H.rdAt 0 rfl) (H.rdAt 2 rfl) e68).mono ?_)
  rintro e w65 ⟨rfl, Hc66⟩
  have H := H.call0 Hc66
  refine ⟨_, rfl, trivial, fun a S => ?_⟩
  refine lq (.bool (!x67)) S (q_not rfl) fun a S => ?_
  refine lq (.bool (!x67)) S (q_move rfl) fun a S => ?_
  obtain ⟨t70, e71, hm⟩ := bind_some hm
  refine lx_cut 4 (fun a w => Slots a 101 [(0, p0), (1, (.int .i64 a1)), (6, v48), (7, (.int .i64 x46.2)), (8, v55), (9, v62), (10, (.int .i64 x60.2)), (44, (.bool t70))] ∧ Heap w0 [oA (rList (rList (rInt .i64))) v62 x60.1, oA (rList Rimpl_Vertex) v55 x53, oA (rList (rList (rInt .i64))) v48 x46.1] w) ?_ ?_
  ·by_cases hc72 : (!x67) = true
   ·have hm := ite_t hc72 e71
    refine lx_skip S rfl rfl (isB_ne hc72) (by decide) (fun a S => ?_)
    refine lx_skip S rfl rfl (isB_ne hc72) (by decide) (fun a S => ?_)
    refine lx_skip S rfl rfl (isB_ne hc72) (by decide) (fun a S => ?_)
    refine lq (.bool true) S (q_pickT' rfl hc72 rfl) fun a S => ?_
    refine lx_nil ?_
    obtain rfl := Option.some.inj hm
    have H := H.sel [0, 1, 2] (by decide)
    exact ⟨S.sub ⟨rfl, rfl, rfl, rfl, rfl, rfl, rfl, rfl, trivial⟩, H⟩
   ·have hm := ite_f (eq_false_of_ne_true hc72) e71
    have hc72 : (!x67) = false := eq_false_of_ne_true hc72
    refine lx_q (.int .i64 x60.2) S (want_b rfl rfl hc72) (by decide) (q_move rfl) (fun a S => ?_)
    refine lx_q (.int .i64 x46.2) S (want_b rfl rfl hc72) (by decide) (q_move rfl) (fun a S => ?_)
    refine lx_q (.bool (x60.2 != x46.2)) S (want_b rfl rfl hc72) (by decide) (q_neq rfl rfl) (fun a S => ?_)
    refine lq (.bool (x60.2 != x46.2)) S (q_pickF' rfl hc72 rfl) fun a S => ?_
    refine lx_nil ?_
    obtain rfl := Option.some.inj hm
    have H := H.sel [0, 1, 2] (by decide)
    exact ⟨S.sub ⟨rfl, rfl, rfl, rfl, rfl, rfl, rfl, rfl, trivial⟩, H⟩
  ·rintro a w ⟨S, H⟩
   refine lx_nil (thenN ?_)
   refine cond_b S rfl (fun hc73 => ?_) (fun hc73 => ?_)
   ·have hm := ite_t hc73 hm
    refine wp_seq (region_plain ?_)
    refine lq (.bool false) S (q_assign rfl) fun a S => ?_
    refine lx_nil (thenN ?_)
    refine wp_ret (then_ret ?_)
    obtain rfl := Option.some.inj hm
    have H : Heap w0 [] w := H.sel [] (by decide)
    exact leave1 S rfl rfl ⟨rfl, H⟩
   ·have hm := ite_f hc73 hm
    refine wp_skip (thenN ?_)
    refine wp_seq (wp_seq (region_plain ?_))
    refine lq v55 S (q_move rfl) fun a S => ?_
    refine lq p0 S (q_move rfl) fun a S => ?_
    obtain ⟨x76, e77, hm⟩ := bind_some hm
    refine lx_call (xs := [.tmp 46]) S trivial (by decide) rfl rfl Try.call9 ((laws_toVertexS_ok (H.arg h0) e77).mono ?_)
    rintro e w74 ⟨v78, rfl, Hc75⟩
    have H := H.call1 Hc75
    refine ⟨_, rfl, trivial, fun a S => ?_⟩
    obtain ⟨x83, e84, hm⟩ := bind_some hm
    refine lx_call (xs := [.tmp 45, .tmp 47]) S trivial (by decide) rfl rfl Try.call12 ((laws_eqVertexS_ok (H.rdAt 2 rfl) (H.rdAt 0 rfl) e84).mono ?_)
    rintro e w81 ⟨rfl, Hc82⟩
    have H := H.call0 Hc82
    refine ⟨_, rfl, trivial, fun a S => ?_⟩
    refine lq (.bool (!x83)) S (q_not rfl) fun a S => ?_
    refine lx_nil (thenN ?_)
    refine cond_b S rfl (fun hc86 => ?_) (fun hc86 => ?_)
    ·have hm := ite_t hc86 hm
     refine wp_seq (region_plain ?_)
     refine lq (.bool false) S (q_assign rfl) fun a S => ?_
     refine lx_nil (thenN ?_)
     refine wp_ret (then_ret ?_)
     obtain rfl := Option.some.inj hm
     have H : Heap w0 [] w81 := H.sel [] (by decide)
     exact leave1 S rfl rfl ⟨rfl, H⟩
    ·have hm := ite_f hc86 hm
     refine wp_skip (thenN ?_)
     refine wp_seq (region_plain ?_)
     refine lq (.int .i64 (1 : Int)) S (q_assign rfl) fun a S => ?_
     refine lx_nil (thenN ?_)
     refine wp_seq (region_plain ?_)
     refine lq v55 S (q_move rfl) fun a S => ?_
     refine lq (.int .i64 (1 : Int)) S (q_move rfl) fun a S => ?_
     obtain ⟨x89, e90, hm⟩ := bind_some hm
     have H : Heap w0 [oA (rList Rimpl_Vertex) v55 x53, oA (rList Rimpl_Vertex) v78 x76, oA (rList (rList (rInt .i64))) v62 x60.1, oA (rList (rList (rInt .i64))) v48 x46.1] w81 := H.front 2 rfl
     refine lx_call (xs := [.tmp 50, .tmp 51]) S trivial (by decide) rfl rfl Try.call16 ((laws_markVertexS_ok H  e90).mono ?_)
     rintro e w87 ⟨rfl, H⟩
     refine ⟨_, rfl, trivial, fun a S => ?_⟩
     refine lq (.int .i64 x89.1) S (q_assign rfl) fun a S => ?_
     refine lx_nil (thenN ?_)
     refine wp_seq (wp_seq (region_plain ?_))
     refine lq (.int .i64 x89.1) S (q_move rfl) fun a S => ?_
     refine lq (.bool (decide (x89.1 < (0 : Int)))) S (q_lss rfl rfl) fun a S => ?_
     refine lq (.bool (decide (x89.1 < (0 : Int)))) S (q_move rfl) fun a S => ?_
     obtain ⟨t91, e92, hm⟩ := bind_some hm
     refine lx_cut 5 (fun a w => Slots a 101 [(0, p0), (1, (.int .i64 a1)), (6, v48), (7, (.int .i64 x46.2)), (9, v62), (10, (.int .i64 x60.2)), (60, (.bool t91))] ∧ Heap w0 [oA (rList (rList (rInt .i64))) v62 x60.1, oA (rList (rList (rInt .i64))) v48 x46.1] w) ?_ ?_
     ·by_cases hc93 : (decide (x89.1 < (0 : Int))) = true
      ·have hm := ite_t hc93 e92
       refine lx_skip S rfl rfl (isB_ne hc93) (by decide) (fun a S => ?_)
       refine lx_skip S rfl rfl (isB_ne hc93) (by decide) (fun a S => ?_)
       refine lx_skip S rfl rfl (isB_ne hc93) (by decide) (fun a S => ?_)
       refine lx_skip S rfl rfl (isB_ne hc93) (by decide) (fun a S => ?_)
       refine lq (.bool true) S (q_pickT' rfl hc93 rfl) fun a S => ?_
       refine lx_nil ?_
       obtain rfl := Option.some.inj hm
       have H := H.sel [2, 3] (by decide)
       exact ⟨S.sub ⟨rfl, rfl, rfl, rfl, rfl, rfl, rfl, trivial⟩, H⟩
      ·have hm := ite_f (eq_false_of_ne_true hc93) e92
       have hc93 : (decide (x89.1 < (0 : Int))) = false := eq_false_of_ne_true hc93
       refine lx_q v62 S (want_b rfl rfl hc93) (by decide) (q_move rfl) (fun a S => ?_)
       refine lx_q v48 S (want_b rfl rfl hc93) (by decide) (q_move rfl) (fun a S => ?_)
       obtain ⟨x96, e97, hm⟩ := bind_some hm
       refine lx_call (xs := [.tmp 56, .tmp 57]) S (want_b rfl rfl hc93) (by decide) rfl rfl Try.call13 ((laws_eqInt64SS_ok (H.rdAt 2 rfl) (H.rdAt 3 rfl) e97).mono ?_)
       rintro e w94 ⟨rfl, Hc95⟩
       have H := H.call0 Hc95
       refine ⟨_, rfl, trivial, fun a S => ?_⟩
       refine lx_q (.bool (!x96)) S (want_b rfl rfl hc93) (by decide) (q_not rfl) (fun a S => ?_)
       refine lq (.bool (!x96)) S (q_pickF' rfl hc93 rfl) fun a S => ?_
       refine lx_nil ?_
       obtain rfl := Option.some.inj hm
       have H := H.sel [2, 3] (by decide)
       exact ⟨S.sub ⟨rfl, rfl, rfl, rfl, rfl, rfl, rfl, trivial⟩, H⟩
     ·rintro a w ⟨S, H⟩
      refine lq (.bool t91) S (q_move rfl) fun a S => ?_
      obtain ⟨t99, e100, hm⟩ := bind_some hm
      refine lx_cut 4 (fun a w => Slots a 101 [(0, p0), (1, (.int .i64 a1)), (6, v48), (7, (.int .i64 x46.2)), (9, v62), (65, (.bool t99))] ∧ Heap w0 [oA (rList (rList (rInt .i64))) v62 x60.1, oA (rList (rList (rInt .i64))) v48 x46.1] w) ?_ ?_
      ·by_cases hc101 : t91 = true
       ·have hm := ite_t hc101 e100
        refine lx_skip S rfl rfl (isB_ne hc101) (by decide) (fun a S => ?_)
        refine lx_skip S rfl rfl (isB_ne hc101) (by decide) (fun a S => ?_)
        refine lx_skip S rfl rfl (isB_ne hc101) (by decide) (fun a S => ?_)
        refine lq (.bool true) S (q_pickT' rfl hc101 rfl) fun a S => ?_
        refine lx_nil ?_
        obtain rfl := Option.some.inj hm
        exact ⟨S.sub ⟨rfl, rfl, rfl, rfl, rfl, rfl, trivial⟩, H⟩
       ·have hm := ite_f (eq_false_of_ne_true hc101) e100
        have hc101 : t91 = false := eq_false_of_ne_true hc101
        refine lx_q (.int .i64 x60.2) S (want_b rfl rfl hc101) (by decide) (q_move rfl) (fun a S => ?_)
        refine lx_q (.int .i64 x46.2) S (want_b rfl rfl hc101) (by decide) (q_move rfl) (fun a S => ?_)
        refine lx_q (.bool (x60.2 != x46.2)) S (want_b rfl rfl hc101) (by decide) (q_neq rfl rfl) (fun a S => ?_)
        refine lq (.bool (x60.2 != x46.2)) S (q_pickF' rfl hc101 rfl) fun a S => ?_
        refine lx_nil ?_
        obtain rfl := Option.some.inj hm
        exact ⟨S.sub ⟨rfl, rfl, rfl, rfl, rfl, rfl, trivial⟩, H⟩
      ·rintro a w ⟨S, H⟩
       refine lx_nil (thenN ?_)
       refine cond_b S rfl (fun hc102 => ?_) (fun hc102 => ?_)
       ·have hm := ite_t hc102 hm
        refine wp_seq (region_plain ?_)
        refine lq (.bool false) S (q_assign rfl) fun a S => ?_
        refine lx_nil (thenN ?_)
        refine wp_ret (then_ret ?_)
        obtain rfl := Option.some.inj hm
        have H : Heap w0 [] w := H.sel [] (by decide)
        exact leave1 S rfl rfl ⟨rfl, H⟩
       ·have hm := ite_f hc102 hm
        refine wp_skip (thenN ?_)
        refine wp_seq (region_plain ?_)
        refine lq (.int .i64 (1 : Int)) S (q_assign rfl) fun a S => ?_
        refine lx_nil (thenN ?_)
        refine wp_seq (region_plain ?_)
        refine lq v62 S (q_move rfl) fun a S => ?_
        refine lq (.int .i64 (1 : Int)) S (q_move rfl) fun a S => ?_
        obtain ⟨x105, e106, hm⟩ := bind_some hm
        refine lx_call (xs := [.tmp 66, .tmp 67]) S trivial (by decide) rfl rfl Try.call17 ((laws_markInt64SS_ok H  e106).mono ?_)
        rintro e w103 ⟨rfl, H⟩
        refine ⟨_, rfl, trivial, fun a S => ?_⟩
        refine lq (.int .i64 x105.1) S (q_assign rfl) fun a S => ?_
        refine lx_nil (thenN ?_)
        refine wp_seq (region_plain ?_)
        refine lq (.int .i64 (1 : Int)) S (q_assign rfl) fun a S => ?_
        refine lx_nil (thenN ?_)
        refine wp_seq (region_plain ?_)
        refine lq v62 S (q_move rfl) fun a S => ?_
        refine lq (.int .i64 (1 : Int)) S (q_move rfl) fun a S => ?_
        obtain ⟨x109, e110, hm⟩ := bind_some hm
        refine lx_call (xs := [.tmp 69, .tmp 70]) S trivial (by decide) rfl rfl Try.call18 ((laws_heldInt64SS_ok (H.rdAt 0 rfl)  e110).mono ?_)
        rintro e w107 ⟨rfl, Hc108⟩
        have H := H.call0 Hc108
        refine ⟨_, rfl, trivial, fun a S => ?_⟩
        refine lq (.int .i64 x109) S (q_assign rfl) fun a S => ?_
        refine lx_nil (thenN ?_)
        refine wp_seq (wp_seq (region_plain ?_))
        refine lq (.int .i64 x109) S (q_move rfl) fun a S => ?_
        refine lq (.bool (decide (x109 < (0 : Int)))) S (q_lss rfl rfl) fun a S => ?_
        refine lx_nil (thenN ?_)
        refine cond_b S rfl (fun hc112 => ?_) (fun hc112 => ?_)
        ·have hm := ite_t hc112 hm
         refine wp_seq (region_plain ?_)
         refine lq (.bool false) S (q_assign rfl) fun a S => ?_
         refine lx_nil (thenN ?_)
         refine wp_ret (then_ret ?_)
         obtain rfl := Option.some.inj hm
         have H : Heap w0 [] w107 := H.sel [] (by decide)
         exact leave1 S rfl rfl ⟨rfl, H⟩
        ·have hm := ite_f hc112 hm
         refine wp_skip (thenN ?_)
         refine wp_seq (wp_seq (region_plain ?_))
         refine lq (.int .i64 x109) S (q_move rfl) fun a S => ?_
         refine lq (.int .i64 x105.1) S (q_move rfl) fun a S => ?_
         refine lq (.bool (x109 != x105.1)) S (q_neq rfl rfl) fun a S => ?_
         refine lx_nil (thenN ?_)
         refine cond_b S rfl (fun hc113 => ?_) (fun hc113 => ?_)
         ·have hm := ite_t hc113 hm
          refine wp_seq (region_plain ?_)
          refine lq (.bool false) S (q_assign rfl) fun a S => ?_
          refine lx_nil (thenN ?_)
          refine wp_ret (then_ret ?_)
          obtain rfl := Option.some.inj hm
          have H : Heap w0 [] w107 := H.sel [] (by decide)
          exact leave1 S rfl rfl ⟨rfl, H⟩
         ·have hm := ite_f hc113 hm
          refine wp_skip (thenN ?_)
          refine wp_seq (region_plain ?_)
          refine lq p0 S (q_move rfl) fun a S => ?_
          obtain ⟨x116, e117, hm⟩ := bind_some hm
          refine lx_call (xs := [.tmp 78]) S trivial (by decide) rfl rfl Try.call9 ((laws_toVertexS_ok (H.arg h0) e117).mono ?_)
          rintro e w114 ⟨v118, rfl, Hc115⟩
          have H := H.call1 Hc115
          refine ⟨_, rfl, trivial, fun a S => ?_⟩
          refine lq (.int .i64 a1) S (q_move rfl) fun a S => ?_
          obtain ⟨x123, e124, hm⟩ := bind_some hm
          refine lx_call (xs := [.tmp 79, .tmp 80]) S trivial (by decide) rfl rfl Try.call15 ((impl_MeasuresOf_ok (H.rdAt 0 rfl)  e124).mono ?_)
          rintro e w121 ⟨v125, rfl, Hc122⟩
          have H := H.call1 Hc122
          refine ⟨_, rfl, trivial, fun a S => ?_⟩
          refine lq (.tuple #[v125, (.int .i64 x123.2)]) S (q_move rfl) fun a S => ?_
          refine lq v125 S (q_extract rfl rfl) fun a S => ?_
          refine lq (.int .i64 x123.2) S (q_extract rfl rfl) fun a S => ?_
          refine lq v125 S (q_assign rfl) fun a S => ?_
          refine lq (.int .i64 x123.2) S (q_assign rfl) fun a S => ?_
          refine lx_nil (thenN ?_)
          refine wp_seq (wp_seq (region_plain ?_))
          refine lq v125 S (q_move rfl) fun a S => ?_
          refine lq v48 S (q_move rfl) fun a S => ?_
          obtain ⟨x130, e131, hm⟩ := bind_some hm
          refine lx_call (xs := [.tmp 84, .tmp 85]) S trivial (by decide) rfl rfl Try.call13 ((laws_eqInt64SS_ok (H.rdAt 0 rfl) (H.rdAt 3 rfl) e131).mono ?_)
          rintro e w128 ⟨rfl, Hc129⟩
          have H := H.call0 Hc129
          refine ⟨_, rfl, trivial, fun a S => ?_⟩
          refine lq (.bool (!x130)) S (q_not rfl) fun a S => ?_
          refine lq (.bool (!x130)) S (q_move rfl) fun a S => ?_
          obtain ⟨t133, e134, hm⟩ := bind_some hm
          refine lx_cut 4 (fun a w => Slots a 101 [(9, v62), (12, (.int .i64 x105.1)), (92, (.bool t133))] ∧ Heap w0 [oA (rList (rList (rInt .i64))) v62 x105.2] w) ?_ ?_
          ·by_cases hc135 : (!x130) = true
           ·have hm := ite_t hc135 e134
            refine lx_skip S rfl rfl (isB_ne hc135) (by decide) (fun a S => ?_)
            refine lx_skip S rfl rfl (isB_ne hc135) (by decide) (fun a S => ?_)
            refine lx_skip S rfl rfl (isB_ne hc135) (by decide) (fun a S => ?_)
            refine lq (.bool true) S (q_pickT' rfl hc135 rfl) fun a S => ?_
            refine lx_nil ?_
            obtain rfl := Option.some.inj hm
            have H := H.sel [2] (by decide)
            exact ⟨S.sub ⟨rfl, rfl, rfl, trivial⟩, H⟩
           ·have hm := ite_f (eq_false_of_ne_true hc135) e134
            have hc135 : (!x130) = false := eq_false_of_ne_true hc135
            refine lx_q (.int .i64 x123.2) S (want_b rfl rfl hc135) (by decide) (q_move rfl) (fun a S => ?_)
            refine lx_q (.int .i64 x46.2) S (want_b rfl rfl hc135) (by decide) (q_move rfl) (fun a S => ?_)
            refine lx_q (.bool (x123.2 != x46.2)) S (want_b rfl rfl hc135) (by decide) (q_neq rfl rfl) (fun a S => ?_)
            refine lq (.bool (x123.2 != x46.2)) S (q_pickF' rfl hc135 rfl) fun a S => ?_
            refine lx_nil ?_
            obtain rfl := Option.some.inj hm
            have H := H.sel [2] (by decide)
            exact ⟨S.sub ⟨rfl, rfl, rfl, trivial⟩, H⟩
          ·rintro a w ⟨S, H⟩
           refine lx_nil (thenN ?_)
           refine cond_b S rfl (fun hc136 => ?_) (fun hc136 => ?_)
           ·have hm := ite_t hc136 hm
            refine wp_seq (region_plain ?_)
            refine lq (.bool false) S (q_assign rfl) fun a S => ?_
            refine lx_nil (thenN ?_)
            refine wp_ret (then_ret ?_)
            obtain rfl := Option.some.inj hm
            have H : Heap w0 [] w := H.sel [] (by decide)
            exact leave1 S rfl rfl ⟨rfl, H⟩
           ·have hm := ite_f hc136 hm
            refine wp_skip (thenN ?_)
            refine wp_seq (region_plain ?_)
            refine lq (.int .i64 (1 : Int)) S (q_assign rfl) fun a S => ?_
            refine lx_nil (thenN ?_)
            refine wp_seq (region_plain ?_)
            refine lq v62 S (q_move rfl) fun a S => ?_
            refine lq (.int .i64 (1 : Int)) S (q_move rfl) fun a S => ?_
            obtain ⟨x139, e140, hm⟩ := bind_some hm
            refine lx_call (xs := [.tmp 93, .tmp 94]) S trivial (by decide) rfl rfl Try.call18 ((laws_heldInt64SS_ok (H.rdAt 0 rfl)  e140).mono ?_)
            rintro e w137 ⟨rfl, Hc138⟩
            have H := H.call0 Hc138
            refine ⟨_, rfl, trivial, fun a S => ?_⟩
            refine lq (.int .i64 x139) S (q_assign rfl) fun a S => ?_
            refine lx_nil (thenN ?_)
            refine wp_seq (wp_seq (region_plain ?_))
            refine lq (.int .i64 x139) S (q_move rfl) fun a S => ?_
            refine lq (.bool (decide (x139 < (0 : Int)))) S (q_lss rfl rfl) fun a S => ?_
            refine lx_nil (thenN ?_)
            refine cond_b S rfl (fun hc142 => ?_) (fun hc142 => ?_)
            ·have hm := ite_t hc142 hm
             refine wp_seq (region_plain ?_)
             refine lq (.bool false) S (q_assign rfl) fun a S => ?_
             refine lx_nil (thenN ?_)
             refine wp_ret (then_ret ?_)
             obtain rfl := Option.some.inj hm
             have H : Heap w0 [] w137 := H.sel [] (by decide)
             exact leave1 S rfl rfl ⟨rfl, H⟩
            ·have hm := ite_f hc142 hm
             refine wp_skip (thenN ?_)
             refine wp_seq (wp_seq (region_plain ?_))
             refine lq (.int .i64 x139) S (q_move rfl) fun a S => ?_
             refine lq (.int .i64 x105.1) S (q_move rfl) fun a S => ?_
             refine lq (.bool (x139 != x105.1)) S (q_neq rfl rfl) fun a S => ?_
             refine lx_nil (thenN ?_)
             refine cond_b S rfl (fun hc143 => ?_) (fun hc143 => ?_)
             ·have hm := ite_t hc143 hm
              refine wp_seq (region_plain ?_)
              refine lq (.bool false) S (q_assign rfl) fun a S => ?_
              refine lx_nil (thenN ?_)
              refine wp_ret (then_ret ?_)
              obtain rfl := Option.some.inj hm
              have H : Heap w0 [] w137 := H.sel [] (by decide)
              exact leave1 S rfl rfl ⟨rfl, H⟩
             ·have hm := ite_f hc143 hm
              refine wp_skip (thenN ?_)
              refine wp_seq (region_plain ?_)
              refine lq (.bool true) S (q_assign rfl) fun a S => ?_
              refine lx_nil (thenN ?_)
              refine wp_ret ?_
              obtain rfl := Option.some.inj hm
              have H : Heap w0 [] w137 := H.sel [] (by decide)
              exact leave1 S rfl rfl ⟨rfl, H⟩
end Go.Proofs.Ytcddkipbedfhkaa
