/- The models of some functions and their walks (printed by a program of this repo). -/
import Derived.Test.YtecknjdlbmmmiaaF0
import Derived.Test.YtecknjdlbmmmiaaF1
import Derived.Test.YtecknjdlbmmmiaaGxT
namespace Go.Proofs.Ytecknjdlbmmmiaa
open Go.RowKit Go.Gx

/-- spec.l23Kept -/
def spec_l23Kept_m (fuel : Nat) (a0 : (List Timpl_Vertex)) (a1 : Int) (a2 : (List Int)) (a3 : (List Int)) : Option (((List Timpl_Vertex) × Bool)) :=
  (spec_l23Set_m fuel (a0.length : Int) a2).bind fun x33 => (spec_l23Own_m fuel a0).bind fun x40 => (iter (fun (s : (List Timpl_Vertex) × (Int)) => (match s with | (xs265, x266) => (if (decide (x266 < (a0.length : Int))) = true then join (κ := List Timpl_Vertex → Option (((List Timpl_Vertex) × (Int)) ⊕ (((List Timpl_Vertex)) ⊕ (((List Timpl_Vertex) × Bool))))) (fun (xs497 : List Timpl_Vertex) => some (.inl (xs497, (W (x266 + (1 : Int)))))) (fun K498 => (idx x33 x266).bind fun x500 => (if (!x500) = true then (idx xs265 x266).bind fun x509 => (K498 (xs265.set x266.toNat (x509.1, x509.2.1, ([] : List Int)))) else (idx a0 x266).bind fun x512 => (if (x512.1 == a1) = true then (idx a0 x266).bind fun x530 => (idx a3 x266).bind fun x545 => (spec_l00Has_m fuel x530.2.2 x545).bind fun x552 => (if (!x552) = true then some true else (idx a3 x266).bind fun x558 => (idx x33 x558).bind fun x563 => some (!x563)).bind fun t555 => (if t555 = true then some (.inr (.inr ([], false))) else (idx a3 x266).bind fun x567 => (idx xs265 x266).bind fun x575 => (K498 (xs265.set x266.toNat (x575.1, x575.2.1, [x567])))) else (iter (fun (s : (Int)) => (match s with | (x621) => (idx a0 x266).bind fun x673 => (if (decide (x621 < (x673.2.2.length : Int))) = true then (idx a0 x266).bind fun x689 => (idx x689.2.2 x621).bind fun x704 => (idx x33 x704).bind fun x709 => (if (!x709) = true then some (.inr (.inr ([], false))) else some (.inl ((W (x621 + (1 : Int)))))) else some (.inr (.inl ()))) : Option (((Int)) ⊕ ((Unit) ⊕ (((List Timpl_Vertex) × Bool)))))) fuel ((0 : Int))).bind fun res665 => ctl (β := Unit) (ρ := ((List Timpl_Vertex) × Bool)) (τ := (((List Timpl_Vertex) × (Int)) ⊕ (((List Timpl_Vertex)) ⊕ (((List Timpl_Vertex) × Bool))))) res665 (fun _ => (K498 xs265)) (fun q => some (.inr (.inr q)))))) else some (.inr (.inl (xs265)))) : Option (((List Timpl_Vertex) × (Int)) ⊕ (((List Timpl_Vertex)) ⊕ (((List Timpl_Vertex) × Bool)))))) fuel (x40, (0 : Int))).bind fun res488 => ctl (β := (List Timpl_Vertex)) (ρ := ((List Timpl_Vertex) × Bool)) (τ := ((List Timpl_Vertex) × Bool)) res488 (fun (xs487) => some ((xs487, true))) (fun q => some (q))
set_option maxRecDepth 20000 in
theorem spec_l23Kept_ok {w0 : World} {fuel : Nat} {p0 p2 p3 : Value} {a0 : (List Timpl_Vertex)} {a1 : Int} {a2 : (List Int)} {a3 : (List Int)} {r : ((List Timpl_Vertex) × Bool)} (h0 : Rd (rList Rimpl_Vertex) w0 p0 a0) (h2 : Rd (rList (rInt .i64)) w0 p2 a2) (h3 : Rd (rList (rInt .i64)) w0 p3 a3) (hm : spec_l23Kept_m fuel a0 a1 a2 a3 = some r) :
    Calls Try.prog 56 #[p0, .int .i64 a1, p2, p3] w0 fun e w => ∃ (v0 : Value), e = .returned (.tuple #[v0, .bool r.2]) ∧ Heap w0 [oA (rList Rimpl_Vertex) v0 r.1] w := by
  unfold spec_l23Kept_m at hm
  have H := Heap.start w0
  refine enter (args := [p0, .int .i64 a1, p2, p3]) Try.func56 rfl 96 rfl (Nat.le_of_ble_eq_true rfl) (fun a S => ?_)
  refine wp_seq ?_
  refine region_plain ?_
  refine lx_q (.slice none 0 0) S trivial (by decide) (q_assign rfl) (fun a S => ?_)
  refine lx_q (.bool false) S trivial (by decide) (q_assign rfl) (fun a S => ?_)
  refine lx_nil ?_
  refine thenN ?_
  refine wp_seq ?_
  refine region_plain ?_
  refine lx_q p0 S trivial (by decide) (q_move rfl) (fun a S => ?_)
  refine lx_q (.int .i64 (a0.length : Int)) S trivial (by decide) (q_lenSl rfl (h0).isSl rfl Try.underlying26) (fun a S => ?_)
  refine lx_q p2 S trivial (by decide) (q_move rfl) (fun a S => ?_)
  obtain ⟨x33, e34, hm⟩ := bind_some hm
  refine lx_call (xs := [.tmp 15, .tmp 16]) S trivial (by decide) rfl rfl Try.call110 ((spec_l23Set_ok  (H.arg h2) e34).mono ?_)
  rintro e w31 ⟨v35, rfl, Hc32⟩
  have he37 := Hc32.ext
  have H := H.call1 Hc32
  refine ⟨_, rfl, trivial, fun a S => ?_⟩
  refine lx_q v35 S trivial (by decide) (q_assign rfl) (fun a S => ?_)
  refine lx_nil ?_
  refine thenN ?_
  refine wp_seq ?_
  refine region_plain ?_
  refine lx_q p0 S trivial (by decide) (q_move rfl) (fun a S => ?_)
  obtain ⟨x40, e41, hm⟩ := bind_some hm
  refine lx_call (xs := [.tmp 18]) S trivial (by decide) rfl rfl Try.call100 ((spec_l23Own_ok (H.arg h0) e41).mono ?_)
  rintro e w38 ⟨v42, rfl, Hc39⟩
  have he44 := Hc39.ext
  have H := H.call1 Hc39
  refine ⟨_, rfl, trivial, fun a S => ?_⟩
  refine lx_q v42 S trivial (by decide) (q_assign rfl) (fun a S => ?_)
  refine lx_nil ?_
  refine thenN ?_
  refine wp_seq ?_
  refine wp_seq ?_
  refine region_plain ?_
  refine lx_q (.int .i64 (0 : Int)) S trivial (by decide) (q_assign rfl) (fun a S => ?_)
  refine lx_nil ?_
  refine thenN ?_
  obtain ⟨res488, hit489, hk492⟩ := bind_some hm
  obtain ⟨f490, hf491, hit489⟩ := iter_name hit489
  refine block_loop (fun a w => ∃ (xs487 : List Timpl_Vertex), Slots a 96 [(11, v42)] ∧ Heap w0 [oA (rList Rimpl_Vertex) v42 xs487] w ∧ res488 = .inl (xs487)) ?_ ?_
  · rintro a w ⟨xs487, S, H, rfl⟩
    have hm := ctl_inl hk492
    refine thenN ?_
    refine wp_seq ?_
    refine region_plain ?_
    refine lx_q v42 S trivial (by decide) (q_move rfl) (fun a S => ?_)
    refine lx_q v42 S trivial (by decide) (q_assign rfl) (fun a S => ?_)
    refine lx_q (.bool true) S trivial (by decide) (q_assign rfl) (fun a S => ?_)
    refine lx_nil ?_
    refine thenN ?_
    refine wp_ret ?_
    obtain rfl := Option.some.inj hm
    exact leave2 S rfl rfl rfl ⟨v42, rfl, H⟩
  · skip
    have H : Heap w0 [oA (rList rBool) v35 x33, oA (rList Rimpl_Vertex) v42 x40] w38 := H.front 1 rfl
    refine loop_ghost (fun n a w => ∃ (xs265 : List Timpl_Vertex) (x266 : Int), Slots a 96 [(0, p0), (1, (.int .i64 a1)), (3, p3), (10, v35), (11, v42), (12, (.int .i64 x266))] ∧ Heap w0 [oA (rList rBool) v35 x33, oA (rList Rimpl_Vertex) v42 xs265] w ∧ iter f490 n (xs265, x266) = some res488) _ ⟨x40, (0 : Int), S.sub ⟨rfl, rfl, rfl, rfl, rfl, rfl, trivial⟩, H, hit489⟩ ?_
    rintro n a w ⟨xs265, x266, S, H, hit489⟩
    obtain ⟨m493, o494, rfl, hm, hc495⟩ := iter_step hit489
    rw [hf491] at hm
    refine wp_seq ?_
    refine wp_seq ?_
    refine region_plain ?_
    refine lx_q (.int .i64 x266) S trivial (by decide) (q_move rfl) (fun a S => ?_)
    refine lx_q p0 S trivial (by decide) (q_move rfl) (fun a S => ?_)
    refine lx_q (.int .i64 (a0.length : Int)) S trivial (by decide) (q_lenSl rfl (h0).isSl rfl Try.underlying26) (fun a S => ?_)
    refine lx_q (.bool (decide (x266 < (a0.length : Int)))) S trivial (by decide) (q_lss rfl rfl) (fun a S => ?_)
    refine lx_nil ?_
    refine thenN ?_
    refine cond_b S rfl (fun hc496 => ?_) (fun hc496 => ?_)
    · have hm := ite_t hc496 hm
      refine wp_skip ?_
      refine thenN ?_
      obtain ⟨K498, hK499, hm⟩ := join_elim hm
      refine seq_cut (fun a w => ∃ (xs497 : List Timpl_Vertex), Slots a 96 [(0, p0), (1, (.int .i64 a1)), (3, p3), (10, v35), (11, v42), (12, (.int .i64 x266))] ∧ Heap w0 [oA (rList rBool) v35 x33, oA (rList Rimpl_Vertex) v42 xs497] w ∧ K498 xs497 = some o494) ?_ ?_
      · rintro a w ⟨xs497, S, H, hm⟩
        subst hK499
        refine region_plain ?_
        refine lx_q (.int .i64 x266) S trivial (by decide) (q_move rfl) (fun a S => ?_)
        refine lx_q (.int .i64 (W (x266 + (1 : Int)))) S trivial (by decide) (q_add rfl rfl) (fun a S => ?_)
        refine lx_q (.int .i64 (W (x266 + (1 : Int)))) S trivial (by decide) (q_assign rfl) (fun a S => ?_)
        refine lx_nil ?_
        exact ⟨m493, Nat.lt_succ_self _, xs497, (W (x266 + (1 : Int))), S.sub ⟨rfl, rfl, rfl, rfl, rfl, rfl, trivial⟩, H, it_cont hm hc495⟩
      · skip
        refine wp_block ?_
        refine wp_seq ?_
        refine wp_seq ?_
        refine region_plain ?_
        refine lx_q v35 S trivial (by decide) (q_move rfl) (fun a S => ?_)
        refine lx_q (.int .i64 x266) S trivial (by decide) (q_move rfl) (fun a S => ?_)
        obtain ⟨x500, e501, hm⟩ := bind_some hm
        have hlt := lt_of_idx (idx_some e501).2
        refine lx_q (ePtr v35 (x266.toNat * 1)) S trivial (by decide) (q_indexAddr rfl (H.isSl 0 rfl) rfl (idx_some e501).1 hlt Try.underlying113 Try.sizeOf4) (fun a S => ?_)
        obtain ⟨c502, h503, hat504⟩ := (H.rdAt 0 rfl).elem (idx_some e501).2
        obtain rfl := h503
        refine lx_e (.bool x500) S trivial (by decide) rfl trivial (q_load1 rfl Try.isAgg4 (by rintro _ rfl; exact (hat504 0 _ rfl))) (fun a S => ?_)
        refine lx_q (.bool (!x500)) S trivial (by decide) (q_not rfl) (fun a S => ?_)
        refine lx_nil ?_
        refine thenN ?_
        refine cond_b S rfl (fun hc505 => ?_) (fun hc505 => ?_)
        · have hm := ite_t hc505 hm
          refine wp_seq ?_
          refine region_plain ?_
          refine lx_q v42 S trivial (by decide) (q_move rfl) (fun a S => ?_)
          refine lx_q (.int .i64 x266) S trivial (by decide) (q_move rfl) (fun a S => ?_)
          refine lx_buildSlice0 (r := (rInt .i64)) S trivial (by decide) rfl H Try.underlying23 Try.sizeOf2 (fun v506 w507 H => ⟨trivial, fun a S => ?_⟩)
          obtain ⟨x509, e510, hm⟩ := bind_some hm
          have hlt := lt_of_idx (idx_some e510).2
          refine lx_q (ePtr v42 (x266.toNat * 3)) S trivial (by decide) (q_indexAddr rfl (H.isSl 2 rfl) rfl (idx_some e510).1 hlt Try.underlying26 Try.sizeOf71) (fun a S => ?_)
          refine lx_q (pAdd (ePtr v42 (x266.toNat * 3)) 2) S trivial (by decide) (q_fieldAddr' 2 23 rfl (((H.isSl 2 rfl)).ptr (lt_of_idx (idx_some e510).2) _) Try.underlying71 rfl Try.sizeOf23) (fun a S => ?_)
          have hcl : Value.cells v506 = List.toArray [v506] := (cells_sl (H.isSl 0 rfl))
          have hon : ∀ c ∈ ([v506] : List Value), c.oneCell' = true := (List.forall_mem_cons.2 ⟨one_sl (H.isSl 0 rfl), (fun _ h => nomatch h)⟩)
          have H : Heap w0 [oA (rList Rimpl_Vertex) v42 xs265, oA (rList (rInt .i64)) v506 ([] : List Int), oA (rList rBool) v35 x33] w507 := H.front 2 rfl
          refine lx_storeElem (r := Rimpl_Vertex) (us := [v506]) (off := 2) (e' := (x509.1, x509.2.1, ([] : List Int))) S trivial rfl H rfl rfl (idx_some e510).2 hcl Try.sizeOf23 (Nat.le_of_ble_eq_true rfl) hon (Upd.snd (off := 1) (Upd.snd (off := 0) (Upd.full rfl (fun w G hG => oA_list.1 hG)))) (fun w511 H => ⟨trivial, fun a S => ?_⟩)
          refine lx_nil ?_
          refine thenN ?_
          refine wp_exit ?_
          refine then_exit ?_
          refine inBlock_exit ?_
          have H : Heap w0 [oA (rList rBool) v35 x33, oA (rList Rimpl_Vertex) v42 (xs265.set x266.toNat (x509.1, x509.2.1, ([] : List Int)))] w511 := H.front 1 rfl
          exact ⟨(xs265.set x266.toNat (x509.1, x509.2.1, ([] : List Int))), S.sub ⟨rfl, rfl, rfl, rfl, rfl, rfl, trivial⟩, H, hm⟩
        · have hm := ite_f hc505 hm
          refine wp_skip ?_
          refine thenN ?_
          refine wp_seq ?_
          refine wp_seq ?_
          refine region_plain ?_
          refine lx_q p0 S trivial (by decide) (q_move rfl) (fun a S => ?_)
          refine lx_q (.int .i64 x266) S trivial (by decide) (q_move rfl) (fun a S => ?_)
          obtain ⟨x512, e513, hm⟩ := bind_some hm
          obtain ⟨c514, h515, hat516⟩ := (h0).elem (idx_some e513).2
          obtain ⟨c519, c520, rfl, h521, h522⟩ := h515
          obtain rfl := h521
          obtain ⟨c523, c524, rfl, h525, h526⟩ := h522
          obtain rfl := h525
          obtain ⟨v517, rfl, h518⟩ := rd_list h526
          have hlt := lt_of_idx (idx_some e513).2
          refine lx_q (ePtr p0 (x266.toNat * 3)) S trivial (by decide) (q_indexAddr rfl (h0).isSl rfl (idx_some e513).1 hlt Try.underlying26 Try.sizeOf71) (fun a S => ?_)
          refine lx_q (pAdd (ePtr p0 (x266.toNat * 3)) 0) S trivial (by decide) (q_fieldAddr' 0 2 rfl ((hat516 0 _ rfl).isP) Try.underlying71 rfl Try.sizeOf2) (fun a S => ?_)
          refine lx_e (.int .i64 x512.1) S trivial (by decide) rfl trivial (q_load1 rfl Try.isAgg2 (by rintro _ rfl; exact (At.of_add (m := 0) (j := 0) ((hat516 0 _ rfl).ext H.ext)))) (fun a S => ?_)
          refine lx_q (.int .i64 a1) S trivial (by decide) (q_move rfl) (fun a S => ?_)
          refine lx_q (.bool (x512.1 == a1)) S trivial (by decide) (q_eql rfl rfl) (fun a S => ?_)
          refine lx_nil ?_
          refine thenN ?_
          refine cond_b S rfl (fun hc527 => ?_) (fun hc527 => ?_)
          · have hm := ite_t hc527 hm
            refine wp_seq ?_
            refine wp_seq ?_
            refine region_drawG (fun w1 => Heap w0 [oA (rList rBool) v35 x33] w1) (fun i => [9].contains i) mixed (by kernel_rfl) (fun w529 he528 => ?_)
            have H := H.later he528
            refine ⟨H.sel [0] (by decide), ?_⟩
            refine lx_q p0 S trivial (by decide) (q_move rfl) (fun a S => ?_)
            refine lx_q (.int .i64 x266) S trivial (by decide) (q_move rfl) (fun a S => ?_)
            obtain ⟨x530, e531, hm⟩ := bind_some hm
            obtain ⟨c532, h533, hat534⟩ := (h0).elem (idx_some e531).2
            obtain ⟨c537, c538, rfl, h539, h540⟩ := h533
            obtain rfl := h539
            obtain ⟨c541, c542, rfl, h543, h544⟩ := h540
            obtain rfl := h543
            obtain ⟨v535, rfl, h536⟩ := rd_list h544
            have hlt := lt_of_idx (idx_some e531).2
            refine lx_q (ePtr p0 (x266.toNat * 3)) S trivial (by decide) (q_indexAddr rfl (h0).isSl rfl (idx_some e531).1 hlt Try.underlying26 Try.sizeOf71) (fun a S => ?_)
            refine lx_q (pAdd (ePtr p0 (x266.toNat * 3)) 2) S trivial (by decide) (q_fieldAddr' 2 23 rfl ((hat534 0 _ rfl).isP) Try.underlying71 rfl Try.sizeOf23) (fun a S => ?_)
            refine lx_q v535 S trivial (by decide) (q_load1 rfl Try.isAgg23 (fun w1 hC => (At.of_add (m := 2) (j := 0) ((hat534 2 _ rfl).ext hC.ext)))) (fun a S => ?_)
            refine lx_q p3 S trivial (by decide) (q_move rfl) (fun a S => ?_)
            refine lx_q (.int .i64 x266) S trivial (by decide) (q_move rfl) (fun a S => ?_)
            obtain ⟨x545, e546, hm⟩ := bind_some hm
            obtain ⟨c547, h548, hat549⟩ := (h3).elem (idx_some e546).2
            obtain rfl := h548
            have hlt := lt_of_idx (idx_some e546).2
            refine lx_q (ePtr p3 (x266.toNat * 1)) S trivial (by decide) (q_indexAddr rfl (h3).isSl rfl (idx_some e546).1 hlt Try.underlying23 Try.sizeOf2) (fun a S => ?_)
            refine lx_q (.int .i64 x545) S trivial (by decide) (q_load1 rfl Try.isAgg2 (fun w1 hC => ((hat549 0 _ rfl).ext hC.ext))) (fun a S => ?_)
            obtain ⟨x552, e553, hm⟩ := bind_some hm
            refine lx_call (xs := [.tmp 47, .tmp 51]) S trivial (by decide) rfl rfl Try.call111 ((spec_l00Has_ok (H.arg h536)  e553).mono ?_)
            rintro e w550 ⟨rfl, Hc551⟩
            have he554 := Hc551.ext
            have H := H.call0 Hc551
            refine ⟨_, rfl, H.sel [0] (by decide), fun a S => ?_⟩
            refine lx_q (.bool (!x552)) S trivial (by decide) (q_not rfl) (fun a S => ?_)
            refine lx_q (.bool (!x552)) S trivial (by decide) (q_move rfl) (fun a S => ?_)
            obtain ⟨t555, e556, hm⟩ := bind_some hm
            refine lx_cut 9 (fun a w => Slots a 96 [(0, p0), (1, (.int .i64 a1)), (3, p3), (10, v35), (11, v42), (12, (.int .i64 x266)), (63, (.bool t555))] ∧ Heap w0 [oA (rList rBool) v35 x33, oA (rList Rimpl_Vertex) v42 xs265] w) ?_ ?_
            · by_cases hc557 : (!x552) = true
              · have hm := ite_t hc557 e556
                refine lx_skip S rfl rfl (isB_ne hc557) (by decide) (fun a S => ?_)
                refine lx_skip S rfl rfl (isB_ne hc557) (by decide) (fun a S => ?_)
                refine lx_skip S rfl rfl (isB_ne hc557) (by decide) (fun a S => ?_)
                refine lx_skip S rfl rfl (isB_ne hc557) (by decide) (fun a S => ?_)
                refine lx_skip S rfl rfl (isB_ne hc557) (by decide) (fun a S => ?_)
                refine lx_skip S rfl rfl (isB_ne hc557) (by decide) (fun a S => ?_)
                refine lx_skip S rfl rfl (isB_ne hc557) (by decide) (fun a S => ?_)
                refine lx_skip S rfl rfl (isB_ne hc557) (by decide) (fun a S => ?_)
                refine lx_q (.bool true) S trivial (by decide) (q_pickT' rfl hc557 rfl) (fun a S => ?_)
                refine lx_nil ?_
                obtain rfl := Option.some.inj hm
                exact ⟨S.sub ⟨rfl, rfl, rfl, rfl, rfl, rfl, rfl, trivial⟩, H⟩
              · have hm := ite_f (eq_false_of_ne_true hc557) e556
                have hc557 : (!x552) = false := eq_false_of_ne_true hc557
                refine lx_q v35 S (want_b rfl rfl hc557) (by decide) (q_move rfl) (fun a S => ?_)
                refine lx_q p3 S (want_b rfl rfl hc557) (by decide) (q_move rfl) (fun a S => ?_)
                refine lx_q (.int .i64 x266) S (want_b rfl rfl hc557) (by decide) (q_move rfl) (fun a S => ?_)
                obtain ⟨x558, e559, hm⟩ := bind_some hm
                obtain ⟨c560, h561, hat562⟩ := (h3).elem (idx_some e559).2
                obtain rfl := h561
                have hlt := lt_of_idx (idx_some e559).2
                refine lx_q (ePtr p3 (x266.toNat * 1)) S (want_b rfl rfl hc557) (by decide) (q_indexAddr rfl (h3).isSl rfl (idx_some e559).1 hlt Try.underlying23 Try.sizeOf2) (fun a S => ?_)
                refine lx_q (.int .i64 x558) S (want_b rfl rfl hc557) (by decide) (q_load1 rfl Try.isAgg2 (fun w1 hC => ((hat562 0 _ rfl).ext hC.ext))) (fun a S => ?_)
                obtain ⟨x563, e564, hm⟩ := bind_some hm
                have hlt := lt_of_idx (idx_some e564).2
                refine lx_q (ePtr v35 (x558.toNat * 1)) S (want_b rfl rfl hc557) (by decide) (q_indexAddr rfl (H.isSl 0 rfl) rfl (idx_some e564).1 hlt Try.underlying113 Try.sizeOf4) (fun a S => ?_)
                refine lx_q (.bool x563) S (want_b rfl rfl hc557) (by decide) (q_load1 rfl Try.isAgg4 (fun w1 hC => ((hC.rdAt 0 rfl).elemAt (j := 0) (idx_some e564).2 (by intro B w cs h; obtain rfl := h; rfl)))) (fun a S => ?_)
                refine lx_q (.bool (!x563)) S (want_b rfl rfl hc557) (by decide) (q_not rfl) (fun a S => ?_)
                refine lx_q (.bool (!x563)) S trivial (by decide) (q_pickF' rfl hc557 rfl) (fun a S => ?_)
                refine lx_nil ?_
                obtain rfl := Option.some.inj hm
                exact ⟨S.sub ⟨rfl, rfl, rfl, rfl, rfl, rfl, rfl, trivial⟩, H⟩
            · rintro a w ⟨S, H⟩
              refine lx_nil ?_
              refine thenN ?_
              refine cond_b S rfl (fun hc565 => ?_) (fun hc565 => ?_)
              · have hm := ite_t hc565 hm
                refine wp_seq ?_
                refine region_plain ?_
                refine lx_q (.slice none 0 0) S trivial (by decide) (q_assign rfl) (fun a S => ?_)
                refine lx_q (.bool false) S trivial (by decide) (q_assign rfl) (fun a S => ?_)
                refine lx_nil ?_
                refine thenN ?_
                refine wp_ret ?_
                refine then_ret ?_
                refine then_ret ?_
                refine inBlock_ret ?_
                refine then_ret ?_
                refine then_ret ?_
                refine inBlock_ret ?_
                refine then_ret ?_
                refine then_ret ?_
                obtain rfl := it_brk hm hc495
                have hm := ctl_inr hk492
                obtain rfl := Option.some.inj hm
                have H : Heap w0 [oA (rList Rimpl_Vertex) (.slice none 0 0) ([] : List Timpl_Vertex), oA (rList rBool) v35 x33, oA (rList Rimpl_Vertex) v42 xs265] w := H.nilList Rimpl_Vertex
                have H : Heap w0 [oA (rList Rimpl_Vertex) (.slice none 0 0) ([] : List Timpl_Vertex)] w := H.sel [0] (by decide)
                exact leave2 S rfl rfl rfl ⟨(.slice none 0 0), rfl, H⟩
              · have hm := ite_f hc565 hm
                refine wp_skip ?_
                refine thenN ?_
                refine wp_seq ?_
                refine region_plain ?_
                refine lx_q v42 S trivial (by decide) (q_move rfl) (fun a S => ?_)
                refine lx_q (.int .i64 x266) S trivial (by decide) (q_move rfl) (fun a S => ?_)
                refine lx_q p3 S trivial (by decide) (q_move rfl) (fun a S => ?_)
                refine lx_q (.int .i64 x266) S trivial (by decide) (q_move rfl) (fun a S => ?_)
                obtain ⟨x567, e568, hm⟩ := bind_some hm
                obtain ⟨c569, h570, hat571⟩ := (h3).elem (idx_some e568).2
                obtain rfl := h570
                have hlt := lt_of_idx (idx_some e568).2
                refine lx_q (ePtr p3 (x266.toNat * 1)) S trivial (by decide) (q_indexAddr rfl (h3).isSl rfl (idx_some e568).1 hlt Try.underlying23 Try.sizeOf2) (fun a S => ?_)
                refine lx_e (.int .i64 x567) S trivial (by decide) rfl trivial (q_load1 rfl Try.isAgg2 (by rintro _ rfl; exact ((hat571 0 _ rfl).ext H.ext))) (fun a S => ?_)
                refine lx_buildSlice (r := (rInt .i64)) (xs := [x567]) (ps := [(0, [(.int .i64 x567)])]) (cs := [(.int .i64 x567)]) (parts := [(0, .tmp 69)]) S trivial (by decide) rfl (H.put0 (A := eA) rfl) rfl Try.underlying23 Try.sizeOf2 Try.zeroValue2 (by decide) ⟨rfl, rfl, Nat.le_of_ble_eq_true rfl, trivial⟩ (by intro zs hz; exact fill_dense hz ⟨rfl, trivial⟩ rfl rfl) rfl (by decide) (fun w F hA => by cases (show F = [] from hA); exact ⟨_, _, [(.int .i64 x567)], _, rfl, rfl, ⟨rfl, rfl⟩, ⟨rfl, rfl⟩⟩) (fun v572 w573 H => ⟨trivial, fun a S => ?_⟩)
                obtain ⟨x575, e576, hm⟩ := bind_some hm
                have hlt := lt_of_idx (idx_some e576).2
                refine lx_q (ePtr v42 (x266.toNat * 3)) S trivial (by decide) (q_indexAddr rfl (H.isSl 2 rfl) rfl (idx_some e576).1 hlt Try.underlying26 Try.sizeOf71) (fun a S => ?_)
                refine lx_q (pAdd (ePtr v42 (x266.toNat * 3)) 2) S trivial (by decide) (q_fieldAddr' 2 23 rfl (((H.isSl 2 rfl)).ptr (lt_of_idx (idx_some e576).2) _) Try.underlying71 rfl Try.sizeOf23) (fun a S => ?_)
                have hcl : Value.cells v572 = List.toArray [v572] := (cells_sl (H.isSl 0 rfl))
                have hon : ∀ c ∈ ([v572] : List Value), c.oneCell' = true := (List.forall_mem_cons.2 ⟨one_sl (H.isSl 0 rfl), (fun _ h => nomatch h)⟩)
                have H : Heap w0 [oA (rList Rimpl_Vertex) v42 xs265, oA (rList (rInt .i64)) v572 [x567], oA (rList rBool) v35 x33] w573 := H.front 2 rfl
                refine lx_storeElem (r := Rimpl_Vertex) (us := [v572]) (off := 2) (e' := (x575.1, x575.2.1, [x567])) S trivial rfl H rfl rfl (idx_some e576).2 hcl Try.sizeOf23 (Nat.le_of_ble_eq_true rfl) hon (Upd.snd (off := 1) (Upd.snd (off := 0) (Upd.full rfl (fun w G hG => oA_list.1 hG)))) (fun w577 H => ⟨trivial, fun a S => ?_⟩)
                refine lx_nil ?_
                refine thenN ?_
                refine wp_exit ?_
                refine then_exit ?_
                refine inBlock_exit ?_
                have H : Heap w0 [oA (rList rBool) v35 x33, oA (rList Rimpl_Vertex) v42 (xs265.set x266.toNat (x575.1, x575.2.1, [x567]))] w577 := H.front 1 rfl
                exact ⟨(xs265.set x266.toNat (x575.1, x575.2.1, [x567])), S.sub ⟨rfl, rfl, rfl, rfl, rfl, rfl, trivial⟩, H, hm⟩
          · have hm := ite_f hc527 hm
            refine wp_skip ?_
            refine thenN ?_
            refine wp_seq ?_
            refine region_plain ?_
            refine lx_q (.int .i64 (0 : Int)) S trivial (by decide) (q_assign rfl) (fun a S => ?_)
            refine lx_nil ?_
            refine thenN ?_
            obtain ⟨res665, hit666, hk669⟩ := bind_some hm
            obtain ⟨f667, hf668, hit666⟩ := iter_name hit666
            refine block_loop (fun a w => Slots a 96 [(0, p0), (1, (.int .i64 a1)), (3, p3), (10, v35), (11, v42), (12, (.int .i64 x266))] ∧ Heap w0 [oA (rList rBool) v35 x33, oA (rList Rimpl_Vertex) v42 xs265] w ∧ res665 = .inl ()) ?_ ?_
            · rintro a w ⟨S, H, rfl⟩
              have hm := ctl_inl hk669
              refine inBlock_norm ?_
              exact ⟨xs265, S.sub ⟨rfl, rfl, rfl, rfl, rfl, rfl, trivial⟩, H, hm⟩
            · skip
              refine loop_ghost (fun n a w => ∃ (x621 : Int), Slots a 96 [(0, p0), (1, (.int .i64 a1)), (3, p3), (10, v35), (11, v42), (12, (.int .i64 x266)), (13, (.int .i64 x621))] ∧ Heap w0 [oA (rList rBool) v35 x33, oA (rList Rimpl_Vertex) v42 xs265] w ∧ iter f667 n (x621) = some res665) _ ⟨(0 : Int), S.sub ⟨rfl, rfl, rfl, rfl, rfl, rfl, rfl, trivial⟩, H, hit666⟩ ?_
              rintro n a w ⟨x621, S, H, hit666⟩
              obtain ⟨m670, o671, rfl, hm, hc672⟩ := iter_step hit666
              rw [hf668] at hm
              refine wp_seq ?_
              refine wp_seq ?_
              refine region_plain ?_
              refine lx_q (.int .i64 x621) S trivial (by decide) (q_move rfl) (fun a S => ?_)
              refine lx_q p0 S trivial (by decide) (q_move rfl) (fun a S => ?_)
              refine lx_q (.int .i64 x266) S trivial (by decide) (q_move rfl) (fun a S => ?_)
              obtain ⟨x673, e674, hm⟩ := bind_some hm
              obtain ⟨c675, h676, hat677⟩ := (h0).elem (idx_some e674).2
              obtain ⟨c680, c681, rfl, h682, h683⟩ := h676
              obtain rfl := h682
              obtain ⟨c684, c685, rfl, h686, h687⟩ := h683
              obtain rfl := h686
              obtain ⟨v678, rfl, h679⟩ := rd_list h687
              have hlt := lt_of_idx (idx_some e674).2
              refine lx_q (ePtr p0 (x266.toNat * 3)) S trivial (by decide) (q_indexAddr rfl (h0).isSl rfl (idx_some e674).1 hlt Try.underlying26 Try.sizeOf71) (fun a S => ?_)
              refine lx_q (pAdd (ePtr p0 (x266.toNat * 3)) 2) S trivial (by decide) (q_fieldAddr' 2 23 rfl ((hat677 0 _ rfl).isP) Try.underlying71 rfl Try.sizeOf23) (fun a S => ?_)
              refine lx_e v678 S trivial (by decide) rfl trivial (q_load1 rfl Try.isAgg23 (by rintro _ rfl; exact (At.of_add (m := 2) (j := 0) ((hat677 2 _ rfl).ext H.ext)))) (fun a S => ?_)
              refine lx_q (.int .i64 (x673.2.2.length : Int)) S trivial (by decide) (q_lenSl rfl (h679).isSl rfl Try.underlying23) (fun a S => ?_)
              refine lx_q (.bool (decide (x621 < (x673.2.2.length : Int)))) S trivial (by decide) (q_lss rfl rfl) (fun a S => ?_)
              refine lx_nil ?_
              refine thenN ?_
              refine cond_b S rfl (fun hc688 => ?_) (fun hc688 => ?_)
              · have hm := ite_t hc688 hm
                refine wp_skip ?_
                refine thenN ?_
                refine wp_seq ?_
                refine wp_block ?_
                refine wp_seq ?_
                refine region_plain ?_
                refine lx_q v35 S trivial (by decide) (q_move rfl) (fun a S => ?_)
                refine lx_q p0 S trivial (by decide) (q_move rfl) (fun a S => ?_)
                refine lx_q (.int .i64 x266) S trivial (by decide) (q_move rfl) (fun a S => ?_)
                obtain ⟨x689, e690, hm⟩ := bind_some hm
                obtain ⟨c691, h692, hat693⟩ := (h0).elem (idx_some e690).2
                obtain ⟨c696, c697, rfl, h698, h699⟩ := h692
                obtain rfl := h698
                obtain ⟨c700, c701, rfl, h702, h703⟩ := h699
                obtain rfl := h702
                obtain ⟨v694, rfl, h695⟩ := rd_list h703
                have hlt := lt_of_idx (idx_some e690).2
                refine lx_q (ePtr p0 (x266.toNat * 3)) S trivial (by decide) (q_indexAddr rfl (h0).isSl rfl (idx_some e690).1 hlt Try.underlying26 Try.sizeOf71) (fun a S => ?_)
                refine lx_q (pAdd (ePtr p0 (x266.toNat * 3)) 2) S trivial (by decide) (q_fieldAddr' 2 23 rfl ((hat693 0 _ rfl).isP) Try.underlying71 rfl Try.sizeOf23) (fun a S => ?_)
                refine lx_e v694 S trivial (by decide) rfl trivial (q_load1 rfl Try.isAgg23 (by rintro _ rfl; exact (At.of_add (m := 2) (j := 0) ((hat693 2 _ rfl).ext H.ext)))) (fun a S => ?_)
                refine lx_q (.int .i64 x621) S trivial (by decide) (q_move rfl) (fun a S => ?_)
                obtain ⟨x704, e705, hm⟩ := bind_some hm
                obtain ⟨c706, h707, hat708⟩ := (h695).elem (idx_some e705).2
                obtain rfl := h707
                have hlt := lt_of_idx (idx_some e705).2
                refine lx_q (ePtr v694 (x621.toNat * 1)) S trivial (by decide) (q_indexAddr rfl (h695).isSl rfl (idx_some e705).1 hlt Try.underlying23 Try.sizeOf2) (fun a S => ?_)
                refine lx_e (.int .i64 x704) S trivial (by decide) rfl trivial (q_load1 rfl Try.isAgg2 (by rintro _ rfl; exact ((hat708 0 _ rfl).ext H.ext))) (fun a S => ?_)
                obtain ⟨x709, e710, hm⟩ := bind_some hm
                have hlt := lt_of_idx (idx_some e710).2
                refine lx_q (ePtr v35 (x704.toNat * 1)) S trivial (by decide) (q_indexAddr rfl (H.isSl 0 rfl) rfl (idx_some e710).1 hlt Try.underlying113 Try.sizeOf4) (fun a S => ?_)
                obtain ⟨c711, h712, hat713⟩ := (H.rdAt 0 rfl).elem (idx_some e710).2
                obtain rfl := h712
                refine lx_e (.bool x709) S trivial (by decide) rfl trivial (q_load1 rfl Try.isAgg4 (by rintro _ rfl; exact (hat713 0 _ rfl))) (fun a S => ?_)
                refine lx_q (.bool (!x709)) S trivial (by decide) (q_not rfl) (fun a S => ?_)
                refine lx_nil ?_
                refine thenN ?_
                refine cond_b S rfl (fun hc714 => ?_) (fun hc714 => ?_)
                · have hm := ite_t hc714 hm
                  refine wp_seq ?_
                  refine region_plain ?_
                  refine lx_q (.slice none 0 0) S trivial (by decide) (q_assign rfl) (fun a S => ?_)
                  refine lx_q (.bool false) S trivial (by decide) (q_assign rfl) (fun a S => ?_)
                  refine lx_nil ?_
                  refine thenN ?_
                  refine wp_ret ?_
                  refine inBlock_ret ?_
                  refine then_ret ?_
                  refine then_ret ?_
                  refine inBlock_ret ?_
                  refine then_ret ?_
                  refine inBlock_ret ?_
                  refine then_ret ?_
                  refine then_ret ?_
                  refine inBlock_ret ?_
                  refine then_ret ?_
                  refine then_ret ?_
                  obtain rfl := it_brk hm hc672
                  have hm := ctl_inr hk669
                  obtain rfl := it_brk hm hc495
                  have hm := ctl_inr hk492
                  obtain rfl := Option.some.inj hm
                  have H : Heap w0 [oA (rList Rimpl_Vertex) (.slice none 0 0) ([] : List Timpl_Vertex), oA (rList rBool) v35 x33, oA (rList Rimpl_Vertex) v42 xs265] w := H.nilList Rimpl_Vertex
                  have H : Heap w0 [oA (rList Rimpl_Vertex) (.slice none 0 0) ([] : List Timpl_Vertex)] w := H.sel [0] (by decide)
                  exact leave2 S rfl rfl rfl ⟨(.slice none 0 0), rfl, H⟩
                · have hm := ite_f hc714 hm
                  refine wp_skip ?_
                  refine inBlock_norm ?_
                  refine thenN ?_
                  refine region_plain ?_
                  refine lx_q (.int .i64 x621) S trivial (by decide) (q_move rfl) (fun a S => ?_)
                  refine lx_q (.int .i64 (W (x621 + (1 : Int)))) S trivial (by decide) (q_add rfl rfl) (fun a S => ?_)
                  refine lx_q (.int .i64 (W (x621 + (1 : Int)))) S trivial (by decide) (q_assign rfl) (fun a S => ?_)
                  refine lx_nil ?_
                  exact ⟨m670, Nat.lt_succ_self _, (W (x621 + (1 : Int))), S.sub ⟨rfl, rfl, rfl, rfl, rfl, rfl, rfl, trivial⟩, H, it_cont hm hc672⟩
              · have hm := ite_f hc688 hm
                refine wp_exit ?_
                refine then_exit ?_
                refine then_exit ?_
                refine inBlock_exit ?_
                obtain rfl := it_brk hm hc672
                exact ⟨S.sub ⟨rfl, rfl, rfl, rfl, rfl, rfl, trivial⟩, H, rfl⟩
    · have hm := ite_f hc496 hm
      refine wp_exit ?_
      refine then_exit ?_
      refine then_exit ?_
      refine inBlock_exit ?_
      obtain rfl := it_brk hm hc495
      have H : Heap w0 [oA (rList Rimpl_Vertex) v42 xs265] w := H.sel [1] (by decide)
      exact ⟨xs265, S.sub ⟨rfl, trivial⟩, H, rfl⟩

/-- spec.l23Cycle -/
def spec_l23Cycle_m (fuel : Nat) (a0 : (List Timpl_Vertex)) (a1 : Int) : Option (Bool) :=
  (mks (a0.length : Int) false).bind fun x31 => (iter (fun (s : (List Bool) × (List Int) × (Int)) => (match s with | (xs279, xs281, x283) => (if (decide (x283 < (xs281.length : Int))) = true then (idx xs281 x283).bind fun x532 => (idx a0 x532).bind fun x537 => (iter (fun (s : (List Bool) × (List Int) × (Int)) => (match s with | (xs619, xs621, x623) => (if (decide (x623 < (x537.2.2.length : Int))) = true then join (κ := List Bool → List Int → Option (((List Bool) × (List Int) × (Int)) ⊕ (((List Bool) × (List Int)) ⊕ (Bool)))) (fun (xs704 : List Bool) (xs706 : List Int) => some (.inl (xs704, xs706, (W (x623 + (1 : Int)))))) (fun K708 => (idx x537.2.2 x623).bind fun x710 => (if (x710 == a1) = true then some (.inr (.inr true)) else (idx xs619 x710).bind fun x718 => (if (!x718) = true then (idx a0 x710).bind fun x723 => (idx a0 a1).bind fun x738 => some (decide (x738.2.1 ≤ x723.2.1)) else some false).bind fun t720 => (if t720 = true then (idx xs619 x710).bind fun _ => (app xs621 [x710]).bind fun x760 => (K708 (xs619.set x710.toNat true) x760) else (K708 xs619 xs621)))) else some (.inr (.inl (xs619, xs621)))) : Option (((List Bool) × (List Int) × (Int)) ⊕ (((List Bool) × (List Int)) ⊕ (Bool))))) fuel (xs279, xs281, (0 : Int))).bind fun res695 => ctl (β := (List Bool) × (List Int)) (ρ := Bool) (τ := (((List Bool) × (List Int) × (Int)) ⊕ ((Unit) ⊕ (Bool)))) res695 (fun (xs691, xs693) => some (.inl (xs691, xs693, (W (x283 + (1 : Int)))))) (fun q => some (.inr (.inr q))) else some (.inr (.inl ()))) : Option (((List Bool) × (List Int) × (Int)) ⊕ ((Unit) ⊕ (Bool))))) fuel (x31, [a1], (0 : Int))).bind fun res523 => ctl (β := Unit) (ρ := Bool) (τ := Bool) res523 (fun _ => some (false)) (fun q => some (q))
set_option maxRecDepth 20000 in
theorem spec_l23Cycle_ok {w0 : World} {fuel : Nat} {p0 : Value} {a0 : (List Timpl_Vertex)} {a1 : Int} {r : Bool} (h0 : Rd (rList Rimpl_Vertex) w0 p0 a0) (hm : spec_l23Cycle_m fuel a0 a1 = some r) :
    Calls Try.prog 57 #[p0, .int .i64 a1] w0 fun e w => e = .returned (.bool r) ∧ Heap w0 [] w := by
  unfold spec_l23Cycle_m at hm
  have H := Heap.start w0
  refine enter (args := [p0, .int .i64 a1]) Try.func57 rfl 68 rfl (Nat.le_of_ble_eq_true rfl) (fun a S => ?_)
  refine wp_seq ?_
  refine region_plain ?_
  refine lx_q (.bool false) S trivial (by decide) (q_assign rfl) (fun a S => ?_)
  refine lx_nil ?_
  refine thenN ?_
  refine wp_seq ?_
  refine region_plain ?_
  refine lx_q p0 S trivial (by decide) (q_move rfl) (fun a S => ?_)
  refine lx_q (.int .i64 (a0.length : Int)) S trivial (by decide) (q_lenSl rfl (h0).isSl rfl Try.underlying26) (fun a S => ?_)
  obtain ⟨x31, e32, hm⟩ := bind_some hm
  obtain ⟨m33, hn, hn2, rfl⟩ := mks_some e32
  refine lx_make (r := rBool) (z0 := false) (n := m33) S trivial (by decide) rfl H (by rw [← hn]; rfl) (by rw [← hn]; rfl) Try.underlying113 (Try.ti4) rfl rfl (by decide) (fun w => ⟨rfl, rfl⟩) hn2 (by decide) (fun v34 w35 H => ⟨trivial, fun a S => ?_⟩)
  refine lx_q v34 S trivial (by decide) (q_assign rfl) (fun a S => ?_)
  refine lx_nil ?_
  refine thenN ?_
  refine wp_seq ?_
  refine region_plain ?_
  refine lx_q (.int .i64 a1) S trivial (by decide) (q_move rfl) (fun a S => ?_)
  refine lx_buildSlice (r := (rInt .i64)) (xs := [a1]) (ps := [(0, [(.int .i64 a1)])]) (cs := [(.int .i64 a1)]) (parts := [(0, .tmp 14)]) S trivial (by decide) rfl (H.put0 (A := eA) rfl) rfl Try.underlying23 Try.sizeOf2 Try.zeroValue2 (by decide) ⟨rfl, rfl, Nat.le_of_ble_eq_true rfl, trivial⟩ (by intro zs hz; exact fill_dense hz ⟨rfl, trivial⟩ rfl rfl) rfl (by decide) (fun w F hA => by cases (show F = [] from hA); exact ⟨_, _, [(.int .i64 a1)], _, rfl, rfl, ⟨rfl, rfl⟩, ⟨rfl, rfl⟩⟩) (fun v37 w38 H => ⟨trivial, fun a S => ?_⟩)
  refine lx_q v37 S trivial (by decide) (q_assign rfl) (fun a S => ?_)
  refine lx_nil ?_
  refine thenN ?_
  refine wp_seq ?_
  refine wp_seq ?_
  refine region_plain ?_
  refine lx_q (.int .i64 (0 : Int)) S trivial (by decide) (q_assign rfl) (fun a S => ?_)
  refine lx_nil ?_
  refine thenN ?_
  obtain ⟨res523, hit524, hk527⟩ := bind_some hm
  obtain ⟨f525, hf526, hit524⟩ := iter_name hit524
  refine block_loop (fun a w => Slots a 68 [] ∧ Heap w0 [] w ∧ res523 = .inl ()) ?_ ?_
  · rintro a w ⟨S, H, rfl⟩
    have hm := ctl_inl hk527
    refine thenN ?_
    refine wp_seq ?_
    refine region_plain ?_
    refine lx_q (.bool false) S trivial (by decide) (q_assign rfl) (fun a S => ?_)
    refine lx_nil ?_
    refine thenN ?_
    refine wp_ret ?_
    obtain rfl := Option.some.inj hm
    exact leave1 S rfl rfl ⟨rfl, H⟩
  · skip
    have H : Heap w0 [oA (rList rBool) v34 (List.replicate m33 false), oA (rList (rInt .i64)) v37 [a1]] w38 := H.front 1 rfl
    refine loop_ghost (fun n a w => ∃ (xs279 : List Bool) (xs281 : List Int) (x283 : Int) (v280 : Value), Slots a 68 [(0, p0), (1, (.int .i64 a1)), (5, v34), (6, v280), (7, (.int .i64 x283))] ∧ Heap w0 [oA (rList rBool) v34 xs279, oA (rList (rInt .i64)) v280 xs281] w ∧ iter f525 n (xs279, xs281, x283) = some res523) _ ⟨(List.replicate m33 false), [a1], (0 : Int), v37, S.sub ⟨rfl, rfl, rfl, rfl, rfl, trivial⟩, H, hit524⟩ ?_
    rintro n a w ⟨xs279, xs281, x283, v280, S, H, hit524⟩
    obtain ⟨m528, o529, rfl, hm, hc530⟩ := iter_step hit524
    rw [hf526] at hm
    refine wp_seq ?_
    refine wp_seq ?_
    refine region_plain ?_
    refine lx_q (.int .i64 x283) S trivial (by decide) (q_move rfl) (fun a S => ?_)
    refine lx_q v280 S trivial (by decide) (q_move rfl) (fun a S => ?_)
    refine lx_q (.int .i64 (xs281.length : Int)) S trivial (by decide) (q_lenSl rfl (H.isSl 1 rfl) rfl Try.underlying23) (fun a S => ?_)
    refine lx_q (.bool (decide (x283 < (xs281.length : Int)))) S trivial (by decide) (q_lss rfl rfl) (fun a S => ?_)
    refine lx_nil ?_
    refine thenN ?_
    refine cond_b S rfl (fun hc531 => ?_) (fun hc531 => ?_)
    · have hm := ite_t hc531 hm
      refine wp_skip ?_
      refine thenN ?_
      refine wp_seq ?_
      refine wp_block ?_
      refine wp_seq ?_
      refine region_plain ?_
      refine lx_q p0 S trivial (by decide) (q_move rfl) (fun a S => ?_)
      refine lx_q v280 S trivial (by decide) (q_move rfl) (fun a S => ?_)
      refine lx_q (.int .i64 x283) S trivial (by decide) (q_move rfl) (fun a S => ?_)
      obtain ⟨x532, e533, hm⟩ := bind_some hm
      have hlt := lt_of_idx (idx_some e533).2
      refine lx_q (ePtr v280 (x283.toNat * 1)) S trivial (by decide) (q_indexAddr rfl (H.isSl 1 rfl) rfl (idx_some e533).1 hlt Try.underlying23 Try.sizeOf2) (fun a S => ?_)
      obtain ⟨c534, h535, hat536⟩ := (H.rdAt 1 rfl).elem (idx_some e533).2
      obtain rfl := h535
      refine lx_e (.int .i64 x532) S trivial (by decide) rfl trivial (q_load1 rfl Try.isAgg2 (by rintro _ rfl; exact (hat536 0 _ rfl))) (fun a S => ?_)
      obtain ⟨x537, e538, hm⟩ := bind_some hm
      obtain ⟨c539, h540, hat541⟩ := (h0).elem (idx_some e538).2
      obtain ⟨c544, c545, rfl, h546, h547⟩ := h540
      obtain rfl := h546
      obtain ⟨c548, c549, rfl, h550, h551⟩ := h547
      obtain rfl := h550
      obtain ⟨v542, rfl, h543⟩ := rd_list h551
      have hlt := lt_of_idx (idx_some e538).2
      refine lx_q (ePtr p0 (x532.toNat * 3)) S trivial (by decide) (q_indexAddr rfl (h0).isSl rfl (idx_some e538).1 hlt Try.underlying26 Try.sizeOf71) (fun a S => ?_)
      refine lx_q (pAdd (ePtr p0 (x532.toNat * 3)) 2) S trivial (by decide) (q_fieldAddr' 2 23 rfl ((hat541 0 _ rfl).isP) Try.underlying71 rfl Try.sizeOf23) (fun a S => ?_)
      refine lx_e v542 S trivial (by decide) rfl trivial (q_load1 rfl Try.isAgg23 (by rintro _ rfl; exact (At.of_add (m := 2) (j := 0) ((hat541 2 _ rfl).ext H.ext)))) (fun a S => ?_)
      refine lx_q v542 S trivial (by decide) (q_assign rfl) (fun a S => ?_)
      refine lx_nil ?_
      refine thenN ?_
      refine wp_seq ?_
      refine region_plain ?_
      refine lx_q (.int .i64 (0 : Int)) S trivial (by decide) (q_assign rfl) (fun a S => ?_)
      refine lx_nil ?_
      refine thenN ?_
      obtain ⟨res695, hit696, hk699⟩ := bind_some hm
      obtain ⟨f697, hf698, hit696⟩ := iter_name hit696
      refine block_loop (fun a w => ∃ (xs691 : List Bool) (xs693 : List Int) (v692 : Value), Slots a 68 [(0, p0), (1, (.int .i64 a1)), (5, v34), (6, v692), (7, (.int .i64 x283))] ∧ Heap w0 [oA (rList rBool) v34 xs691, oA (rList (rInt .i64)) v692 xs693] w ∧ res695 = .inl (xs691, xs693)) ?_ ?_
      · rintro a w ⟨xs691, xs693, v692, S, H, rfl⟩
        have hm := ctl_inl hk699
        refine inBlock_norm ?_
        refine thenN ?_
        refine region_plain ?_
        refine lx_q (.int .i64 x283) S trivial (by decide) (q_move rfl) (fun a S => ?_)
        refine lx_q (.int .i64 (W (x283 + (1 : Int)))) S trivial (by decide) (q_add rfl rfl) (fun a S => ?_)
        refine lx_q (.int .i64 (W (x283 + (1 : Int)))) S trivial (by decide) (q_assign rfl) (fun a S => ?_)
        refine lx_nil ?_
        exact ⟨m528, Nat.lt_succ_self _, xs691, xs693, (W (x283 + (1 : Int))), v692, S.sub ⟨rfl, rfl, rfl, rfl, rfl, trivial⟩, H, it_cont hm hc530⟩
      · skip
        refine loop_ghost (fun n a w => ∃ (xs619 : List Bool) (xs621 : List Int) (x623 : Int) (v620 : Value), Slots a 68 [(0, p0), (1, (.int .i64 a1)), (5, v34), (6, v620), (7, (.int .i64 x283)), (8, v542), (9, (.int .i64 x623))] ∧ Heap w0 [oA (rList rBool) v34 xs619, oA (rList (rInt .i64)) v620 xs621] w ∧ iter f697 n (xs619, xs621, x623) = some res695) _ ⟨xs279, xs281, (0 : Int), v280, S.sub ⟨rfl, rfl, rfl, rfl, rfl, rfl, rfl, trivial⟩, H, hit696⟩ ?_
        rintro n a w ⟨xs619, xs621, x623, v620, S, H, hit696⟩
        obtain ⟨m700, o701, rfl, hm, hc702⟩ := iter_step hit696
        rw [hf698] at hm
        refine wp_seq ?_
        refine wp_seq ?_
        refine region_plain ?_
        refine lx_q (.int .i64 x623) S trivial (by decide) (q_move rfl) (fun a S => ?_)
        refine lx_q v542 S trivial (by decide) (q_move rfl) (fun a S => ?_)
        refine lx_q (.int .i64 (x537.2.2.length : Int)) S trivial (by decide) (q_lenSl rfl (h543).isSl rfl Try.underlying23) (fun a S => ?_)
        refine lx_q (.bool (decide (x623 < (x537.2.2.length : Int)))) S trivial (by decide) (q_lss rfl rfl) (fun a S => ?_)
        refine lx_nil ?_
        refine thenN ?_
        refine cond_b S rfl (fun hc703 => ?_) (fun hc703 => ?_)
        · have hm := ite_t hc703 hm
          refine wp_skip ?_
          refine thenN ?_
          obtain ⟨K708, hK709, hm⟩ := join_elim hm
          refine seq_cut (fun a w => ∃ (xs704 : List Bool) (xs706 : List Int) (v705 : Value), Slots a 68 [(0, p0), (1, (.int .i64 a1)), (5, v34), (6, v705), (7, (.int .i64 x283)), (8, v542), (9, (.int .i64 x623))] ∧ Heap w0 [oA (rList rBool) v34 xs704, oA (rList (rInt .i64)) v705 xs706] w ∧ K708 xs704 xs706 = some o701) ?_ ?_
          · rintro a w ⟨xs704, xs706, v705, S, H, hm⟩
            subst hK709
            refine region_plain ?_
            refine lx_q (.int .i64 x623) S trivial (by decide) (q_move rfl) (fun a S => ?_)
            refine lx_q (.int .i64 (W (x623 + (1 : Int)))) S trivial (by decide) (q_add rfl rfl) (fun a S => ?_)
            refine lx_q (.int .i64 (W (x623 + (1 : Int)))) S trivial (by decide) (q_assign rfl) (fun a S => ?_)
            refine lx_nil ?_
            exact ⟨m700, Nat.lt_succ_self _, xs704, xs706, (W (x623 + (1 : Int))), v705, S.sub ⟨rfl, rfl, rfl, rfl, rfl, rfl, rfl, trivial⟩, H, it_cont hm hc702⟩
          · skip
            refine wp_block ?_
            refine wp_seq ?_
            refine region_plain ?_
            refine lx_q v542 S trivial (by decide) (q_move rfl) (fun a S => ?_)
            refine lx_q (.int .i64 x623) S trivial (by decide) (q_move rfl) (fun a S => ?_)
            obtain ⟨x710, e711, hm⟩ := bind_some hm
            obtain ⟨c712, h713, hat714⟩ := (h543).elem (idx_some e711).2
            obtain rfl := h713
            have hlt := lt_of_idx (idx_some e711).2
            refine lx_q (ePtr v542 (x623.toNat * 1)) S trivial (by decide) (q_indexAddr rfl (h543).isSl rfl (idx_some e711).1 hlt Try.underlying23 Try.sizeOf2) (fun a S => ?_)
            refine lx_e (.int .i64 x710) S trivial (by decide) rfl trivial (q_load1 rfl Try.isAgg2 (by rintro _ rfl; exact ((hat714 0 _ rfl).ext H.ext))) (fun a S => ?_)
            refine lx_q (.int .i64 x710) S trivial (by decide) (q_assign rfl) (fun a S => ?_)
            refine lx_nil ?_
            refine thenN ?_
            refine wp_seq ?_
            refine wp_seq ?_
            refine region_plain ?_
            refine lx_q (.int .i64 x710) S trivial (by decide) (q_move rfl) (fun a S => ?_)
            refine lx_q (.int .i64 a1) S trivial (by decide) (q_move rfl) (fun a S => ?_)
            refine lx_q (.bool (x710 == a1)) S trivial (by decide) (q_eql rfl rfl) (fun a S => ?_)
            refine lx_nil ?_
            refine thenN ?_
            refine cond_b S rfl (fun hc715 => ?_) (fun hc715 => ?_)
            · have hm := ite_t hc715 hm
              refine wp_seq ?_
              refine region_plain ?_
              refine lx_q (.bool true) S trivial (by decide) (q_assign rfl) (fun a S => ?_)
              refine lx_nil ?_
              refine thenN ?_
              refine wp_ret ?_
              refine then_ret ?_
              refine inBlock_ret ?_
              refine then_ret ?_
              refine then_ret ?_
              refine inBlock_ret ?_
              refine then_ret ?_
              refine inBlock_ret ?_
              refine then_ret ?_
              refine then_ret ?_
              refine inBlock_ret ?_
              refine then_ret ?_
              refine then_ret ?_
              obtain rfl := it_brk hm hc702
              have hm := ctl_inr hk699
              obtain rfl := it_brk hm hc530
              have hm := ctl_inr hk527
              obtain rfl := Option.some.inj hm
              have H : Heap w0 [] w := H.sel [] (by decide)
              exact leave1 S rfl rfl ⟨rfl, H⟩
            · have hm := ite_f hc715 hm
              refine wp_skip ?_
              refine thenN ?_
              refine wp_seq ?_
              refine region_drawG (fun w1 => Heap w0 [oA (rList rBool) v34 xs619] w1) (fun i => [].contains i) mixed (by kernel_rfl) (fun w717 he716 => ?_)
              have H := H.later he716
              refine ⟨H.sel [0] (by decide), ?_⟩
              refine lx_q v34 S trivial (by decide) (q_move rfl) (fun a S => ?_)
              refine lx_q (.int .i64 x710) S trivial (by decide) (q_move rfl) (fun a S => ?_)
              obtain ⟨x718, e719, hm⟩ := bind_some hm
              have hlt := lt_of_idx (idx_some e719).2
              refine lx_q (ePtr v34 (x710.toNat * 1)) S trivial (by decide) (q_indexAddr rfl (H.isSl 0 rfl) rfl (idx_some e719).1 hlt Try.underlying113 Try.sizeOf4) (fun a S => ?_)
              refine lx_q (.bool x718) S trivial (by decide) (q_load1 rfl Try.isAgg4 (fun w1 hC => ((hC.rdAt 0 rfl).elemAt (j := 0) (idx_some e719).2 (by intro B w cs h; obtain rfl := h; rfl)))) (fun a S => ?_)
              refine lx_q (.bool (!x718)) S trivial (by decide) (q_not rfl) (fun a S => ?_)
              refine lx_q (.bool (!x718)) S trivial (by decide) (q_move rfl) (fun a S => ?_)
              obtain ⟨t720, e721, hm⟩ := bind_some hm
              refine lx_cut 12 (fun a w => Slots a 68 [(0, p0), (1, (.int .i64 a1)), (5, v34), (6, v620), (7, (.int .i64 x283)), (8, v542), (9, (.int .i64 x623)), (10, (.int .i64 x710)), (60, (.bool t720))] ∧ Heap w0 [oA (rList rBool) v34 xs619, oA (rList (rInt .i64)) v620 xs621] w) ?_ ?_
              · by_cases hc722 : (!x718) = true
                · have hm := ite_t hc722 e721
                  refine lx_q p0 S (want_b rfl rfl hc722) (by decide) (q_move rfl) (fun a S => ?_)
                  refine lx_q (.int .i64 x710) S (want_b rfl rfl hc722) (by decide) (q_move rfl) (fun a S => ?_)
                  obtain ⟨x723, e724, hm⟩ := bind_some hm
                  obtain ⟨c725, h726, hat727⟩ := (h0).elem (idx_some e724).2
                  obtain ⟨c730, c731, rfl, h732, h733⟩ := h726
                  obtain rfl := h732
                  obtain ⟨c734, c735, rfl, h736, h737⟩ := h733
                  obtain rfl := h736
                  obtain ⟨v728, rfl, h729⟩ := rd_list h737
                  have hlt := lt_of_idx (idx_some e724).2
                  refine lx_q (ePtr p0 (x710.toNat * 3)) S (want_b rfl rfl hc722) (by decide) (q_indexAddr rfl (h0).isSl rfl (idx_some e724).1 hlt Try.underlying26 Try.sizeOf71) (fun a S => ?_)
                  refine lx_q (pAdd (ePtr p0 (x710.toNat * 3)) 1) S (want_b rfl rfl hc722) (by decide) (q_fieldAddr' 1 2 rfl ((hat727 0 _ rfl).isP) Try.underlying71 rfl Try.sizeOf2) (fun a S => ?_)
                  refine lx_q (.int .i64 x723.2.1) S (want_b rfl rfl hc722) (by decide) (q_load1 rfl Try.isAgg2 (fun w1 hC => (At.of_add (m := 1) (j := 0) ((hat727 1 _ rfl).ext hC.ext)))) (fun a S => ?_)
                  refine lx_q p0 S (want_b rfl rfl hc722) (by decide) (q_move rfl) (fun a S => ?_)
                  refine lx_q (.int .i64 a1) S (want_b rfl rfl hc722) (by decide) (q_move rfl) (fun a S => ?_)
                  obtain ⟨x738, e739, hm⟩ := bind_some hm
                  obtain ⟨c740, h741, hat742⟩ := (h0).elem (idx_some e739).2
                  obtain ⟨c745, c746, rfl, h747, h748⟩ := h741
                  obtain rfl := h747
                  obtain ⟨c749, c750, rfl, h751, h752⟩ := h748
                  obtain rfl := h751
                  obtain ⟨v743, rfl, h744⟩ := rd_list h752
                  have hlt := lt_of_idx (idx_some e739).2
                  refine lx_q (ePtr p0 (a1.toNat * 3)) S (want_b rfl rfl hc722) (by decide) (q_indexAddr rfl (h0).isSl rfl (idx_some e739).1 hlt Try.underlying26 Try.sizeOf71) (fun a S => ?_)
                  refine lx_q (pAdd (ePtr p0 (a1.toNat * 3)) 1) S (want_b rfl rfl hc722) (by decide) (q_fieldAddr' 1 2 rfl ((hat742 0 _ rfl).isP) Try.underlying71 rfl Try.sizeOf2) (fun a S => ?_)
                  refine lx_q (.int .i64 x738.2.1) S (want_b rfl rfl hc722) (by decide) (q_load1 rfl Try.isAgg2 (fun w1 hC => (At.of_add (m := 1) (j := 0) ((hat742 1 _ rfl).ext hC.ext)))) (fun a S => ?_)
                  refine lx_q (.bool (decide (x738.2.1 ≤ x723.2.1))) S (want_b rfl rfl hc722) (by decide) (q_geq rfl rfl) (fun a S => ?_)
                  refine lx_q (.bool (decide (x738.2.1 ≤ x723.2.1))) S trivial (by decide) (q_pickT' rfl hc722 rfl) (fun a S => ?_)
                  refine lx_nil ?_
                  obtain rfl := Option.some.inj hm
                  exact ⟨S.sub ⟨rfl, rfl, rfl, rfl, rfl, rfl, rfl, rfl, rfl, trivial⟩, H⟩
                · have hm := ite_f (eq_false_of_ne_true hc722) e721
                  have hc722 : (!x718) = false := eq_false_of_ne_true hc722
                  refine lx_skip S rfl rfl (isB_ne hc722) (by decide) (fun a S => ?_)
                  refine lx_skip S rfl rfl (isB_ne hc722) (by decide) (fun a S => ?_)
                  refine lx_skip S rfl rfl (isB_ne hc722) (by decide) (fun a S => ?_)
                  refine lx_skip S rfl rfl (isB_ne hc722) (by decide) (fun a S => ?_)
                  refine lx_skip S rfl rfl (isB_ne hc722) (by decide) (fun a S => ?_)
                  refine lx_skip S rfl rfl (isB_ne hc722) (by decide) (fun a S => ?_)
                  refine lx_skip S rfl rfl (isB_ne hc722) (by decide) (fun a S => ?_)
                  refine lx_skip S rfl rfl (isB_ne hc722) (by decide) (fun a S => ?_)
                  refine lx_skip S rfl rfl (isB_ne hc722) (by decide) (fun a S => ?_)
                  refine lx_skip S rfl rfl (isB_ne hc722) (by decide) (fun a S => ?_)
                  refine lx_skip S rfl rfl (isB_ne hc722) (by decide) (fun a S => ?_)
                  refine lx_q (.bool false) S trivial (by decide) (q_pickF' rfl hc722 rfl) (fun a S => ?_)
                  refine lx_nil ?_
                  obtain rfl := Option.some.inj hm
                  exact ⟨S.sub ⟨rfl, rfl, rfl, rfl, rfl, rfl, rfl, rfl, rfl, trivial⟩, H⟩
              · rintro a w ⟨S, H⟩
                refine lx_nil ?_
                refine thenN ?_
                refine cond_b S rfl (fun hc753 => ?_) (fun hc753 => ?_)
                · have hm := ite_t hc753 hm
                  refine wp_seq ?_
                  refine region_plain ?_
                  refine lx_q v34 S trivial (by decide) (q_move rfl) (fun a S => ?_)
                  refine lx_q (.int .i64 x710) S trivial (by decide) (q_move rfl) (fun a S => ?_)
                  obtain ⟨x754, e755, hm⟩ := bind_some hm
                  have hlt := lt_of_idx (idx_some e755).2
                  refine lx_q (ePtr v34 (x710.toNat * 1)) S trivial (by decide) (q_indexAddr rfl (H.isSl 0 rfl) rfl (idx_some e755).1 hlt Try.underlying113 Try.sizeOf4) (fun a S => ?_)
                  refine lx_storeElem (r := rBool) (us := [(.bool true)]) (off := 0) (e' := true) S trivial rfl H.putE (by rw [pAdd_zero]; rfl) rfl (idx_some e755).2 rfl Try.sizeOf4 (Nat.le_of_ble_eq_true rfl) (List.forall_mem_cons.2 ⟨rfl, (fun _ h => nomatch h)⟩) (Upd.full rfl (fun w G hG => by cases (show G = [] from hG); exact ⟨rfl, rfl⟩)) (fun w756 H => ⟨trivial, fun a S => ?_⟩)
                  refine lx_nil ?_
                  refine thenN ?_
                  refine region_plain ?_
                  refine lx_q v620 S trivial (by decide) (q_move rfl) (fun a S => ?_)
                  refine lx_q (.int .i64 x710) S trivial (by decide) (q_move rfl) (fun a S => ?_)
                  refine lx_buildSlice (r := (rInt .i64)) (xs := [x710]) (ps := [(0, [(.int .i64 x710)])]) (cs := [(.int .i64 x710)]) (parts := [(0, .tmp 65)]) S trivial (by decide) rfl (H.put0 (A := eA) rfl) rfl Try.underlying23 Try.sizeOf2 Try.zeroValue2 (by decide) ⟨rfl, rfl, Nat.le_of_ble_eq_true rfl, trivial⟩ (by intro zs hz; exact fill_dense hz ⟨rfl, trivial⟩ rfl rfl) rfl (by decide) (fun w F hA => by cases (show F = [] from hA); exact ⟨_, _, [(.int .i64 x710)], _, rfl, rfl, ⟨rfl, rfl⟩, ⟨rfl, rfl⟩⟩) (fun v757 w758 H => ⟨trivial, fun a S => ?_⟩)
                  obtain ⟨x760, e761, hm⟩ := bind_some hm
                  obtain ⟨hle, hap⟩ := app_some e761
                  replace hap := hap.symm
                  subst hap
                  have H : Heap w0 [oA (rList (rInt .i64)) v757 [x710], oA (rList rBool) v34 (xs619.set x710.toNat true), oA (rList (rInt .i64)) v620 xs621] w758 := H.front 0 rfl
                  have H : Heap w0 [oA (rList (rInt .i64)) v620 xs621, oA (rList (rInt .i64)) v757 [x710], oA (rList rBool) v34 (xs619.set x710.toNat true)] w758 := H.front 2 rfl
                  refine lx_appendOwn (r := (rInt .i64)) S trivial (by decide) rfl H rfl rfl Try.underlying23 Try.ti2 rfl rfl rfl (by decide) (by decide) hle (fun v762 w763 H => ⟨trivial, fun a S => ?_⟩)
                  refine lx_q v762 S trivial (by decide) (q_assign rfl) (fun a S => ?_)
                  refine lx_nil ?_
                  refine inBlock_norm ?_
                  have H : Heap w0 [oA (rList rBool) v34 (xs619.set x710.toNat true), oA (rList (rInt .i64)) v762 (xs621 ++ [x710])] w763 := H.front 1 rfl
                  exact ⟨(xs619.set x710.toNat true), (xs621 ++ [x710]), v762, S.sub ⟨rfl, rfl, rfl, rfl, rfl, rfl, rfl, trivial⟩, H, hm⟩
                · have hm := ite_f hc753 hm
                  refine wp_skip ?_
                  refine inBlock_norm ?_
                  exact ⟨xs619, xs621, v620, S.sub ⟨rfl, rfl, rfl, rfl, rfl, rfl, rfl, trivial⟩, H, hm⟩
        · have hm := ite_f hc703 hm
          refine wp_exit ?_
          refine then_exit ?_
          refine then_exit ?_
          refine inBlock_exit ?_
          obtain rfl := it_brk hm hc702
          exact ⟨xs619, xs621, v620, S.sub ⟨rfl, rfl, rfl, rfl, rfl, trivial⟩, H, rfl⟩
    · have hm := ite_f hc531 hm
      refine wp_exit ?_
      refine then_exit ?_
      refine then_exit ?_
      refine inBlock_exit ?_
      obtain rfl := it_brk hm hc530
      have H : Heap w0 [] w := H.sel [] (by decide)
      exact ⟨S.sub trivial, H, rfl⟩

/-- spec.IsWinningStrategy -/
def spec_IsWinningStrategy_m (fuel : Nat) (a0 : (List Timpl_Vertex)) (a1 : Int) (a2 : (List Int)) (a3 : (List Int)) : Option (Bool) :=
  (spec_l23Is_m fuel a0).bind fun x33 => (if (!x33) = true then some true else (spec_l00In_m fuel a1 (0 : Int) (1 : Int)).bind fun x41 => some (!x41)).bind fun t36 => (if t36 = true then some true else (spec_l00Rises_m fuel a2 (0 : Int) (W ((a0.length : Int) - (1 : Int)))).bind fun x49 => some (!x49)).bind fun t44 => (if t44 = true then some true else some ((a3.length : Int) != (a0.length : Int))).bind fun t52 => (if t52 = true then some (false) else (spec_l23Kept_m fuel a0 a1 a2 a3).bind fun x58 => (if (!x58.2) = true then some (false) else (iter (fun (s : (Int)) => (match s with | (x95) => (if (decide (x95 < (a2.length : Int))) = true then (idx a2 x95).bind fun x136 => (idx a0 x136).bind fun x141 => (if ((x141.2.1.tmod (2 : Int)) != a1) = true then (spec_l23Cycle_m fuel x58.1 x136).bind fun x161 => some x161 else some false).bind fun t156 => (if t156 = true then some (.inr (.inr false)) else some (.inl ((W (x95 + (1 : Int)))))) else some (.inr (.inl ()))) : Option (((Int)) ⊕ ((Unit) ⊕ (Bool))))) fuel ((0 : Int))).bind fun res127 => ctl (β := Unit) (ρ := Bool) (τ := Bool) res127 (fun _ => some (true)) (fun q => some (q))))
set_option maxRecDepth 20000 in
theorem spec_IsWinningStrategy_ok {w0 : World} {fuel : Nat} {p0 p2 p3 : Value} {a0 : (List Timpl_Vertex)} {a1 : Int} {a2 : (List Int)} {a3 : (List Int)} {r : Bool} (h0 : Rd (rList Rimpl_Vertex) w0 p0 a0) (h2 : Rd (rList (rInt .i64)) w0 p2 a2) (h3 : Rd (rList (rInt .i64)) w0 p3 a3) (hm : spec_IsWinningStrategy_m fuel a0 a1 a2 a3 = some r) :
    Calls Try.prog 14 #[p0, .int .i64 a1, p2, p3] w0 fun e w => e = .returned (.bool r) ∧ Heap w0 [] w := by
  unfold spec_IsWinningStrategy_m at hm
  have H := Heap.start w0
  refine enter (args := [p0, .int .i64 a1, p2, p3]) Try.func14 rfl 69 rfl (Nat.le_of_ble_eq_true rfl) (fun a S => ?_)
  refine wp_seq ?_
  refine region_plain ?_
  refine lx_q (.bool false) S trivial (by decide) (q_assign rfl) (fun a S => ?_)
  refine lx_nil ?_
  refine thenN ?_
  refine wp_seq ?_
  refine wp_seq ?_
  refine region_plain ?_
  refine lx_q p0 S trivial (by decide) (q_move rfl) (fun a S => ?_)
  obtain ⟨x33, e34, hm⟩ := bind_some hm
  refine lx_call (xs := [.tmp 13]) S trivial (by decide) rfl rfl Try.call53 ((spec_l23Is_ok (H.arg h0) e34).mono ?_)
  rintro e w31 ⟨rfl, Hc32⟩
  have he35 := Hc32.ext
  have H := H.call0 Hc32
  refine ⟨_, rfl, trivial, fun a S => ?_⟩
  refine lx_q (.bool (!x33)) S trivial (by decide) (q_not rfl) (fun a S => ?_)
  refine lx_q (.bool (!x33)) S trivial (by decide) (q_move rfl) (fun a S => ?_)
  obtain ⟨t36, e37, hm⟩ := bind_some hm
  refine lx_cut 4 (fun a w => Slots a 69 [(0, p0), (1, (.int .i64 a1)), (2, p2), (3, p3), (20, (.bool t36))] ∧ Heap w0 [] w) ?_ ?_
  · by_cases hc38 : (!x33) = true
    · have hm := ite_t hc38 e37
      refine lx_skip S rfl rfl (isB_ne hc38) (by decide) (fun a S => ?_)
      refine lx_skip S rfl rfl (isB_ne hc38) (by decide) (fun a S => ?_)
      refine lx_skip S rfl rfl (isB_ne hc38) (by decide) (fun a S => ?_)
      refine lx_q (.bool true) S trivial (by decide) (q_pickT' rfl hc38 rfl) (fun a S => ?_)
      refine lx_nil ?_
      obtain rfl := Option.some.inj hm
      exact ⟨S.sub ⟨rfl, rfl, rfl, rfl, rfl, trivial⟩, H⟩
    · have hm := ite_f (eq_false_of_ne_true hc38) e37
      have hc38 : (!x33) = false := eq_false_of_ne_true hc38
      refine lx_q (.int .i64 a1) S (want_b rfl rfl hc38) (by decide) (q_move rfl) (fun a S => ?_)
      obtain ⟨x41, e42, hm⟩ := bind_some hm
      refine lx_call (xs := [.tmp 17, .const (.int .i64 (0)), .const (.int .i64 (1))]) S (want_b rfl rfl hc38) (by decide) rfl rfl Try.call54 ((spec_l00In_ok    e42).mono ?_)
      rintro e w39 ⟨rfl, Hc40⟩
      have he43 := Hc40.ext
      have H := H.call0 Hc40
      refine ⟨_, rfl, trivial, fun a S => ?_⟩
      refine lx_q (.bool (!x41)) S (want_b rfl rfl hc38) (by decide) (q_not rfl) (fun a S => ?_)
      refine lx_q (.bool (!x41)) S trivial (by decide) (q_pickF' rfl hc38 rfl) (fun a S => ?_)
      refine lx_nil ?_
      obtain rfl := Option.some.inj hm
      exact ⟨S.sub ⟨rfl, rfl, rfl, rfl, rfl, trivial⟩, H⟩
  · rintro a w ⟨S, H⟩
    refine lx_q (.bool t36) S trivial (by decide) (q_move rfl) (fun a S => ?_)
    obtain ⟨t44, e45, hm⟩ := bind_some hm
    refine lx_cut 7 (fun a w => Slots a 69 [(0, p0), (1, (.int .i64 a1)), (2, p2), (3, p3), (28, (.bool t44))] ∧ Heap w0 [] w) ?_ ?_
    · by_cases hc46 : t36 = true
      · have hm := ite_t hc46 e45
        refine lx_skip S rfl rfl (isB_ne hc46) (by decide) (fun a S => ?_)
        refine lx_skip S rfl rfl (isB_ne hc46) (by decide) (fun a S => ?_)
        refine lx_skip S rfl rfl (isB_ne hc46) (by decide) (fun a S => ?_)
        refine lx_skip S rfl rfl (isB_ne hc46) (by decide) (fun a S => ?_)
        refine lx_skip S rfl rfl (isB_ne hc46) (by decide) (fun a S => ?_)
        refine lx_skip S rfl rfl (isB_ne hc46) (by decide) (fun a S => ?_)
        refine lx_q (.bool true) S trivial (by decide) (q_pickT' rfl hc46 rfl) (fun a S => ?_)
        refine lx_nil ?_
        obtain rfl := Option.some.inj hm
        exact ⟨S.sub ⟨rfl, rfl, rfl, rfl, rfl, trivial⟩, H⟩
      · have hm := ite_f (eq_false_of_ne_true hc46) e45
        have hc46 : t36 = false := eq_false_of_ne_true hc46
        refine lx_q p2 S (want_b rfl rfl hc46) (by decide) (q_move rfl) (fun a S => ?_)
        refine lx_q p0 S (want_b rfl rfl hc46) (by decide) (q_move rfl) (fun a S => ?_)
        refine lx_q (.int .i64 (a0.length : Int)) S (want_b rfl rfl hc46) (by decide) (q_lenSl rfl (h0).isSl rfl Try.underlying26) (fun a S => ?_)
        refine lx_q (.int .i64 (W ((a0.length : Int) - (1 : Int)))) S (want_b rfl rfl hc46) (by decide) (q_sub rfl rfl) (fun a S => ?_)
        obtain ⟨x49, e50, hm⟩ := bind_some hm
        refine lx_call (xs := [.tmp 22, .const (.int .i64 (0)), .tmp 25]) S (want_b rfl rfl hc46) (by decide) rfl rfl Try.call55 ((spec_l00Rises_ok (H.arg h2)   e50).mono ?_)
        rintro e w47 ⟨rfl, Hc48⟩
        have he51 := Hc48.ext
        have H := H.call0 Hc48
        refine ⟨_, rfl, trivial, fun a S => ?_⟩
        refine lx_q (.bool (!x49)) S (want_b rfl rfl hc46) (by decide) (q_not rfl) (fun a S => ?_)
        refine lx_q (.bool (!x49)) S trivial (by decide) (q_pickF' rfl hc46 rfl) (fun a S => ?_)
        refine lx_nil ?_
        obtain rfl := Option.some.inj hm
        exact ⟨S.sub ⟨rfl, rfl, rfl, rfl, rfl, trivial⟩, H⟩
    · rintro a w ⟨S, H⟩
      refine lx_q (.bool t44) S trivial (by decide) (q_move rfl) (fun a S => ?_)
      obtain ⟨t52, e53, hm⟩ := bind_some hm
      refine lx_cut 6 (fun a w => Slots a 69 [(0, p0), (1, (.int .i64 a1)), (2, p2), (3, p3), (35, (.bool t52))] ∧ Heap w0 [] w) ?_ ?_
      · by_cases hc54 : t44 = true
        · have hm := ite_t hc54 e53
          refine lx_skip S rfl rfl (isB_ne hc54) (by decide) (fun a S => ?_)
          refine lx_skip S rfl rfl (isB_ne hc54) (by decide) (fun a S => ?_)
          refine lx_skip S rfl rfl (isB_ne hc54) (by decide) (fun a S => ?_)
          refine lx_skip S rfl rfl (isB_ne hc54) (by decide) (fun a S => ?_)
          refine lx_skip S rfl rfl (isB_ne hc54) (by decide) (fun a S => ?_)
          refine lx_q (.bool true) S trivial (by decide) (q_pickT' rfl hc54 rfl) (fun a S => ?_)
          refine lx_nil ?_
          obtain rfl := Option.some.inj hm
          exact ⟨S.sub ⟨rfl, rfl, rfl, rfl, rfl, trivial⟩, H⟩
        · have hm := ite_f (eq_false_of_ne_true hc54) e53
          have hc54 : t44 = false := eq_false_of_ne_true hc54
          refine lx_q p3 S (want_b rfl rfl hc54) (by decide) (q_move rfl) (fun a S => ?_)
          refine lx_q (.int .i64 (a3.length : Int)) S (want_b rfl rfl hc54) (by decide) (q_lenSl rfl (h3).isSl rfl Try.underlying23) (fun a S => ?_)
          refine lx_q p0 S (want_b rfl rfl hc54) (by decide) (q_move rfl) (fun a S => ?_)
          refine lx_q (.int .i64 (a0.length : Int)) S (want_b rfl rfl hc54) (by decide) (q_lenSl rfl (h0).isSl rfl Try.underlying26) (fun a S => ?_)
          refine lx_q (.bool ((a3.length : Int) != (a0.length : Int))) S (want_b rfl rfl hc54) (by decide) (q_neq rfl rfl) (fun a S => ?_)
          refine lx_q (.bool ((a3.length : Int) != (a0.length : Int))) S trivial (by decide) (q_pickF' rfl hc54 rfl) (fun a S => ?_)
          refine lx_nil ?_
          obtain rfl := Option.some.inj hm
          exact ⟨S.sub ⟨rfl, rfl, rfl, rfl, rfl, trivial⟩, H⟩
      · rintro a w ⟨S, H⟩
        refine lx_nil ?_
        refine thenN ?_
        refine cond_b S rfl (fun hc55 => ?_) (fun hc55 => ?_)
        · have hm := ite_t hc55 hm
          refine wp_seq ?_
          refine region_plain ?_
          refine lx_q (.bool false) S trivial (by decide) (q_assign rfl) (fun a S => ?_)
          refine lx_nil ?_
          refine thenN ?_
          refine wp_ret ?_
          refine then_ret ?_
          obtain rfl := Option.some.inj hm
          exact leave1 S rfl rfl ⟨rfl, H⟩
        · have hm := ite_f hc55 hm
          refine wp_skip ?_
          refine thenN ?_
          refine wp_seq ?_
          refine region_plain ?_
          refine lx_q p0 S trivial (by decide) (q_move rfl) (fun a S => ?_)
          refine lx_q (.int .i64 a1) S trivial (by decide) (q_move rfl) (fun a S => ?_)
          refine lx_q p2 S trivial (by decide) (q_move rfl) (fun a S => ?_)
          refine lx_q p3 S trivial (by decide) (q_move rfl) (fun a S => ?_)
          obtain ⟨x58, e59, hm⟩ := bind_some hm
          refine lx_call (xs := [.tmp 37, .tmp 38, .tmp 39, .tmp 40]) S trivial (by decide) rfl rfl Try.call56 ((spec_l23Kept_ok (H.arg h0)  (H.arg h2) (H.arg h3) e59).mono ?_)
          rintro e w56 ⟨v60, rfl, Hc57⟩
          have he62 := Hc57.ext
          have H := H.call1 Hc57
          refine ⟨_, rfl, trivial, fun a S => ?_⟩
          refine lx_q (.tuple #[v60, (.bool x58.2)]) S trivial (by decide) (q_move rfl) (fun a S => ?_)
          refine lx_q v60 S trivial (by decide) (q_extract rfl rfl) (fun a S => ?_)
          refine lx_q (.bool x58.2) S trivial (by decide) (q_extract rfl rfl) (fun a S => ?_)
          refine lx_q v60 S trivial (by decide) (q_assign rfl) (fun a S => ?_)
          refine lx_q (.bool x58.2) S trivial (by decide) (q_assign rfl) (fun a S => ?_)
          refine lx_nil ?_
          refine thenN ?_
          refine wp_seq ?_
          refine wp_seq ?_
          refine region_plain ?_
          refine lx_q (.bool x58.2) S trivial (by decide) (q_move rfl) (fun a S => ?_)
          refine lx_q (.bool (!x58.2)) S trivial (by decide) (q_not rfl) (fun a S => ?_)
          refine lx_nil ?_
          refine thenN ?_
          refine cond_b S rfl (fun hc63 => ?_) (fun hc63 => ?_)
          · have hm := ite_t hc63 hm
            refine wp_seq ?_
            refine region_plain ?_
            refine lx_q (.bool false) S trivial (by decide) (q_assign rfl) (fun a S => ?_)
            refine lx_nil ?_
            refine thenN ?_
            refine wp_ret ?_
            refine then_ret ?_
            obtain rfl := Option.some.inj hm
            have H : Heap w0 [] w56 := H.sel [] (by decide)
            exact leave1 S rfl rfl ⟨rfl, H⟩
          · have hm := ite_f hc63 hm
            refine wp_skip ?_
            refine thenN ?_
            refine wp_seq ?_
            refine wp_seq ?_
            refine region_plain ?_
            refine lx_q (.int .i64 (0 : Int)) S trivial (by decide) (q_assign rfl) (fun a S => ?_)
            refine lx_nil ?_
            refine thenN ?_
            obtain ⟨res127, hit128, hk131⟩ := bind_some hm
            obtain ⟨f129, hf130, hit128⟩ := iter_name hit128
            refine block_loop (fun a w => Slots a 69 [] ∧ Heap w0 [] w ∧ res127 = .inl ()) ?_ ?_
            · rintro a w ⟨S, H, rfl⟩
              have hm := ctl_inl hk131
              refine thenN ?_
              refine wp_seq ?_
              refine region_plain ?_
              refine lx_q (.bool true) S trivial (by decide) (q_assign rfl) (fun a S => ?_)
              refine lx_nil ?_
              refine thenN ?_
              refine wp_ret ?_
              obtain rfl := Option.some.inj hm
              exact leave1 S rfl rfl ⟨rfl, H⟩
            · skip
              refine loop_ghost (fun n a w => ∃ (x95 : Int), Slots a 69 [(0, p0), (1, (.int .i64 a1)), (2, p2), (9, v60), (11, (.int .i64 x95))] ∧ Heap w0 [oA (rList Rimpl_Vertex) v60 x58.1] w ∧ iter f129 n (x95) = some res127) _ ⟨(0 : Int), S.sub ⟨rfl, rfl, rfl, rfl, rfl, trivial⟩, H, hit128⟩ ?_
              rintro n a w ⟨x95, S, H, hit128⟩
              obtain ⟨m132, o133, rfl, hm, hc134⟩ := iter_step hit128
              rw [hf130] at hm
              refine wp_seq ?_
              refine wp_seq ?_
              refine region_plain ?_
              refine lx_q (.int .i64 x95) S trivial (by decide) (q_move rfl) (fun a S => ?_)
              refine lx_q p2 S trivial (by decide) (q_move rfl) (fun a S => ?_)
              refine lx_q (.int .i64 (a2.length : Int)) S trivial (by decide) (q_lenSl rfl (h2).isSl rfl Try.underlying23) (fun a S => ?_)
              refine lx_q (.bool (decide (x95 < (a2.length : Int)))) S trivial (by decide) (q_lss rfl rfl) (fun a S => ?_)
              refine lx_nil ?_
              refine thenN ?_
              refine cond_b S rfl (fun hc135 => ?_) (fun hc135 => ?_)
              · have hm := ite_t hc135 hm
                refine wp_skip ?_
                refine thenN ?_
                refine wp_seq ?_
                refine wp_block ?_
                refine wp_seq ?_
                refine region_plain ?_
                refine lx_q p2 S trivial (by decide) (q_move rfl) (fun a S => ?_)
                refine lx_q (.int .i64 x95) S trivial (by decide) (q_move rfl) (fun a S => ?_)
                obtain ⟨x136, e137, hm⟩ := bind_some hm
                obtain ⟨c138, h139, hat140⟩ := (h2).elem (idx_some e137).2
                obtain rfl := h139
                have hlt := lt_of_idx (idx_some e137).2
                refine lx_q (ePtr p2 (x95.toNat * 1)) S trivial (by decide) (q_indexAddr rfl (h2).isSl rfl (idx_some e137).1 hlt Try.underlying23 Try.sizeOf2) (fun a S => ?_)
                refine lx_e (.int .i64 x136) S trivial (by decide) rfl trivial (q_load1 rfl Try.isAgg2 (by rintro _ rfl; exact ((hat140 0 _ rfl).ext H.ext))) (fun a S => ?_)
                refine lx_q (.int .i64 x136) S trivial (by decide) (q_assign rfl) (fun a S => ?_)
                refine lx_nil ?_
                refine thenN ?_
                refine wp_seq ?_
                refine region_plain ?_
                refine lx_q p0 S trivial (by decide) (q_move rfl) (fun a S => ?_)
                refine lx_q (.int .i64 x136) S trivial (by decide) (q_move rfl) (fun a S => ?_)
                obtain ⟨x141, e142, hm⟩ := bind_some hm
                obtain ⟨c143, h144, hat145⟩ := (h0).elem (idx_some e142).2
                obtain ⟨c148, c149, rfl, h150, h151⟩ := h144
                obtain rfl := h150
                obtain ⟨c152, c153, rfl, h154, h155⟩ := h151
                obtain rfl := h154
                obtain ⟨v146, rfl, h147⟩ := rd_list h155
                have hlt := lt_of_idx (idx_some e142).2
                refine lx_q (ePtr p0 (x136.toNat * 3)) S trivial (by decide) (q_indexAddr rfl (h0).isSl rfl (idx_some e142).1 hlt Try.underlying26 Try.sizeOf71) (fun a S => ?_)
                refine lx_q (pAdd (ePtr p0 (x136.toNat * 3)) 1) S trivial (by decide) (q_fieldAddr' 1 2 rfl ((hat145 0 _ rfl).isP) Try.underlying71 rfl Try.sizeOf2) (fun a S => ?_)
                refine lx_e (.int .i64 x141.2.1) S trivial (by decide) rfl trivial (q_load1 rfl Try.isAgg2 (by rintro _ rfl; exact (At.of_add (m := 1) (j := 0) ((hat145 1 _ rfl).ext H.ext)))) (fun a S => ?_)
                refine lx_q (.int .i64 (x141.2.1.tmod (2 : Int))) S trivial (by decide) (q_rem rfl rfl (show (2 : Int) ≠ 0 from by decide)) (fun a S => ?_)
                refine lx_q (.int .i64 a1) S trivial (by decide) (q_move rfl) (fun a S => ?_)
                refine lx_q (.bool ((x141.2.1.tmod (2 : Int)) != a1)) S trivial (by decide) (q_neq rfl rfl) (fun a S => ?_)
                refine lx_q (.bool ((x141.2.1.tmod (2 : Int)) != a1)) S trivial (by decide) (q_move rfl) (fun a S => ?_)
                obtain ⟨t156, e157, hm⟩ := bind_some hm
                refine lx_cut 4 (fun a w => Slots a 69 [(0, p0), (1, (.int .i64 a1)), (2, p2), (9, v60), (11, (.int .i64 x95)), (68, (.bool t156))] ∧ Heap w0 [oA (rList Rimpl_Vertex) v60 x58.1] w) ?_ ?_
                · by_cases hc158 : ((x141.2.1.tmod (2 : Int)) != a1) = true
                  · have hm := ite_t hc158 e157
                    refine lx_q v60 S (want_b rfl rfl hc158) (by decide) (q_move rfl) (fun a S => ?_)
                    refine lx_q (.int .i64 x136) S (want_b rfl rfl hc158) (by decide) (q_move rfl) (fun a S => ?_)
                    obtain ⟨x161, e162, hm⟩ := bind_some hm
                    refine lx_call (xs := [.tmp 65, .tmp 66]) S (want_b rfl rfl hc158) (by decide) rfl rfl Try.call57 ((spec_l23Cycle_ok (H.rdAt 0 rfl)  e162).mono ?_)
                    rintro e w159 ⟨rfl, Hc160⟩
                    have he163 := Hc160.ext
                    have H := H.call0 Hc160
                    refine ⟨_, rfl, trivial, fun a S => ?_⟩
                    refine lx_q (.bool x161) S trivial (by decide) (q_pickT' rfl hc158 rfl) (fun a S => ?_)
                    refine lx_nil ?_
                    obtain rfl := Option.some.inj hm
                    exact ⟨S.sub ⟨rfl, rfl, rfl, rfl, rfl, rfl, trivial⟩, H⟩
                  · have hm := ite_f (eq_false_of_ne_true hc158) e157
                    have hc158 : ((x141.2.1.tmod (2 : Int)) != a1) = false := eq_false_of_ne_true hc158
                    refine lx_skip S rfl rfl (isB_ne hc158) (by decide) (fun a S => ?_)
                    refine lx_skip S rfl rfl (isB_ne hc158) (by decide) (fun a S => ?_)
                    refine lx_skip S rfl rfl (isB_ne hc158) (by decide) (fun a S => ?_)
                    refine lx_q (.bool false) S trivial (by decide) (q_pickF' rfl hc158 rfl) (fun a S => ?_)
                    refine lx_nil ?_
                    obtain rfl := Option.some.inj hm
                    exact ⟨S.sub ⟨rfl, rfl, rfl, rfl, rfl, rfl, trivial⟩, H⟩
                · rintro a w ⟨S, H⟩
                  refine lx_nil ?_
                  refine thenN ?_
                  refine cond_b S rfl (fun hc164 => ?_) (fun hc164 => ?_)
                  · have hm := ite_t hc164 hm
                    refine wp_seq ?_
                    refine region_plain ?_
                    refine lx_q (.bool false) S trivial (by decide) (q_assign rfl) (fun a S => ?_)
                    refine lx_nil ?_
                    refine thenN ?_
                    refine wp_ret ?_
                    refine inBlock_ret ?_
                    refine then_ret ?_
                    refine then_ret ?_
                    refine inBlock_ret ?_
                    refine then_ret ?_
                    refine then_ret ?_
                    obtain rfl := it_brk hm hc134
                    have hm := ctl_inr hk131
                    obtain rfl := Option.some.inj hm
                    have H : Heap w0 [] w := H.sel [] (by decide)
                    exact leave1 S rfl rfl ⟨rfl, H⟩
                  · have hm := ite_f hc164 hm
                    refine wp_skip ?_
                    refine inBlock_norm ?_
                    refine thenN ?_
                    refine region_plain ?_
                    refine lx_q (.int .i64 x95) S trivial (by decide) (q_move rfl) (fun a S => ?_)
                    refine lx_q (.int .i64 (W (x95 + (1 : Int)))) S trivial (by decide) (q_add rfl rfl) (fun a S => ?_)
                    refine lx_q (.int .i64 (W (x95 + (1 : Int)))) S trivial (by decide) (q_assign rfl) (fun a S => ?_)
                    refine lx_nil ?_
                    exact ⟨m132, Nat.lt_succ_self _, (W (x95 + (1 : Int))), S.sub ⟨rfl, rfl, rfl, rfl, rfl, trivial⟩, H, it_cont hm hc134⟩
              · have hm := ite_f hc135 hm
                refine wp_exit ?_
                refine then_exit ?_
                refine then_exit ?_
                refine inBlock_exit ?_
                obtain rfl := it_brk hm hc134
                have H : Heap w0 [] w := H.sel [] (by decide)
                exact ⟨S.sub trivial, H, rfl⟩

/-- impl.within -/
def impl_within_m (_ : Nat) (a0 : Int) (a1 : Int) (a2 : Int) : Option (Bool) :=
  (if (decide (a1 ≤ a0)) = true then some (decide (a0 ≤ a2)) else some false).bind fun t31 => some (t31)
set_option maxRecDepth 20000 in
theorem impl_within_ok {w0 : World} {fuel : Nat} {a0 : Int} {a1 : Int} {a2 : Int} {r : Bool} (hm : impl_within_m fuel a0 a1 a2 = some r) :
    Calls Try.prog 112 #[.int .i64 a0, .int .i64 a1, .int .i64 a2] w0 fun e w => e = .returned (.bool r) ∧ Heap w0 [] w := by
  unfold impl_within_m at hm
  have H := Heap.start w0
  refine enter (args := [.int .i64 a0, .int .i64 a1, .int .i64 a2]) Try.func112 rfl 15 rfl (Nat.le_of_ble_eq_true rfl) (fun a S => ?_)
  refine wp_seq ?_
  refine region_plain ?_
  refine lx_q (.bool false) S trivial (by decide) (q_assign rfl) (fun a S => ?_)
  refine lx_nil ?_
  refine thenN ?_
  refine wp_seq ?_
  refine region_plain ?_
  refine lx_q (.int .i64 a0) S trivial (by decide) (q_move rfl) (fun a S => ?_)
  refine lx_q (.int .i64 a1) S trivial (by decide) (q_move rfl) (fun a S => ?_)
  refine lx_q (.bool (decide (a1 ≤ a0))) S trivial (by decide) (q_geq rfl rfl) (fun a S => ?_)
  refine lx_q (.bool (decide (a1 ≤ a0))) S trivial (by decide) (q_move rfl) (fun a S => ?_)
  obtain ⟨t31, e32, hm⟩ := bind_some hm
  refine lx_cut 4 (fun a w => Slots a 15 [(14, (.bool t31))] ∧ Heap w0 [] w) ?_ ?_
  · by_cases hc33 : (decide (a1 ≤ a0)) = true
    · have hm := ite_t hc33 e32
      refine lx_q (.int .i64 a0) S (want_b rfl rfl hc33) (by decide) (q_move rfl) (fun a S => ?_)
      refine lx_q (.int .i64 a2) S (want_b rfl rfl hc33) (by decide) (q_move rfl) (fun a S => ?_)
      refine lx_q (.bool (decide (a0 ≤ a2))) S (want_b rfl rfl hc33) (by decide) (q_leq rfl rfl) (fun a S => ?_)
      refine lx_q (.bool (decide (a0 ≤ a2))) S trivial (by decide) (q_pickT' rfl hc33 rfl) (fun a S => ?_)
      refine lx_nil ?_
      obtain rfl := Option.some.inj hm
      exact ⟨S.sub ⟨rfl, trivial⟩, H⟩
    · have hm := ite_f (eq_false_of_ne_true hc33) e32
      have hc33 : (decide (a1 ≤ a0)) = false := eq_false_of_ne_true hc33
      refine lx_skip S rfl rfl (isB_ne hc33) (by decide) (fun a S => ?_)
      refine lx_skip S rfl rfl (isB_ne hc33) (by decide) (fun a S => ?_)
      refine lx_skip S rfl rfl (isB_ne hc33) (by decide) (fun a S => ?_)
      refine lx_q (.bool false) S trivial (by decide) (q_pickF' rfl hc33 rfl) (fun a S => ?_)
      refine lx_nil ?_
      obtain rfl := Option.some.inj hm
      exact ⟨S.sub ⟨rfl, trivial⟩, H⟩
  · rintro a w ⟨S, H⟩
    refine lx_q (.bool t31) S trivial (by decide) (q_assign rfl) (fun a S => ?_)
    refine lx_nil ?_
    refine thenN ?_
    refine wp_ret ?_
    obtain rfl := Option.some.inj hm
    exact leave1 S rfl rfl ⟨rfl, H⟩

/-- impl.index -/
def impl_index_m (fuel : Nat) (a0 : Int) (a1 : Int) : Option (Bool) :=
  (impl_within_m fuel a0 (0 : Int) (W (a1 - (1 : Int)))).bind fun x33 => some (x33)
set_option maxRecDepth 20000 in
theorem impl_index_ok {w0 : World} {fuel : Nat} {a0 : Int} {a1 : Int} {r : Bool} (hm : impl_index_m fuel a0 a1 = some r) :
    Calls Try.prog 115 #[.int .i64 a0, .int .i64 a1] w0 fun e w => e = .returned (.bool r) ∧ Heap w0 [] w := by
  unfold impl_index_m at hm
  have H := Heap.start w0
  refine enter (args := [.int .i64 a0, .int .i64 a1]) Try.func115 rfl 9 rfl (Nat.le_of_ble_eq_true rfl) (fun a S => ?_)
  refine wp_seq ?_
  refine region_plain ?_
  refine lx_q (.bool false) S trivial (by decide) (q_assign rfl) (fun a S => ?_)
  refine lx_nil ?_
  refine thenN ?_
  refine wp_seq ?_
  refine region_plain ?_
  refine lx_q (.int .i64 a0) S trivial (by decide) (q_move rfl) (fun a S => ?_)
  refine lx_q (.int .i64 a1) S trivial (by decide) (q_move rfl) (fun a S => ?_)
  refine lx_q (.int .i64 (W (a1 - (1 : Int)))) S trivial (by decide) (q_sub rfl rfl) (fun a S => ?_)
  obtain ⟨x33, e34, hm⟩ := bind_some hm
  refine lx_call (xs := [.tmp 5, .const (.int .i64 (0)), .tmp 7]) S trivial (by decide) rfl rfl Try.call112 ((impl_within_ok    e34).mono ?_)
  rintro e w31 ⟨rfl, Hc32⟩
  have he35 := Hc32.ext
  have H := H.call0 Hc32
  refine ⟨_, rfl, trivial, fun a S => ?_⟩
  refine lx_q (.bool x33) S trivial (by decide) (q_assign rfl) (fun a S => ?_)
  refine lx_nil ?_
  refine thenN ?_
  refine wp_ret ?_
  obtain rfl := Option.some.inj hm
  exact leave1 S rfl rfl ⟨rfl, H⟩

/-- impl.increasing -/
def impl_increasing_m (fuel : Nat) (a0 : (List Int)) (a1 : Int) : Option (Bool) :=
  (iter (fun (s : (Int)) => (match s with | (x55) => (if (decide (x55 < (a0.length : Int))) = true then (idx a0 x55).bind fun x89 => (impl_index_m fuel x89 a1).bind fun x96 => (if (!x96) = true then some true else (if (decide ((0 : Int) < x55)) = true then (idx a0 (W (x55 - (1 : Int)))).bind fun x105 => some (decide (x89 ≤ x105)) else some false).bind fun t102 => some t102).bind fun t99 => (if t99 = true then some (.inr (.inr false)) else some (.inl ((W (x55 + (1 : Int)))))) else some (.inr (.inl ()))) : Option (((Int)) ⊕ ((Unit) ⊕ (Bool))))) fuel ((0 : Int))).bind fun res80 => ctl (β := Unit) (ρ := Bool) (τ := Bool) res80 (fun _ => some (true)) (fun q => some (q))
set_option maxRecDepth 20000 in
theorem impl_increasing_ok {w0 : World} {fuel : Nat} {p0 : Value} {a0 : (List Int)} {a1 : Int} {r : Bool} (h0 : Rd (rList (rInt .i64)) w0 p0 a0) (hm : impl_increasing_m fuel a0 a1 = some r) :
    Calls Try.prog 61 #[p0, .int .i64 a1] w0 fun e w => e = .returned (.bool r) ∧ Heap w0 [] w := by
  unfold impl_increasing_m at hm
  have H := Heap.start w0
  refine enter (args := [p0, .int .i64 a1]) Try.func61 rfl 32 rfl (Nat.le_of_ble_eq_true rfl) (fun a S => ?_)
  refine wp_seq ?_
  refine region_plain ?_
  refine lx_q (.bool false) S trivial (by decide) (q_assign rfl) (fun a S => ?_)
  refine lx_nil ?_
  refine thenN ?_
  refine wp_seq ?_
  refine wp_seq ?_
  refine region_plain ?_
  refine lx_q p0 S trivial (by decide) (q_move rfl) (fun a S => ?_)
  refine lx_q (.int .i64 (a0.length : Int)) S trivial (by decide) (q_lenSl rfl (h0).isSl rfl Try.underlying23) (fun a S => ?_)
  refine lx_q (.int .i64 (0 : Int)) S trivial (by decide) (q_move rfl) (fun a S => ?_)
  refine lx_nil ?_
  refine thenN ?_
  obtain ⟨res80, hit81, hk84⟩ := bind_some hm
  obtain ⟨f82, hf83, hit81⟩ := iter_name hit81
  refine block_loop (fun a w => Slots a 32 [] ∧ Heap w0 [] w ∧ res80 = .inl ()) ?_ ?_
  · rintro a w ⟨S, H, rfl⟩
    have hm := ctl_inl hk84
    refine thenN ?_
    refine wp_seq ?_
    refine region_plain ?_
    refine lx_q (.bool true) S trivial (by decide) (q_assign rfl) (fun a S => ?_)
    refine lx_nil ?_
    refine thenN ?_
    refine wp_ret ?_
    obtain rfl := Option.some.inj hm
    exact leave1 S rfl rfl ⟨rfl, H⟩
  · skip
    refine loop_ghost (fun n a w => ∃ (x55 : Int), Slots a 32 [(0, p0), (1, (.int .i64 a1)), (7, p0), (8, (.int .i64 (a0.length : Int))), (9, (.int .i64 x55))] ∧ Heap w0 [] w ∧ iter f82 n (x55) = some res80) _ ⟨(0 : Int), S.sub ⟨rfl, rfl, rfl, rfl, rfl, trivial⟩, H, hit81⟩ ?_
    rintro n a w ⟨x55, S, H, hit81⟩
    obtain ⟨m85, o86, rfl, hm, hc87⟩ := iter_step hit81
    rw [hf83] at hm
    refine wp_seq ?_
    refine region_plain ?_
    refine lx_q (.bool (decide (x55 < (a0.length : Int)))) S trivial (by decide) (q_lss rfl rfl) (fun a S => ?_)
    refine lx_nil ?_
    refine thenN ?_
    refine wp_seq ?_
    refine cond_b S rfl (fun hc88 => ?_) (fun hc88 => ?_)
    · have hm := ite_t hc88 hm
      refine wp_skip ?_
      refine thenN ?_
      refine wp_seq ?_
      refine wp_block ?_
      refine wp_seq ?_
      refine region_plain ?_
      refine lx_q (.int .i64 x55) S trivial (by decide) (q_move rfl) (fun a S => ?_)
      obtain ⟨x89, e90, hm⟩ := bind_some hm
      obtain ⟨c91, h92, hat93⟩ := (h0).elem (idx_some e90).2
      obtain rfl := h92
      have hlt := lt_of_idx (idx_some e90).2
      refine lx_q (ePtr p0 (x55.toNat * 1)) S trivial (by decide) (q_indexAddr rfl (h0).isSl rfl (idx_some e90).1 hlt Try.underlying23 Try.sizeOf2) (fun a S => ?_)
      refine lx_e (.int .i64 x89) S trivial (by decide) rfl trivial (q_load1 rfl Try.isAgg2 (by rintro _ rfl; exact ((hat93 0 _ rfl).ext H.ext))) (fun a S => ?_)
      refine lx_q (.int .i64 x55) S trivial (by decide) (q_assign rfl) (fun a S => ?_)
      refine lx_q (.int .i64 x89) S trivial (by decide) (q_assign rfl) (fun a S => ?_)
      refine lx_nil ?_
      refine thenN ?_
      refine wp_seq ?_
      refine region_plain ?_
      refine lx_q (.int .i64 x89) S trivial (by decide) (q_move rfl) (fun a S => ?_)
      refine lx_q (.int .i64 a1) S trivial (by decide) (q_move rfl) (fun a S => ?_)
      obtain ⟨x96, e97, hm⟩ := bind_some hm
      refine lx_call (xs := [.tmp 14, .tmp 15]) S trivial (by decide) rfl rfl Try.call115 ((impl_index_ok   e97).mono ?_)
      rintro e w94 ⟨rfl, Hc95⟩
      have he98 := Hc95.ext
      have H := H.call0 Hc95
      refine ⟨_, rfl, trivial, fun a S => ?_⟩
      refine lx_q (.bool (!x96)) S trivial (by decide) (q_not rfl) (fun a S => ?_)
      refine lx_q (.bool (!x96)) S trivial (by decide) (q_move rfl) (fun a S => ?_)
      obtain ⟨t99, e100, hm⟩ := bind_some hm
      refine lx_cut 12 (fun a w => Slots a 32 [(0, p0), (1, (.int .i64 a1)), (7, p0), (8, (.int .i64 (a0.length : Int))), (9, (.int .i64 x55)), (30, (.bool t99))] ∧ Heap w0 [] w) ?_ ?_
      · by_cases hc101 : (!x96) = true
        · have hm := ite_t hc101 e100
          refine lx_skip S rfl rfl (isB_ne hc101) (by decide) (fun a S => ?_)
          refine lx_skip S rfl rfl (isB_ne hc101) (by decide) (fun a S => ?_)
          refine lx_skip S rfl rfl (isB_ne hc101) (by decide) (fun a S => ?_)
          refine lx_skip S rfl rfl rfl (by decide) (fun a S => ?_)
          refine lx_skip S rfl rfl rfl (by decide) (fun a S => ?_)
          refine lx_skip S rfl rfl rfl (by decide) (fun a S => ?_)
          refine lx_skip S rfl rfl rfl (by decide) (fun a S => ?_)
          refine lx_skip S rfl rfl rfl (by decide) (fun a S => ?_)
          refine lx_skip S rfl rfl rfl (by decide) (fun a S => ?_)
          refine lx_skip S rfl rfl rfl (by decide) (fun a S => ?_)
          refine lx_skip S rfl rfl (isB_ne hc101) (by decide) (fun a S => ?_)
          refine lx_q (.bool true) S trivial (by decide) (q_pickT' rfl hc101 rfl) (fun a S => ?_)
          refine lx_nil ?_
          obtain rfl := Option.some.inj hm
          exact ⟨S.sub ⟨rfl, rfl, rfl, rfl, rfl, rfl, trivial⟩, H⟩
        · have hm := ite_f (eq_false_of_ne_true hc101) e100
          have hc101 : (!x96) = false := eq_false_of_ne_true hc101
          refine lx_q (.int .i64 x55) S (want_b rfl rfl hc101) (by decide) (q_move rfl) (fun a S => ?_)
          refine lx_q (.bool (decide ((0 : Int) < x55))) S (want_b rfl rfl hc101) (by decide) (q_gtr rfl rfl) (fun a S => ?_)
          refine lx_q (.bool (decide ((0 : Int) < x55))) S (want_b rfl rfl hc101) (by decide) (q_move rfl) (fun a S => ?_)
          obtain ⟨t102, e103, hm⟩ := bind_some hm
          refine lx_cut 8 (fun a w => Slots a 32 [(0, p0), (1, (.int .i64 a1)), (7, p0), (8, (.int .i64 (a0.length : Int))), (9, (.int .i64 x55)), (18, (.bool (!x96))), (29, (.bool t102))] ∧ Heap w0 [] w) ?_ ?_
          · by_cases hc104 : (decide ((0 : Int) < x55)) = true
            · have hm := ite_t hc104 e103
              refine lx_q (.int .i64 x89) S (want_b rfl rfl hc104) (by decide) (q_move rfl) (fun a S => ?_)
              refine lx_q p0 S (want_b rfl rfl hc104) (by decide) (q_move rfl) (fun a S => ?_)
              refine lx_q (.int .i64 x55) S (want_b rfl rfl hc104) (by decide) (q_move rfl) (fun a S => ?_)
              refine lx_q (.int .i64 (W (x55 - (1 : Int)))) S (want_b rfl rfl hc104) (by decide) (q_sub rfl rfl) (fun a S => ?_)
              obtain ⟨x105, e106, hm⟩ := bind_some hm
              obtain ⟨c107, h108, hat109⟩ := (h0).elem (idx_some e106).2
              obtain rfl := h108
              have hlt := lt_of_idx (idx_some e106).2
              refine lx_q (ePtr p0 ((W (x55 - (1 : Int))).toNat * 1)) S (want_b rfl rfl hc104) (by decide) (q_indexAddr rfl (h0).isSl rfl (idx_some e106).1 hlt Try.underlying23 Try.sizeOf2) (fun a S => ?_)
              refine lx_e (.int .i64 x105) S (want_b rfl rfl hc104) (by decide) rfl trivial (q_load1 rfl Try.isAgg2 (by rintro _ rfl; exact ((hat109 0 _ rfl).ext H.ext))) (fun a S => ?_)
              refine lx_q (.bool (decide (x89 ≤ x105))) S (want_b rfl rfl hc104) (by decide) (q_leq rfl rfl) (fun a S => ?_)
              refine lx_q (.bool (decide (x89 ≤ x105))) S (want_b rfl rfl hc101) (by decide) (q_pickT' rfl hc104 rfl) (fun a S => ?_)
              refine lx_nil ?_
              obtain rfl := Option.some.inj hm
              exact ⟨S.sub ⟨rfl, rfl, rfl, rfl, rfl, rfl, rfl, trivial⟩, H⟩
            · have hm := ite_f (eq_false_of_ne_true hc104) e103
              have hc104 : (decide ((0 : Int) < x55)) = false := eq_false_of_ne_true hc104
              refine lx_skip S rfl rfl (isB_ne hc104) (by decide) (fun a S => ?_)
              refine lx_skip S rfl rfl (isB_ne hc104) (by decide) (fun a S => ?_)
              refine lx_skip S rfl rfl (isB_ne hc104) (by decide) (fun a S => ?_)
              refine lx_skip S rfl rfl (isB_ne hc104) (by decide) (fun a S => ?_)
              refine lx_skip S rfl rfl (isB_ne hc104) (by decide) (fun a S => ?_)
              refine lx_skip S rfl rfl (isB_ne hc104) (by decide) (fun a S => ?_)
              refine lx_skip S rfl rfl (isB_ne hc104) (by decide) (fun a S => ?_)
              refine lx_q (.bool false) S (want_b rfl rfl hc101) (by decide) (q_pickF' rfl hc104 rfl) (fun a S => ?_)
              refine lx_nil ?_
              obtain rfl := Option.some.inj hm
              exact ⟨S.sub ⟨rfl, rfl, rfl, rfl, rfl, rfl, rfl, trivial⟩, H⟩
          · rintro a w ⟨S, H⟩
            refine lx_q (.bool t102) S trivial (by decide) (q_pickF' rfl hc101 rfl) (fun a S => ?_)
            refine lx_nil ?_
            obtain rfl := Option.some.inj hm
            exact ⟨S.sub ⟨rfl, rfl, rfl, rfl, rfl, rfl, trivial⟩, H⟩
      · rintro a w ⟨S, H⟩
        refine lx_nil ?_
        refine thenN ?_
        refine cond_b S rfl (fun hc110 => ?_) (fun hc110 => ?_)
        · have hm := ite_t hc110 hm
          refine wp_seq ?_
          refine region_plain ?_
          refine lx_q (.bool false) S trivial (by decide) (q_assign rfl) (fun a S => ?_)
          refine lx_nil ?_
          refine thenN ?_
          refine wp_ret ?_
          refine inBlock_ret ?_
          refine then_ret ?_
          refine then_ret ?_
          refine inBlock_ret ?_
          refine then_ret ?_
          refine then_ret ?_
          obtain rfl := it_brk hm hc87
          have hm := ctl_inr hk84
          obtain rfl := Option.some.inj hm
          exact leave1 S rfl rfl ⟨rfl, H⟩
        · have hm := ite_f hc110 hm
          refine wp_skip ?_
          refine inBlock_norm ?_
          refine thenN ?_
          refine region_plain ?_
          refine lx_q (.int .i64 (W (x55 + (1 : Int)))) S trivial (by decide) (q_add rfl rfl) (fun a S => ?_)
          refine lx_q (.int .i64 (W (x55 + (1 : Int)))) S trivial (by decide) (q_move rfl) (fun a S => ?_)
          refine lx_nil ?_
          exact ⟨m85, Nat.lt_succ_self _, (W (x55 + (1 : Int))), S.sub ⟨rfl, rfl, rfl, rfl, rfl, trivial⟩, H, it_cont hm hc87⟩
    · have hm := ite_f hc88 hm
      refine wp_exit ?_
      refine then_exit ?_
      refine then_exit ?_
      refine inBlock_exit ?_
      obtain rfl := it_brk hm hc87
      exact ⟨S.sub trivial, H, rfl⟩

/-- impl.ValidGame$1 -/
def impl_ValidGame_1_m (fuel : Nat) (a0 : Timpl_Vertex) (a1 : (List Timpl_Vertex)) : Option (Bool) :=
  (impl_within_m fuel a0.1 (0 : Int) (1 : Int)).bind fun x53 => (if (!x53) = true then some true else (impl_within_m fuel a0.2.1 (0 : Int) (9 : Int)).bind fun x61 => some (!x61)).bind fun t56 => (if t56 = true then some true else (impl_increasing_m fuel a0.2.2 (a1.length : Int)).bind fun x69 => some (!x69)).bind fun t64 => some (t64)
set_option maxRecDepth 20000 in
theorem impl_ValidGame_1_ok {w0 : World} {fuel : Nat} {p0 p1 : Value} {a0 : Timpl_Vertex} {a1 : (List Timpl_Vertex)} {r : Bool} (h0 : Rd Rimpl_Vertex w0 p0 a0) (h1 : Rd (rPtr (rList Rimpl_Vertex)) w0 p1 a1) (hm : impl_ValidGame_1_m fuel a0 a1 = some r) :
    Calls Try.prog 114 #[p0, p1] w0 fun e w => e = .returned (.bool r) ∧ Heap w0 [] w := by
  unfold impl_ValidGame_1_m at hm
  have H := Heap.start w0
  obtain ⟨c31, rfl, h32⟩ := h0
  obtain ⟨c35, c36, rfl, h37, h38⟩ := h32
  obtain rfl := h37
  obtain ⟨c39, c40, rfl, h41, h42⟩ := h38
  obtain rfl := h41
  obtain ⟨v33, rfl, h34⟩ := rd_list h42
  obtain ⟨c43, h44, hat45⟩ := h1.ptr
  obtain ⟨v46, rfl, h47⟩ := rd_list h44
  refine enter (args := [(.agg #[(.int .i64 a0.1), (.int .i64 a0.2.1), v33]), p1]) Try.func114 rfl 22 rfl (Nat.le_of_ble_eq_true rfl) (fun a S => ?_)
  refine wp_seq ?_
  refine region_plain ?_
  refine lx_box S trivial (by decide) rfl H rfl rfl (fun b48 w49 H => ⟨trivial, fun a S => ?_⟩)
  refine lx_q (.bool false) S trivial (by decide) (q_assign rfl) (fun a S => ?_)
  refine lx_nil ?_
  refine thenN ?_
  refine wp_seq ?_
  refine region_plain ?_
  refine lx_q (pAdd (bp b48) 0) S trivial (by decide) (q_fieldAddr' 0 2 rfl (isP_bp _) Try.underlying71 rfl Try.sizeOf2) (fun a S => ?_)
  refine lx_e (.int .i64 a0.1) S trivial (by decide) rfl trivial (q_load1 rfl Try.isAgg2 (by rintro _ rfl; exact (At.of_add (m := 0) (j := 0) (boxAt (i := 0) H rfl (j := 0) rfl)))) (fun a S => ?_)
  obtain ⟨x53, e54, hm⟩ := bind_some hm
  refine lx_call (xs := [.tmp 5, .const (.int .i64 (0)), .const (.int .i64 (1))]) S trivial (by decide) rfl rfl Try.call112 ((impl_within_ok    e54).mono ?_)
  rintro e w51 ⟨rfl, Hc52⟩
  have he55 := Hc52.ext
  have H := H.call0 Hc52
  refine ⟨_, rfl, trivial, fun a S => ?_⟩
  refine lx_q (.bool (!x53)) S trivial (by decide) (q_not rfl) (fun a S => ?_)
  refine lx_q (.bool (!x53)) S trivial (by decide) (q_move rfl) (fun a S => ?_)
  obtain ⟨t56, e57, hm⟩ := bind_some hm
  refine lx_cut 5 (fun a w => Slots a 22 [(1, p1), (2, (bp b48)), (13, (.bool t56))] ∧ Heap w0 [bA b48 [(.int .i64 a0.1), (.int .i64 a0.2.1), v33] 71] w) ?_ ?_
  · by_cases hc58 : (!x53) = true
    · have hm := ite_t hc58 e57
      refine lx_skip S rfl rfl (isB_ne hc58) (by decide) (fun a S => ?_)
      refine lx_skip S rfl rfl (isB_ne hc58) (by decide) (fun a S => ?_)
      refine lx_skip S rfl rfl (isB_ne hc58) (by decide) (fun a S => ?_)
      refine lx_skip S rfl rfl (isB_ne hc58) (by decide) (fun a S => ?_)
      refine lx_q (.bool true) S trivial (by decide) (q_pickT' rfl hc58 rfl) (fun a S => ?_)
      refine lx_nil ?_
      obtain rfl := Option.some.inj hm
      exact ⟨S.sub ⟨rfl, rfl, rfl, trivial⟩, H⟩
    · have hm := ite_f (eq_false_of_ne_true hc58) e57
      have hc58 : (!x53) = false := eq_false_of_ne_true hc58
      refine lx_q (pAdd (bp b48) 1) S (want_b rfl rfl hc58) (by decide) (q_fieldAddr' 1 2 rfl (isP_bp _) Try.underlying71 rfl Try.sizeOf2) (fun a S => ?_)
      refine lx_e (.int .i64 a0.2.1) S (want_b rfl rfl hc58) (by decide) rfl trivial (q_load1 rfl Try.isAgg2 (by rintro _ rfl; exact (At.of_add (m := 1) (j := 0) (boxAt (i := 0) H rfl (j := 1) rfl)))) (fun a S => ?_)
      obtain ⟨x61, e62, hm⟩ := bind_some hm
      refine lx_call (xs := [.tmp 10, .const (.int .i64 (0)), .const (.int .i64 (9))]) S (want_b rfl rfl hc58) (by decide) rfl rfl Try.call112 ((impl_within_ok    e62).mono ?_)
      rintro e w59 ⟨rfl, Hc60⟩
      have he63 := Hc60.ext
      have H := H.call0 Hc60
      refine ⟨_, rfl, trivial, fun a S => ?_⟩
      refine lx_q (.bool (!x61)) S (want_b rfl rfl hc58) (by decide) (q_not rfl) (fun a S => ?_)
      refine lx_q (.bool (!x61)) S trivial (by decide) (q_pickF' rfl hc58 rfl) (fun a S => ?_)
      refine lx_nil ?_
      obtain rfl := Option.some.inj hm
      exact ⟨S.sub ⟨rfl, rfl, rfl, trivial⟩, H⟩
  · rintro a w ⟨S, H⟩
    refine lx_q (.bool t56) S trivial (by decide) (q_move rfl) (fun a S => ?_)
    obtain ⟨t64, e65, hm⟩ := bind_some hm
    refine lx_cut 7 (fun a w => Slots a 22 [(21, (.bool t64))] ∧ Heap w0 [] w) ?_ ?_
    · by_cases hc66 : t56 = true
      · have hm := ite_t hc66 e65
        refine lx_skip S rfl rfl (isB_ne hc66) (by decide) (fun a S => ?_)
        refine lx_skip S rfl rfl (isB_ne hc66) (by decide) (fun a S => ?_)
        refine lx_skip S rfl rfl (isB_ne hc66) (by decide) (fun a S => ?_)
        refine lx_skip S rfl rfl (isB_ne hc66) (by decide) (fun a S => ?_)
        refine lx_skip S rfl rfl (isB_ne hc66) (by decide) (fun a S => ?_)
        refine lx_skip S rfl rfl (isB_ne hc66) (by decide) (fun a S => ?_)
        refine lx_q (.bool true) S trivial (by decide) (q_pickT' rfl hc66 rfl) (fun a S => ?_)
        refine lx_nil ?_
        obtain rfl := Option.some.inj hm
        have H := H.sel [] (by decide)
        exact ⟨S.sub ⟨rfl, trivial⟩, H⟩
      · have hm := ite_f (eq_false_of_ne_true hc66) e65
        have hc66 : t56 = false := eq_false_of_ne_true hc66
        refine lx_q (pAdd (bp b48) 2) S (want_b rfl rfl hc66) (by decide) (q_fieldAddr' 2 23 rfl (isP_bp _) Try.underlying71 rfl Try.sizeOf23) (fun a S => ?_)
        refine lx_e v33 S (want_b rfl rfl hc66) (by decide) rfl trivial (q_load1 rfl Try.isAgg23 (by rintro _ rfl; exact (At.of_add (m := 2) (j := 0) (boxAt (i := 0) H rfl (j := 2) rfl)))) (fun a S => ?_)
        refine lx_e v46 S (want_b rfl rfl hc66) (by decide) rfl trivial (q_load1 rfl Try.isAgg26 (by rintro _ rfl; exact ((hat45 0 _ rfl).ext H.ext))) (fun a S => ?_)
        refine lx_q (.int .i64 (a1.length : Int)) S (want_b rfl rfl hc66) (by decide) (q_lenSl rfl (h47).isSl rfl Try.underlying26) (fun a S => ?_)
        obtain ⟨x69, e70, hm⟩ := bind_some hm
        refine lx_call (xs := [.tmp 16, .tmp 18]) S (want_b rfl rfl hc66) (by decide) rfl rfl Try.call61 ((impl_increasing_ok (H.arg h34)  e70).mono ?_)
        rintro e w67 ⟨rfl, Hc68⟩
        have he71 := Hc68.ext
        have H := H.call0 Hc68
        refine ⟨_, rfl, trivial, fun a S => ?_⟩
        refine lx_q (.bool (!x69)) S (want_b rfl rfl hc66) (by decide) (q_not rfl) (fun a S => ?_)
        refine lx_q (.bool (!x69)) S trivial (by decide) (q_pickF' rfl hc66 rfl) (fun a S => ?_)
        refine lx_nil ?_
        obtain rfl := Option.some.inj hm
        have H := H.sel [] (by decide)
        exact ⟨S.sub ⟨rfl, trivial⟩, H⟩
    · rintro a w ⟨S, H⟩
      refine lx_q (.bool t64) S trivial (by decide) (q_assign rfl) (fun a S => ?_)
      refine lx_nil ?_
      refine thenN ?_
      refine wp_ret ?_
      obtain rfl := Option.some.inj hm
      exact leave1 S rfl rfl ⟨rfl, H⟩

/-- slices.IndexFunc[[]impl.Vertex,impl.Vertex] -/
def slices_IndexFunc__impl_Vertex_impl_Vertex_m (fuel : Nat) (a0 : (List Timpl_Vertex)) (a1 : (Timpl_Vertex → Option Bool)) : Option (Int) :=
  (iter (fun (s : (Int)) => (match s with | (x56) => (if (decide (x56 < (a0.length : Int))) = true then (idx a0 x56).bind fun x91 => (a1 (x91.1, x91.2.1, x91.2.2)).bind fun x110 => (if x110 = true then some (.inr (.inr x56)) else some (.inl ((W (x56 + (1 : Int)))))) else some (.inr (.inl ()))) : Option (((Int)) ⊕ ((Unit) ⊕ (Int))))) fuel ((0 : Int))).bind fun res82 => ctl (β := Unit) (ρ := Int) (τ := Int) res82 (fun _ => some ((-1 : Int))) (fun q => some (q))
set_option maxRecDepth 20000 in
theorem slices_IndexFunc__impl_Vertex_impl_Vertex_ok {w0 : World} {fuel : Nat} {p0 : Value} {a0 : (List Timpl_Vertex)} {a1 : (Timpl_Vertex → Option Bool)} {f1 : Nat} {fs1 cp1 : List Value} {r : Int} (h0 : Rd (rList Rimpl_Vertex) w0 p0 a0) (hcf1 : ∀ args w, (callFunc f1 args).run Try.prog w = .ok (.enter f1 args) w) (hf1 : ∀ {w : World} {x0_ : Timpl_Vertex} {v0_ : Value} {y : Bool}, Ext w0 w → Rd Rimpl_Vertex w v0_ x0_ → a1 x0_ = some y → Calls Try.prog f1 (fs1 ++ ([v0_] : List Value) ++ cp1).toArray w fun e w' => e = .returned (.bool y) ∧ Heap w [] w') (hm : slices_IndexFunc__impl_Vertex_impl_Vertex_m fuel a0 a1 = some r) :
    Calls Try.prog 140 #[p0, .func (.func f1) fs1.toArray cp1.toArray] w0 fun e w => e = .returned (.int .i64 r) ∧ Heap w0 [] w := by
  unfold slices_IndexFunc__impl_Vertex_impl_Vertex_m at hm
  have H := Heap.start w0
  refine enter (args := [p0, .func (.func f1) fs1.toArray cp1.toArray]) Try.func140 rfl 19 rfl (Nat.le_of_ble_eq_true rfl) (fun a S => ?_)
  refine wp_seq ?_
  refine region_plain ?_
  refine lx_q (.int .i64 (0 : Int)) S trivial (by decide) (q_assign rfl) (fun a S => ?_)
  refine lx_nil ?_
  refine thenN ?_
  refine wp_seq ?_
  refine wp_seq ?_
  refine region_plain ?_
  refine lx_q p0 S trivial (by decide) (q_move rfl) (fun a S => ?_)
  refine lx_q (.int .i64 (a0.length : Int)) S trivial (by decide) (q_lenSl rfl (h0).isSl rfl Try.underlying26) (fun a S => ?_)
  refine lx_q (.int .i64 (0 : Int)) S trivial (by decide) (q_move rfl) (fun a S => ?_)
  refine lx_nil ?_
  refine thenN ?_
  obtain ⟨res82, hit83, hk86⟩ := bind_some hm
  obtain ⟨f84, hf85, hit83⟩ := iter_name hit83
  refine block_loop (fun a w => Slots a 19 [] ∧ Heap w0 [] w ∧ res82 = .inl ()) ?_ ?_
  · rintro a w ⟨S, H, rfl⟩
    have hm := ctl_inl hk86
    refine thenN ?_
    refine wp_seq ?_
    refine region_plain ?_
    refine lx_q (.int .i64 (-1 : Int)) S trivial (by decide) (q_assign rfl) (fun a S => ?_)
    refine lx_nil ?_
    refine thenN ?_
    refine wp_ret ?_
    obtain rfl := Option.some.inj hm
    exact leave1 S rfl rfl ⟨rfl, H⟩
  · skip
    refine loop_ghost (fun n a w => ∃ (x56 : Int), Slots a 19 [(0, p0), (1, (.func (.func f1) fs1.toArray cp1.toArray)), (7, (.int .i64 (a0.length : Int))), (8, (.int .i64 x56))] ∧ Heap w0 [] w ∧ iter f84 n (x56) = some res82) _ ⟨(0 : Int), S.sub ⟨rfl, rfl, rfl, rfl, trivial⟩, H, hit83⟩ ?_
    rintro n a w ⟨x56, S, H, hit83⟩
    obtain ⟨m87, o88, rfl, hm, hc89⟩ := iter_step hit83
    rw [hf85] at hm
    refine wp_seq ?_
    refine region_plain ?_
    refine lx_q (.bool (decide (x56 < (a0.length : Int)))) S trivial (by decide) (q_lss rfl rfl) (fun a S => ?_)
    refine lx_nil ?_
    refine thenN ?_
    refine wp_seq ?_
    refine cond_b S rfl (fun hc90 => ?_) (fun hc90 => ?_)
    · have hm := ite_t hc90 hm
      refine wp_skip ?_
      refine thenN ?_
      refine wp_seq ?_
      refine wp_block ?_
      refine wp_seq ?_
      refine region_plain ?_
      refine lx_q (.int .i64 x56) S trivial (by decide) (q_move rfl) (fun a S => ?_)
      refine lx_q (.int .i64 x56) S trivial (by decide) (q_assign rfl) (fun a S => ?_)
      refine lx_nil ?_
      refine thenN ?_
      refine wp_seq ?_
      refine region_plain ?_
      refine lx_q (.func (.func f1) fs1.toArray cp1.toArray) S trivial (by decide) (q_move rfl) (fun a S => ?_)
      refine lx_q p0 S trivial (by decide) (q_move rfl) (fun a S => ?_)
      refine lx_q (.int .i64 x56) S trivial (by decide) (q_move rfl) (fun a S => ?_)
      obtain ⟨x91, e92, hm⟩ := bind_some hm
      obtain ⟨c93, h94, hat95⟩ := (h0).elem (idx_some e92).2
      obtain ⟨c98, c99, rfl, h100, h101⟩ := h94
      obtain rfl := h100
      obtain ⟨c102, c103, rfl, h104, h105⟩ := h101
      obtain rfl := h104
      obtain ⟨v96, rfl, h97⟩ := rd_list h105
      have hlt := lt_of_idx (idx_some e92).2
      refine lx_q (ePtr p0 (x56.toNat * 3)) S trivial (by decide) (q_indexAddr rfl (h0).isSl rfl (idx_some e92).1 hlt Try.underlying26 Try.sizeOf71) (fun a S => ?_)
      refine lx_e (.agg #[(.int .i64 x91.1), (.int .i64 x91.2.1), v96]) S trivial (by decide) rfl trivial (q_loadA (cs := [(.int .i64 x91.1), (.int .i64 x91.2.1), v96]) rfl ((hat95 0 _ rfl).isP) Try.isAgg71 Try.sizeOf71 (by rintro _ rfl; exact (fun j u hu => (hat95 j u hu).ext H.ext))) (fun a S => ?_)
      obtain ⟨x110, e111, hm⟩ := bind_some hm
      refine lx_callV (f := f1) (first := fs1) (cap := cp1) (xs := [.tmp 15]) S trivial (by decide) rfl rfl rfl hcf1 ((hf1 H.ext ⟨[(.int .i64 x91.1), (.int .i64 x91.2.1), v96], rfl, ⟨[(.int .i64 x91.1)], [(.int .i64 x91.2.1), v96], rfl, rfl, ⟨[(.int .i64 x91.2.1)], [v96], rfl, rfl, ((H.arg h97)).list_rd⟩⟩⟩ e111).mono ?_)
      rintro e w108 ⟨rfl, Hc109⟩
      have he112 := Hc109.ext
      have H := H.call0 Hc109
      refine ⟨_, rfl, trivial, fun a S => ?_⟩
      refine lx_nil ?_
      refine thenN ?_
      refine cond_b S rfl (fun hc113 => ?_) (fun hc113 => ?_)
      · have hm := ite_t hc113 hm
        refine wp_seq ?_
        refine region_plain ?_
        refine lx_q (.int .i64 x56) S trivial (by decide) (q_move rfl) (fun a S => ?_)
        refine lx_q (.int .i64 x56) S trivial (by decide) (q_assign rfl) (fun a S => ?_)
        refine lx_nil ?_
        refine thenN ?_
        refine wp_ret ?_
        refine inBlock_ret ?_
        refine then_ret ?_
        refine then_ret ?_
        refine inBlock_ret ?_
        refine then_ret ?_
        refine then_ret ?_
        obtain rfl := it_brk hm hc89
        have hm := ctl_inr hk86
        obtain rfl := Option.some.inj hm
        exact leave1 S rfl rfl ⟨rfl, H⟩
      · have hm := ite_f hc113 hm
        refine wp_skip ?_
        refine inBlock_norm ?_
        refine thenN ?_
        refine region_plain ?_
        refine lx_q (.int .i64 (W (x56 + (1 : Int)))) S trivial (by decide) (q_add rfl rfl) (fun a S => ?_)
        refine lx_q (.int .i64 (W (x56 + (1 : Int)))) S trivial (by decide) (q_move rfl) (fun a S => ?_)
        refine lx_nil ?_
        exact ⟨m87, Nat.lt_succ_self _, (W (x56 + (1 : Int))), S.sub ⟨rfl, rfl, rfl, rfl, trivial⟩, H, it_cont hm hc89⟩
    · have hm := ite_f hc90 hm
      refine wp_exit ?_
      refine then_exit ?_
      refine then_exit ?_
      refine inBlock_exit ?_
      obtain rfl := it_brk hm hc89
      exact ⟨S.sub trivial, H, rfl⟩

/-- slices.ContainsFunc[[]impl.Vertex,impl.Vertex] -/
def slices_ContainsFunc__impl_Vertex_impl_Vertex_m (fuel : Nat) (a0 : (List Timpl_Vertex)) (a1 : (Timpl_Vertex → Option Bool)) : Option (Bool) :=
  (slices_IndexFunc__impl_Vertex_impl_Vertex_m fuel a0 a1).bind fun x33 => some ((decide ((0 : Int) ≤ x33)))
set_option maxRecDepth 20000 in
theorem slices_ContainsFunc__impl_Vertex_impl_Vertex_ok {w0 : World} {fuel : Nat} {p0 : Value} {a0 : (List Timpl_Vertex)} {a1 : (Timpl_Vertex → Option Bool)} {f1 : Nat} {fs1 cp1 : List Value} {r : Bool} (h0 : Rd (rList Rimpl_Vertex) w0 p0 a0) (hcf1 : ∀ args w, (callFunc f1 args).run Try.prog w = .ok (.enter f1 args) w) (hf1 : ∀ {w : World} {x0_ : Timpl_Vertex} {v0_ : Value} {y : Bool}, Ext w0 w → Rd Rimpl_Vertex w v0_ x0_ → a1 x0_ = some y → Calls Try.prog f1 (fs1 ++ ([v0_] : List Value) ++ cp1).toArray w fun e w' => e = .returned (.bool y) ∧ Heap w [] w') (hm : slices_ContainsFunc__impl_Vertex_impl_Vertex_m fuel a0 a1 = some r) :
    Calls Try.prog 113 #[p0, .func (.func f1) fs1.toArray cp1.toArray] w0 fun e w => e = .returned (.bool r) ∧ Heap w0 [] w := by
  unfold slices_ContainsFunc__impl_Vertex_impl_Vertex_m at hm
  have H := Heap.start w0
  refine enter (args := [p0, .func (.func f1) fs1.toArray cp1.toArray]) Try.func113 rfl 9 rfl (Nat.le_of_ble_eq_true rfl) (fun a S => ?_)
  refine wp_seq ?_
  refine region_plain ?_
  refine lx_q (.bool false) S trivial (by decide) (q_assign rfl) (fun a S => ?_)
  refine lx_nil ?_
  refine thenN ?_
  refine wp_seq ?_
  refine region_plain ?_
  refine lx_q p0 S trivial (by decide) (q_move rfl) (fun a S => ?_)
  refine lx_q (.func (.func f1) fs1.toArray cp1.toArray) S trivial (by decide) (q_move rfl) (fun a S => ?_)
  obtain ⟨x33, e34, hm⟩ := bind_some hm
  refine lx_call (xs := [.tmp 5, .tmp 6]) S trivial (by decide) rfl rfl Try.call140 ((slices_IndexFunc__impl_Vertex_impl_Vertex_ok (f1 := f1) (fs1 := fs1) (cp1 := cp1) (a1 := a1) (H.arg h0) hcf1 (fun he h0_ hm => hf1 (H.ext.trans he) h0_ hm) e34).mono ?_)
  rintro e w31 ⟨rfl, Hc32⟩
  have he35 := Hc32.ext
  have H := H.call0 Hc32
  refine ⟨_, rfl, trivial, fun a S => ?_⟩
  refine lx_q (.bool (decide ((0 : Int) ≤ x33))) S trivial (by decide) (q_geq rfl rfl) (fun a S => ?_)
  refine lx_q (.bool (decide ((0 : Int) ≤ x33))) S trivial (by decide) (q_assign rfl) (fun a S => ?_)
  refine lx_nil ?_
  refine thenN ?_
  refine wp_ret ?_
  obtain rfl := Option.some.inj hm
  exact leave1 S rfl rfl ⟨rfl, H⟩
end Go.Proofs.Ytecknjdlbmmmiaa
