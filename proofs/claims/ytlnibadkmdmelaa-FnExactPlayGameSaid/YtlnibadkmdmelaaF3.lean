/- The models of some functions and their walks (printed by a program of this repo). -/
import Derived.Test.YtlnibadkmdmelaaF2
namespace Go.Proofs.Ytlnibadkmdmelaa
open Go.RowKit Go.Gx

/-- laws.szVertex -/
def laws_szVertex_m (fuel : Nat) (a0 : Tlaws_Vertex) (a1 : Int) : Option (Int) :=
  (laws_szInt64S_m fuel a0.2.2 a1).bind fun x48 => (if (decide (x48 < (0 : Int))) = true then some ((-1 : Int)) else some (x48))
set_option maxRecDepth 20000 in
theorem laws_szVertex_ok {w0 : World} {fuel : Nat} {p0 : Value} {a0 : Tlaws_Vertex} {a1 : Int} {r : Int} (h0 : Rd Rlaws_Vertex w0 p0 a0) (hm : laws_szVertex_m fuel a0 a1 = some r) :
    Calls Try.prog 51 #[p0, .int .i64 a1] w0 fun e w => e = .returned (.int .i64 r) ∧ Heap w0 [] w := by
  unfold laws_szVertex_m at hm
  have H := Heap.start w0
  obtain ⟨c31, rfl, h32⟩ := h0
  obtain ⟨c35, c36, rfl, h37, h38⟩ := h32
  obtain rfl := h37
  obtain ⟨c39, c40, rfl, h41, h42⟩ := h38
  obtain rfl := h41
  obtain ⟨v33, rfl, h34⟩ := rd_list h42
  refine enter (args := [(.agg #[(.int .i64 a0.1), (.int .i64 a0.2.1), v33]), .int .i64 a1]) Try.func51 rfl 12 rfl (Nat.le_of_ble_eq_true rfl) (fun a S => ?_)
  refine wp_seq ?_
  refine region_plain ?_
  refine lx_box S trivial (by decide) rfl H rfl rfl (fun b43 w44 H => ⟨trivial, fun a S => ?_⟩)
  refine lx_q (.int .i64 (0 : Int)) S trivial (by decide) (q_assign rfl) (fun a S => ?_)
  refine lx_nil ?_
  refine thenN ?_
  refine wp_seq ?_
  refine region_plain ?_
  refine lx_q (pAdd (bp b43) 2) S trivial (by decide) (q_fieldAddr' 2 29 rfl (isP_bp _) Try.underlying72 rfl Try.sizeOf29) (fun a S => ?_)
  refine lx_e v33 S trivial (by decide) rfl trivial (q_load1 rfl Try.isAgg29 (by rintro _ rfl; exact (At.of_add (m := 2) (j := 0) (boxAt (i := 0) H rfl (j := 2) rfl)))) (fun a S => ?_)
  refine lx_q (.int .i64 a1) S trivial (by decide) (q_move rfl) (fun a S => ?_)
  obtain ⟨x48, e49, hm⟩ := bind_some hm
  refine lx_call (xs := [.tmp 6, .tmp 7]) S trivial (by decide) rfl rfl Try.call67 ((laws_szInt64S_ok (H.arg h34)  e49).mono ?_)
  rintro e w46 ⟨rfl, Hc47⟩
  have he50 := Hc47.ext
  have H := H.call0 Hc47
  refine ⟨_, rfl, trivial, fun a S => ?_⟩
  refine lx_q (.int .i64 x48) S trivial (by decide) (q_assign rfl) (fun a S => ?_)
  refine lx_nil ?_
  refine thenN ?_
  refine wp_seq ?_
  refine wp_seq ?_
  refine region_plain ?_
  refine lx_q (.int .i64 x48) S trivial (by decide) (q_move rfl) (fun a S => ?_)
  refine lx_q (.bool (decide (x48 < (0 : Int)))) S trivial (by decide) (q_lss rfl rfl) (fun a S => ?_)
  refine lx_nil ?_
  refine thenN ?_
  refine cond_b S rfl (fun hc51 => ?_) (fun hc51 => ?_)
  · have hm := ite_t hc51 hm
    refine wp_seq ?_
    refine region_plain ?_
    refine lx_q (.int .i64 (-1 : Int)) S trivial (by decide) (q_assign rfl) (fun a S => ?_)
    refine lx_nil ?_
    refine thenN ?_
    refine wp_ret ?_
    refine then_ret ?_
    obtain rfl := Option.some.inj hm
    have H : Heap w0 [] w46 := H.sel [] (by decide)
    exact leave1 S rfl rfl ⟨rfl, H⟩
  · have hm := ite_f hc51 hm
    refine wp_skip ?_
    refine thenN ?_
    refine wp_seq ?_
    refine region_plain ?_
    refine lx_q (.int .i64 x48) S trivial (by decide) (q_move rfl) (fun a S => ?_)
    refine lx_q (.int .i64 x48) S trivial (by decide) (q_assign rfl) (fun a S => ?_)
    refine lx_nil ?_
    refine thenN ?_
    refine wp_ret ?_
    obtain rfl := Option.some.inj hm
    have H : Heap w0 [] w46 := H.sel [] (by decide)
    exact leave1 S rfl rfl ⟨rfl, H⟩

/-- laws.szVertexS -/
def laws_szVertexS_m (fuel : Nat) (a0 : (List Tlaws_Vertex)) (a1 : Int) : Option (Int) :=
  (if (decide ((W (a1 - (a0.length : Int))) < (0 : Int))) = true then some ((-1 : Int)) else (iter (fun (s : (Int) × (Int)) => (match s with | (x56, x57) => (if (decide (x57 < (a0.length : Int))) = true then (idx a0 x57).bind fun x92 => (laws_szVertex_m fuel (x92.1, x92.2.1, x92.2.2) x56).bind fun x109 => (if (decide (x109 < (0 : Int))) = true then some (.inr (.inr (-1 : Int))) else some (.inl (x109, (W (x57 + (1 : Int)))))) else some (.inr (.inl (x56)))) : Option (((Int) × (Int)) ⊕ ((Int) ⊕ (Int))))) fuel ((W (a1 - (a0.length : Int))), (0 : Int))).bind fun res83 => ctl (β := Int) (ρ := Int) (τ := Int) res83 (fun (x82) => some (x82)) (fun q => some (q)))
set_option maxRecDepth 20000 in
theorem laws_szVertexS_ok {w0 : World} {fuel : Nat} {p0 : Value} {a0 : (List Tlaws_Vertex)} {a1 : Int} {r : Int} (h0 : Rd (rList Rlaws_Vertex) w0 p0 a0) (hm : laws_szVertexS_m fuel a0 a1 = some r) :
    Calls Try.prog 24 #[p0, .int .i64 a1] w0 fun e w => e = .returned (.int .i64 r) ∧ Heap w0 [] w := by
  unfold laws_szVertexS_m at hm
  have H := Heap.start w0
  refine enter (args := [p0, .int .i64 a1]) Try.func24 rfl 27 rfl (Nat.le_of_ble_eq_true rfl) (fun a S => ?_)
  refine wp_seq ?_
  refine region_plain ?_
  refine lx_q (.int .i64 (0 : Int)) S trivial (by decide) (q_assign rfl) (fun a S => ?_)
  refine lx_nil ?_
  refine thenN ?_
  refine wp_seq ?_
  refine region_plain ?_
  refine lx_q (.int .i64 a1) S trivial (by decide) (q_move rfl) (fun a S => ?_)
  refine lx_q p0 S trivial (by decide) (q_move rfl) (fun a S => ?_)
  refine lx_q (.int .i64 (a0.length : Int)) S trivial (by decide) (q_lenSl rfl (h0).isSl rfl Try.underlying40) (fun a S => ?_)
  refine lx_q (.int .i64 (W (a1 - (a0.length : Int)))) S trivial (by decide) (q_sub rfl rfl) (fun a S => ?_)
  refine lx_q (.int .i64 (W (a1 - (a0.length : Int)))) S trivial (by decide) (q_assign rfl) (fun a S => ?_)
  refine lx_nil ?_
  refine thenN ?_
  refine wp_seq ?_
  refine wp_seq ?_
  refine region_plain ?_
  refine lx_q (.int .i64 (W (a1 - (a0.length : Int)))) S trivial (by decide) (q_move rfl) (fun a S => ?_)
  refine lx_q (.bool (decide ((W (a1 - (a0.length : Int))) < (0 : Int)))) S trivial (by decide) (q_lss rfl rfl) (fun a S => ?_)
  refine lx_nil ?_
  refine thenN ?_
  refine cond_b S rfl (fun hc31 => ?_) (fun hc31 => ?_)
  · have hm := ite_t hc31 hm
    refine wp_seq ?_
    refine region_plain ?_
    refine lx_q (.int .i64 (-1 : Int)) S trivial (by decide) (q_assign rfl) (fun a S => ?_)
    refine lx_nil ?_
    refine thenN ?_
    refine wp_ret ?_
    refine then_ret ?_
    obtain rfl := Option.some.inj hm
    exact leave1 S rfl rfl ⟨rfl, H⟩
  · have hm := ite_f hc31 hm
    refine wp_skip ?_
    refine thenN ?_
    refine wp_seq ?_
    refine wp_seq ?_
    refine region_plain ?_
    refine lx_q (.int .i64 (0 : Int)) S trivial (by decide) (q_assign rfl) (fun a S => ?_)
    refine lx_nil ?_
    refine thenN ?_
    obtain ⟨res83, hit84, hk87⟩ := bind_some hm
    obtain ⟨f85, hf86, hit84⟩ := iter_name hit84
    refine block_loop (fun a w => ∃ (x82 : Int), Slots a 27 [(1, (.int .i64 x82))] ∧ Heap w0 [] w ∧ res83 = .inl (x82)) ?_ ?_
    · rintro a w ⟨x82, S, H, rfl⟩
      have hm := ctl_inl hk87
      refine thenN ?_
      refine wp_seq ?_
      refine region_plain ?_
      refine lx_q (.int .i64 x82) S trivial (by decide) (q_move rfl) (fun a S => ?_)
      refine lx_q (.int .i64 x82) S trivial (by decide) (q_assign rfl) (fun a S => ?_)
      refine lx_nil ?_
      refine thenN ?_
      refine wp_ret ?_
      obtain rfl := Option.some.inj hm
      exact leave1 S rfl rfl ⟨rfl, H⟩
    · skip
      refine loop_ghost (fun n a w => ∃ (x56 : Int) (x57 : Int), Slots a 27 [(0, p0), (1, (.int .i64 x56)), (5, (.int .i64 x57))] ∧ Heap w0 [] w ∧ iter f85 n (x56, x57) = some res83) _ ⟨(W (a1 - (a0.length : Int))), (0 : Int), S.sub ⟨rfl, rfl, rfl, trivial⟩, H, hit84⟩ ?_
      rintro n a w ⟨x56, x57, S, H, hit84⟩
      obtain ⟨m88, o89, rfl, hm, hc90⟩ := iter_step hit84
      rw [hf86] at hm
      refine wp_seq ?_
      refine wp_seq ?_
      refine region_plain ?_
      refine lx_q (.int .i64 x57) S trivial (by decide) (q_move rfl) (fun a S => ?_)
      refine lx_q p0 S trivial (by decide) (q_move rfl) (fun a S => ?_)
      refine lx_q (.int .i64 (a0.length : Int)) S trivial (by decide) (q_lenSl rfl (h0).isSl rfl Try.underlying40) (fun a S => ?_)
      refine lx_q (.bool (decide (x57 < (a0.length : Int)))) S trivial (by decide) (q_lss rfl rfl) (fun a S => ?_)
      refine lx_nil ?_
      refine thenN ?_
      refine cond_b S rfl (fun hc91 => ?_) (fun hc91 => ?_)
      · have hm := ite_t hc91 hm
        refine wp_skip ?_
        refine thenN ?_
        refine wp_seq ?_
        refine wp_block ?_
        refine wp_seq ?_
        refine region_plain ?_
        refine lx_q p0 S trivial (by decide) (q_move rfl) (fun a S => ?_)
        refine lx_q (.int .i64 x57) S trivial (by decide) (q_move rfl) (fun a S => ?_)
        obtain ⟨x92, e93, hm⟩ := bind_some hm
        obtain ⟨c94, h95, hat96⟩ := (h0).elem (idx_some e93).2
        obtain ⟨c99, c100, rfl, h101, h102⟩ := h95
        obtain rfl := h101
        obtain ⟨c103, c104, rfl, h105, h106⟩ := h102
        obtain rfl := h105
        obtain ⟨v97, rfl, h98⟩ := rd_list h106
        have hlt := lt_of_idx (idx_some e93).2
        refine lx_q (ePtr p0 (x57.toNat * 3)) S trivial (by decide) (q_indexAddr rfl (h0).isSl rfl (idx_some e93).1 hlt Try.underlying40 Try.sizeOf72) (fun a S => ?_)
        refine lx_e (.agg #[(.int .i64 x92.1), (.int .i64 x92.2.1), v97]) S trivial (by decide) rfl trivial (q_loadA (cs := [(.int .i64 x92.1), (.int .i64 x92.2.1), v97]) rfl ((hat96 0 _ rfl).isP) Try.isAgg72 Try.sizeOf72 (by rintro _ rfl; exact (fun j u hu => (hat96 j u hu).ext H.ext))) (fun a S => ?_)
        refine lx_q (.int .i64 x56) S trivial (by decide) (q_move rfl) (fun a S => ?_)
        obtain ⟨x109, e110, hm⟩ := bind_some hm
        refine lx_call (xs := [.tmp 21, .tmp 22]) S trivial (by decide) rfl rfl Try.call51 ((laws_szVertex_ok ⟨[(.int .i64 x92.1), (.int .i64 x92.2.1), v97], rfl, ⟨[(.int .i64 x92.1)], [(.int .i64 x92.2.1), v97], rfl, rfl, ⟨[(.int .i64 x92.2.1)], [v97], rfl, rfl, ((H.arg h98)).list_rd⟩⟩⟩  e110).mono ?_)
        rintro e w107 ⟨rfl, Hc108⟩
        have he111 := Hc108.ext
        have H := H.call0 Hc108
        refine ⟨_, rfl, trivial, fun a S => ?_⟩
        refine lx_q (.int .i64 x109) S trivial (by decide) (q_assign rfl) (fun a S => ?_)
        refine lx_nil ?_
        refine thenN ?_
        refine wp_seq ?_
        refine region_plain ?_
        refine lx_q (.int .i64 x109) S trivial (by decide) (q_move rfl) (fun a S => ?_)
        refine lx_q (.bool (decide (x109 < (0 : Int)))) S trivial (by decide) (q_lss rfl rfl) (fun a S => ?_)
        refine lx_nil ?_
        refine thenN ?_
        refine cond_b S rfl (fun hc112 => ?_) (fun hc112 => ?_)
        · have hm := ite_t hc112 hm
          refine wp_seq ?_
          refine region_plain ?_
          refine lx_q (.int .i64 (-1 : Int)) S trivial (by decide) (q_assign rfl) (fun a S => ?_)
          refine lx_nil ?_
          refine thenN ?_
          refine wp_ret ?_
          refine inBlock_ret ?_
          refine then_ret ?_
          refine then_ret ?_
          refine inBlock_ret ?_
          refine then_ret ?_
          refine then_ret ?_
          obtain rfl := it_brk hm hc90
          have hm := ctl_inr hk87
          obtain rfl := Option.some.inj hm
          exact leave1 S rfl rfl ⟨rfl, H⟩
        · have hm := ite_f hc112 hm
          refine wp_skip ?_
          refine inBlock_norm ?_
          refine thenN ?_
          refine region_plain ?_
          refine lx_q (.int .i64 x57) S trivial (by decide) (q_move rfl) (fun a S => ?_)
          refine lx_q (.int .i64 (W (x57 + (1 : Int)))) S trivial (by decide) (q_add rfl rfl) (fun a S => ?_)
          refine lx_q (.int .i64 (W (x57 + (1 : Int)))) S trivial (by decide) (q_assign rfl) (fun a S => ?_)
          refine lx_nil ?_
          exact ⟨m88, Nat.lt_succ_self _, x109, (W (x57 + (1 : Int))), S.sub ⟨rfl, rfl, rfl, trivial⟩, H, it_cont hm hc90⟩
      · have hm := ite_f hc91 hm
        refine wp_exit ?_
        refine then_exit ?_
        refine then_exit ?_
        refine inBlock_exit ?_
        obtain rfl := it_brk hm hc90
        exact ⟨x56, S.sub ⟨rfl, trivial⟩, H, rfl⟩

/-- laws.toVertex -/
def laws_toVertex_m (fuel : Nat) (a0 : Tlaws_Vertex) : Option (Timpl_Vertex) :=
  (laws_toInt64S_m fuel a0.2.2).bind fun x56 => some ((a0.1, a0.2.1, x56))
set_option maxRecDepth 20000 in
theorem laws_toVertex_ok {w0 : World} {fuel : Nat} {p0 : Value} {a0 : Tlaws_Vertex} {r : Timpl_Vertex} (h0 : Rd Rlaws_Vertex w0 p0 a0) (hm : laws_toVertex_m fuel a0 = some r) :
    Calls Try.prog 54 #[p0] w0 fun e w => ∃ (v0 : Value), e = .returned (.agg #[.int .i64 r.1, .int .i64 r.2.1, v0]) ∧ Heap w0 [oA (rList (rInt .i64)) v0 r.2.2] w := by
  unfold laws_toVertex_m at hm
  have H := Heap.start w0
  obtain ⟨c31, rfl, h32⟩ := h0
  obtain ⟨c35, c36, rfl, h37, h38⟩ := h32
  obtain rfl := h37
  obtain ⟨c39, c40, rfl, h41, h42⟩ := h38
  obtain rfl := h41
  obtain ⟨v33, rfl, h34⟩ := rd_list h42
  refine enter (args := [(.agg #[(.int .i64 a0.1), (.int .i64 a0.2.1), v33])]) Try.func54 rfl 15 rfl (Nat.le_of_ble_eq_true rfl) (fun a S => ?_)
  refine wp_seq ?_
  refine region_plain ?_
  refine lx_box S trivial (by decide) rfl H rfl rfl (fun b43 w44 H => ⟨trivial, fun a S => ?_⟩)
  refine lx_alloc S trivial (by decide) rfl H Try.zeroValue75 rfl (fun b46 w47 H => ⟨trivial, fun a S => ?_⟩)
  refine lx_nil ?_
  refine thenN ?_
  refine wp_seq ?_
  refine region_plain ?_
  refine lx_alloc S trivial (by decide) rfl H Try.zeroValue75 rfl (fun b49 w50 H => ⟨trivial, fun a S => ?_⟩)
  refine lx_nil ?_
  refine thenN ?_
  refine wp_seq ?_
  refine region_plain ?_
  refine lx_q (pAdd (bp b43) 0) S trivial (by decide) (q_fieldAddr' 0 2 rfl (isP_bp _) Try.underlying72 rfl Try.sizeOf2) (fun a S => ?_)
  refine lx_e (.int .i64 a0.1) S trivial (by decide) rfl trivial (q_load1 rfl Try.isAgg2 (by rintro _ rfl; exact (At.of_add (m := 0) (j := 0) (boxAt (i := 2) H rfl (j := 0) rfl)))) (fun a S => ?_)
  refine lx_q (pAdd (bp b49) 0) S trivial (by decide) (q_fieldAddr' 0 2 rfl (isP_bp _) Try.underlying75 rfl Try.sizeOf2) (fun a S => ?_)
  refine lx_storeBox (o := 0) (i := 0) (us := [(.int .i64 a0.1)]) (cs' := [(.int .i64 a0.1), (.int .i64 (0 : Int)), (.slice none 0 0)]) S trivial rfl H rfl rfl rfl rfl Try.sizeOf2 (Nat.le_of_ble_eq_true rfl) (List.forall_mem_cons.2 ⟨rfl, (fun _ h => nomatch h)⟩) rfl (fun w52 H => ⟨trivial, fun a S => ?_⟩)
  change Heap w0 [bA b49 [(.int .i64 a0.1), (.int .i64 (0 : Int)), (.slice none 0 0)] 75, bA b46 [(.int .i64 (0 : Int)), (.int .i64 (0 : Int)), (.slice none 0 0)] 75, bA b43 [(.int .i64 a0.1), (.int .i64 a0.2.1), v33] 72] w52 at H
  refine lx_nil ?_
  refine thenN ?_
  refine wp_seq ?_
  refine region_plain ?_
  refine lx_q (pAdd (bp b43) 1) S trivial (by decide) (q_fieldAddr' 1 2 rfl (isP_bp _) Try.underlying72 rfl Try.sizeOf2) (fun a S => ?_)
  refine lx_e (.int .i64 a0.2.1) S trivial (by decide) rfl trivial (q_load1 rfl Try.isAgg2 (by rintro _ rfl; exact (At.of_add (m := 1) (j := 0) (boxAt (i := 2) H rfl (j := 1) rfl)))) (fun a S => ?_)
  refine lx_q (pAdd (bp b49) 1) S trivial (by decide) (q_fieldAddr' 1 2 rfl (isP_bp _) Try.underlying75 rfl Try.sizeOf2) (fun a S => ?_)
  refine lx_storeBox (o := 1) (i := 0) (us := [(.int .i64 a0.2.1)]) (cs' := [(.int .i64 a0.1), (.int .i64 a0.2.1), (.slice none 0 0)]) S trivial rfl H rfl rfl rfl rfl Try.sizeOf2 (Nat.le_of_ble_eq_true rfl) (List.forall_mem_cons.2 ⟨rfl, (fun _ h => nomatch h)⟩) rfl (fun w53 H => ⟨trivial, fun a S => ?_⟩)
  change Heap w0 [bA b49 [(.int .i64 a0.1), (.int .i64 a0.2.1), (.slice none 0 0)] 75, bA b46 [(.int .i64 (0 : Int)), (.int .i64 (0 : Int)), (.slice none 0 0)] 75, bA b43 [(.int .i64 a0.1), (.int .i64 a0.2.1), v33] 72] w53 at H
  refine lx_nil ?_
  refine thenN ?_
  refine wp_seq ?_
  refine region_plain ?_
  refine lx_q (pAdd (bp b43) 2) S trivial (by decide) (q_fieldAddr' 2 29 rfl (isP_bp _) Try.underlying72 rfl Try.sizeOf29) (fun a S => ?_)
  refine lx_e v33 S trivial (by decide) rfl trivial (q_load1 rfl Try.isAgg29 (by rintro _ rfl; exact (At.of_add (m := 2) (j := 0) (boxAt (i := 2) H rfl (j := 2) rfl)))) (fun a S => ?_)
  obtain ⟨x56, e57, hm⟩ := bind_some hm
  refine lx_call (xs := [.tmp 11]) S trivial (by decide) rfl rfl Try.call35 ((laws_toInt64S_ok (H.arg h34) e57).mono ?_)
  rintro e w54 ⟨v58, rfl, Hc55⟩
  have he60 := Hc55.ext
  have H := H.call1 Hc55
  refine ⟨_, rfl, trivial, fun a S => ?_⟩
  refine lx_q (pAdd (bp b49) 2) S trivial (by decide) (q_fieldAddr' 2 29 rfl (isP_bp _) Try.underlying75 rfl Try.sizeOf29) (fun a S => ?_)
  refine lx_storeBox (o := 2) (i := 1) (us := [v58]) (cs' := [(.int .i64 a0.1), (.int .i64 a0.2.1), v58]) S trivial rfl H rfl rfl rfl (cells_sl (H.isSl 0 rfl)) Try.sizeOf29 (Nat.le_of_ble_eq_true rfl) (List.forall_mem_cons.2 ⟨one_sl (H.isSl 0 rfl), (fun _ h => nomatch h)⟩) rfl (fun w61 H => ⟨trivial, fun a S => ?_⟩)
  change Heap w0 [oA (rList (rInt .i64)) v58 x56, bA b49 [(.int .i64 a0.1), (.int .i64 a0.2.1), v58] 75, bA b46 [(.int .i64 (0 : Int)), (.int .i64 (0 : Int)), (.slice none 0 0)] 75, bA b43 [(.int .i64 a0.1), (.int .i64 a0.2.1), v33] 72] w61 at H
  refine lx_nil ?_
  refine thenN ?_
  refine wp_seq ?_
  refine region_plain ?_
  refine lx_e (.agg #[(.int .i64 a0.1), (.int .i64 a0.2.1), v58]) S trivial (by decide) rfl trivial (q_loadA (cs := [(.int .i64 a0.1), (.int .i64 a0.2.1), v58]) rfl (isP_bp _) Try.isAgg75 Try.sizeOf75 (by rintro _ rfl; exact (fun j u hu => boxAt (i := 1) H rfl hu))) (fun a S => ?_)
  refine lx_storeBox (o := 0) (i := 2) (us := [(.int .i64 a0.1), (.int .i64 a0.2.1), v58]) (cs' := [(.int .i64 a0.1), (.int .i64 a0.2.1), v58]) S trivial rfl H rfl rfl rfl rfl Try.sizeOf75 (Nat.le_of_ble_eq_true rfl) (List.forall_mem_cons.2 ⟨rfl, (List.forall_mem_cons.2 ⟨rfl, (List.forall_mem_cons.2 ⟨one_sl (H.isSl 0 rfl), (fun _ h => nomatch h)⟩)⟩)⟩) rfl (fun w62 H => ⟨trivial, fun a S => ?_⟩)
  change Heap w0 [oA (rList (rInt .i64)) v58 x56, bA b49 [(.int .i64 a0.1), (.int .i64 a0.2.1), v58] 75, bA b46 [(.int .i64 a0.1), (.int .i64 a0.2.1), v58] 75, bA b43 [(.int .i64 a0.1), (.int .i64 a0.2.1), v33] 72] w62 at H
  refine lx_nil ?_
  refine thenN ?_
  refine wp_ret ?_
  have hrv0 := RV.cellA (t := 75) (q := 2) (env := [(0, (.agg #[(.int .i64 a0.1), (.int .i64 a0.2.1), v33])), (1, (bp b43)), (2, (bp b46)), (3, (bp b49)), (4, (pAdd (bp b43) 0)), (5, (.int .i64 a0.1)), (6, (pAdd (bp b49) 0)), (7, (pAdd (bp b43) 1)), (8, (.int .i64 a0.2.1)), (9, (pAdd (bp b49) 1)), (10, (pAdd (bp b43) 2)), (11, v33), (12, v58), (13, (pAdd (bp b49) 2)), (14, (.agg #[(.int .i64 a0.1), (.int .i64 a0.2.1), v58]))]) H (i := 2) rfl rfl Try.isAgg75 Try.sizeOf75
  obtain rfl := Option.some.inj hm
  have H : Heap w0 [oA (rList (rInt .i64)) v58 x56] w62 := H.sel [0] (by decide)
  exact leaveR1 S rfl hrv0 ⟨v58, rfl, H⟩

/-- laws.toVertexS -/
def laws_toVertexS_m (fuel : Nat) (a0 : (List Tlaws_Vertex)) : Option ((List Timpl_Vertex)) :=
  (mks (a0.length : Int) ((0 : Int), (0 : Int), [])).bind fun x31 => (iter (fun (s : (List Timpl_Vertex) × (Int)) => (match s with | (xs65, x66) => (if (decide (x66 < (a0.length : Int))) = true then (idx a0 x66).bind fun x105 => (laws_toVertex_m fuel (x105.1, x105.2.1, x105.2.2)).bind fun x122 => (idx xs65 x66).bind fun x127 => some (.inl ((xs65.set x66.toNat (x122.1, x122.2.1, x122.2.2)), (W (x66 + (1 : Int))))) else some (.inr (.inl (xs65)))) : Option (((List Timpl_Vertex) × (Int)) ⊕ (((List Timpl_Vertex)) ⊕ ((List Timpl_Vertex)))))) fuel (x31, (0 : Int))).bind fun res96 => ctl (β := (List Timpl_Vertex)) (ρ := (List Timpl_Vertex)) (τ := (List Timpl_Vertex)) res96 (fun (xs95) => some (xs95)) (fun q => some (q))
set_option maxRecDepth 20000 in
theorem laws_toVertexS_ok {w0 : World} {fuel : Nat} {p0 : Value} {a0 : (List Tlaws_Vertex)} {r : (List Timpl_Vertex)} (h0 : Rd (rList Rlaws_Vertex) w0 p0 a0) (hm : laws_toVertexS_m fuel a0 = some r) :
    Calls Try.prog 26 #[p0] w0 fun e w => ∃ (v0 : Value), e = .returned (v0) ∧ Heap w0 [oA (rList Rimpl_Vertex) v0 r] w := by
  unfold laws_toVertexS_m at hm
  have H := Heap.start w0
  refine enter (args := [p0]) Try.func26 rfl 23 rfl (Nat.le_of_ble_eq_true rfl) (fun a S => ?_)
  refine wp_seq ?_
  refine region_plain ?_
  refine lx_q (.slice none 0 0) S trivial (by decide) (q_assign rfl) (fun a S => ?_)
  refine lx_nil ?_
  refine thenN ?_
  refine wp_seq ?_
  refine region_plain ?_
  refine lx_q p0 S trivial (by decide) (q_move rfl) (fun a S => ?_)
  refine lx_q (.int .i64 (a0.length : Int)) S trivial (by decide) (q_lenSl rfl (h0).isSl rfl Try.underlying40) (fun a S => ?_)
  obtain ⟨x31, e32, hm⟩ := bind_some hm
  obtain ⟨m33, hn, hn2, rfl⟩ := mks_some e32
  refine lx_make (r := Rimpl_Vertex) (z0 := ((0 : Int), (0 : Int), [])) (n := m33) S trivial (by decide) rfl H (by rw [← hn]; rfl) (by rw [← hn]; rfl) Try.underlying42 (Try.ti75) rfl rfl (by decide) (fun w => ⟨_, _, [(.int .i64 (0 : Int))], [(.int .i64 (0 : Int)), (.slice none 0 0)], rfl, rfl, ⟨rfl, rfl⟩, ⟨_, _, [(.int .i64 (0 : Int))], [(.slice none 0 0)], rfl, rfl, ⟨rfl, rfl⟩, (oA_list.1 drop_nil_own)⟩⟩) hn2 (by decide) (fun v34 w35 H => ⟨trivial, fun a S => ?_⟩)
  refine lx_q v34 S trivial (by decide) (q_assign rfl) (fun a S => ?_)
  refine lx_nil ?_
  refine thenN ?_
  refine wp_seq ?_
  refine wp_seq ?_
  refine region_plain ?_
  refine lx_q (.int .i64 (0 : Int)) S trivial (by decide) (q_assign rfl) (fun a S => ?_)
  refine lx_nil ?_
  refine thenN ?_
  obtain ⟨res96, hit97, hk100⟩ := bind_some hm
  obtain ⟨f98, hf99, hit97⟩ := iter_name hit97
  refine block_loop (fun a w => ∃ (xs95 : List Timpl_Vertex), Slots a 23 [(3, v34)] ∧ Heap w0 [oA (rList Rimpl_Vertex) v34 xs95] w ∧ res96 = .inl (xs95)) ?_ ?_
  · rintro a w ⟨xs95, S, H, rfl⟩
    have hm := ctl_inl hk100
    refine thenN ?_
    refine wp_seq ?_
    refine region_plain ?_
    refine lx_q v34 S trivial (by decide) (q_move rfl) (fun a S => ?_)
    refine lx_q v34 S trivial (by decide) (q_assign rfl) (fun a S => ?_)
    refine lx_nil ?_
    refine thenN ?_
    refine wp_ret ?_
    obtain rfl := Option.some.inj hm
    exact leave1 S rfl rfl ⟨v34, rfl, H⟩
  · skip
    refine loop_ghost (fun n a w => ∃ (xs65 : List Timpl_Vertex) (x66 : Int), Slots a 23 [(0, p0), (3, v34), (4, (.int .i64 x66))] ∧ Heap w0 [oA (rList Rimpl_Vertex) v34 xs65] w ∧ iter f98 n (xs65, x66) = some res96) _ ⟨(List.replicate m33 ((0 : Int), (0 : Int), [])), (0 : Int), S.sub ⟨rfl, rfl, rfl, trivial⟩, H, hit97⟩ ?_
    rintro n a w ⟨xs65, x66, S, H, hit97⟩
    obtain ⟨m101, o102, rfl, hm, hc103⟩ := iter_step hit97
    rw [hf99] at hm
    refine wp_seq ?_
    refine wp_seq ?_
    refine region_plain ?_
    refine lx_q (.int .i64 x66) S trivial (by decide) (q_move rfl) (fun a S => ?_)
    refine lx_q p0 S trivial (by decide) (q_move rfl) (fun a S => ?_)
    refine lx_q (.int .i64 (a0.length : Int)) S trivial (by decide) (q_lenSl rfl (h0).isSl rfl Try.underlying40) (fun a S => ?_)
    refine lx_q (.bool (decide (x66 < (a0.length : Int)))) S trivial (by decide) (q_lss rfl rfl) (fun a S => ?_)
    refine lx_nil ?_
    refine thenN ?_
    refine cond_b S rfl (fun hc104 => ?_) (fun hc104 => ?_)
    · have hm := ite_t hc104 hm
      refine wp_skip ?_
      refine thenN ?_
      refine wp_seq ?_
      refine wp_block ?_
      refine region_plain ?_
      refine lx_q v34 S trivial (by decide) (q_move rfl) (fun a S => ?_)
      refine lx_q (.int .i64 x66) S trivial (by decide) (q_move rfl) (fun a S => ?_)
      refine lx_q p0 S trivial (by decide) (q_move rfl) (fun a S => ?_)
      refine lx_q (.int .i64 x66) S trivial (by decide) (q_move rfl) (fun a S => ?_)
      obtain ⟨x105, e106, hm⟩ := bind_some hm
      obtain ⟨c107, h108, hat109⟩ := (h0).elem (idx_some e106).2
      obtain ⟨c112, c113, rfl, h114, h115⟩ := h108
      obtain rfl := h114
      obtain ⟨c116, c117, rfl, h118, h119⟩ := h115
      obtain rfl := h118
      obtain ⟨v110, rfl, h111⟩ := rd_list h119
      have hlt := lt_of_idx (idx_some e106).2
      refine lx_q (ePtr p0 (x66.toNat * 3)) S trivial (by decide) (q_indexAddr rfl (h0).isSl rfl (idx_some e106).1 hlt Try.underlying40 Try.sizeOf72) (fun a S => ?_)
      refine lx_e (.agg #[(.int .i64 x105.1), (.int .i64 x105.2.1), v110]) S trivial (by decide) rfl trivial (q_loadA (cs := [(.int .i64 x105.1), (.int .i64 x105.2.1), v110]) rfl ((hat109 0 _ rfl).isP) Try.isAgg72 Try.sizeOf72 (by rintro _ rfl; exact (fun j u hu => (hat109 j u hu).ext H.ext))) (fun a S => ?_)
      obtain ⟨x122, e123, hm⟩ := bind_some hm
      refine lx_call (xs := [.tmp 19]) S trivial (by decide) rfl rfl Try.call54 ((laws_toVertex_ok ⟨[(.int .i64 x105.1), (.int .i64 x105.2.1), v110], rfl, ⟨[(.int .i64 x105.1)], [(.int .i64 x105.2.1), v110], rfl, rfl, ⟨[(.int .i64 x105.2.1)], [v110], rfl, rfl, ((H.arg h111)).list_rd⟩⟩⟩ e123).mono ?_)
      rintro e w120 ⟨v124, rfl, Hc121⟩
      have he126 := Hc121.ext
      have H := H.call1 Hc121
      refine ⟨_, rfl, trivial, fun a S => ?_⟩
      obtain ⟨x127, e128, hm⟩ := bind_some hm
      have hlt := lt_of_idx (idx_some e128).2
      refine lx_q (ePtr v34 (x66.toNat * 3)) S trivial (by decide) (q_indexAddr rfl (H.isSl 1 rfl) rfl (idx_some e128).1 hlt Try.underlying42 Try.sizeOf75) (fun a S => ?_)
      have hcl : Value.cells (.agg #[(.int .i64 x122.1), (.int .i64 x122.2.1), v124]) = List.toArray [(.int .i64 x122.1), (.int .i64 x122.2.1), v124] := rfl
      have hon : ∀ c ∈ ([(.int .i64 x122.1), (.int .i64 x122.2.1), v124] : List Value), c.oneCell' = true := (List.forall_mem_cons.2 ⟨rfl, (List.forall_mem_cons.2 ⟨rfl, (List.forall_mem_cons.2 ⟨one_sl (H.isSl 0 rfl), (fun _ h => nomatch h)⟩)⟩)⟩)
      have H : Heap w0 [oA (rList Rimpl_Vertex) v34 xs65, oA (rList (rInt .i64)) v124 x122.2.2] w120 := H.front 1 rfl
      refine lx_storeElem (r := Rimpl_Vertex) (us := [(.int .i64 x122.1), (.int .i64 x122.2.1), v124]) (off := 0) (e' := (x122.1, x122.2.1, x122.2.2)) S trivial rfl H (by rw [pAdd_zero]; rfl) rfl (idx_some e128).2 hcl Try.sizeOf75 (Nat.le_of_ble_eq_true rfl) hon (Upd.full rfl (fun w G hG => ownF ⟨_, _, [(.int .i64 x122.1)], [(.int .i64 x122.2.1), v124], rfl, rfl, ⟨rfl, rfl⟩, ⟨_, _, [(.int .i64 x122.2.1)], [v124], rfl, rfl, ⟨rfl, rfl⟩, (oA_list.1 hG)⟩⟩)) (fun w129 H => ⟨trivial, fun a S => ?_⟩)
      refine lx_nil ?_
      refine inBlock_norm ?_
      refine thenN ?_
      refine region_plain ?_
      refine lx_q (.int .i64 x66) S trivial (by decide) (q_move rfl) (fun a S => ?_)
      refine lx_q (.int .i64 (W (x66 + (1 : Int)))) S trivial (by decide) (q_add rfl rfl) (fun a S => ?_)
      refine lx_q (.int .i64 (W (x66 + (1 : Int)))) S trivial (by decide) (q_assign rfl) (fun a S => ?_)
      refine lx_nil ?_
      exact ⟨m101, Nat.lt_succ_self _, (xs65.set x66.toNat (x122.1, x122.2.1, x122.2.2)), (W (x66 + (1 : Int))), S.sub ⟨rfl, rfl, rfl, trivial⟩, H, it_cont hm hc103⟩
    · have hm := ite_f hc104 hm
      refine wp_exit ?_
      refine then_exit ?_
      refine then_exit ?_
      refine inBlock_exit ?_
      obtain rfl := it_brk hm hc103
      exact ⟨xs65, S.sub ⟨rfl, trivial⟩, H, rfl⟩

/-- spec.l23Is -/
def spec_l23Is_m (fuel : Nat) (a0 : (List Timpl_Vertex)) : Option (Bool) :=
  (if ((a0.length : Int) == (0 : Int)) = true then some true else some (decide ((120 : Int) < (a0.length : Int)))).bind fun t31 => (if t31 = true then some (false) else (iter (fun (s : (Int)) => (match s with | (x104) => (if (decide (x104 < (a0.length : Int))) = true then (idx a0 x104).bind fun x183 => (spec_l00In_m fuel x183.1 (0 : Int) (1 : Int)).bind fun x200 => (if (!x200) = true then some true else (idx a0 x104).bind fun x206 => (spec_l00In_m fuel x206.2.1 (0 : Int) (9 : Int)).bind fun x223 => some (!x223)).bind fun t203 => (if t203 = true then some true else (idx a0 x104).bind fun x229 => (spec_l00Rises_m fuel x229.2.2 (0 : Int) (W ((a0.length : Int) - (1 : Int)))).bind fun x246 => some (!x246)).bind fun t226 => (if t226 = true then some (.inr (.inr false)) else some (.inl ((W (x104 + (1 : Int)))))) else some (.inr (.inl ()))) : Option (((Int)) ⊕ ((Unit) ⊕ (Bool))))) fuel ((0 : Int))).bind fun res174 => ctl (β := Unit) (ρ := Bool) (τ := Bool) res174 (fun _ => some (true)) (fun q => some (q)))
set_option maxRecDepth 20000 in
theorem spec_l23Is_ok {w0 : World} {fuel : Nat} {p0 : Value} {a0 : (List Timpl_Vertex)} {r : Bool} (h0 : Rd (rList Rimpl_Vertex) w0 p0 a0) (hm : spec_l23Is_m fuel a0 = some r) :
    Calls Try.prog 52 #[p0] w0 fun e w => e = .returned (.bool r) ∧ Heap w0 [] w := by
  unfold spec_l23Is_m at hm
  have H := Heap.start w0
  refine enter (args := [p0]) Try.func52 rfl 46 rfl (Nat.le_of_ble_eq_true rfl) (fun a S => ?_)
  refine wp_seq ?_
  refine region_plain ?_
  refine lx_q (.bool false) S trivial (by decide) (q_assign rfl) (fun a S => ?_)
  refine lx_nil ?_
  refine thenN ?_
  refine wp_seq ?_
  refine wp_seq ?_
  refine region_plain ?_
  refine lx_q p0 S trivial (by decide) (q_move rfl) (fun a S => ?_)
  refine lx_q (.int .i64 (a0.length : Int)) S trivial (by decide) (q_lenSl rfl (h0).isSl rfl Try.underlying42) (fun a S => ?_)
  refine lx_q (.bool ((a0.length : Int) == (0 : Int))) S trivial (by decide) (q_eql rfl rfl) (fun a S => ?_)
  refine lx_q (.bool ((a0.length : Int) == (0 : Int))) S trivial (by decide) (q_move rfl) (fun a S => ?_)
  obtain ⟨t31, e32, hm⟩ := bind_some hm
  refine lx_cut 4 (fun a w => Slots a 46 [(0, p0), (11, (.bool t31))] ∧ Heap w0 [] w) ?_ ?_
  · by_cases hc33 : ((a0.length : Int) == (0 : Int)) = true
    · have hm := ite_t hc33 e32
      refine lx_skip S rfl rfl (isB_ne hc33) (by decide) (fun a S => ?_)
      refine lx_skip S rfl rfl (isB_ne hc33) (by decide) (fun a S => ?_)
      refine lx_skip S rfl rfl (isB_ne hc33) (by decide) (fun a S => ?_)
      refine lx_q (.bool true) S trivial (by decide) (q_pickT' rfl hc33 rfl) (fun a S => ?_)
      refine lx_nil ?_
      obtain rfl := Option.some.inj hm
      exact ⟨S.sub ⟨rfl, rfl, trivial⟩, H⟩
    · have hm := ite_f (eq_false_of_ne_true hc33) e32
      have hc33 : ((a0.length : Int) == (0 : Int)) = false := eq_false_of_ne_true hc33
      refine lx_q p0 S (want_b rfl rfl hc33) (by decide) (q_move rfl) (fun a S => ?_)
      refine lx_q (.int .i64 (a0.length : Int)) S (want_b rfl rfl hc33) (by decide) (q_lenSl rfl (h0).isSl rfl Try.underlying42) (fun a S => ?_)
      refine lx_q (.bool (decide ((120 : Int) < (a0.length : Int)))) S (want_b rfl rfl hc33) (by decide) (q_gtr rfl rfl) (fun a S => ?_)
      refine lx_q (.bool (decide ((120 : Int) < (a0.length : Int)))) S trivial (by decide) (q_pickF' rfl hc33 rfl) (fun a S => ?_)
      refine lx_nil ?_
      obtain rfl := Option.some.inj hm
      exact ⟨S.sub ⟨rfl, rfl, trivial⟩, H⟩
  · rintro a w ⟨S, H⟩
    refine lx_nil ?_
    refine thenN ?_
    refine cond_b S rfl (fun hc34 => ?_) (fun hc34 => ?_)
    · have hm := ite_t hc34 hm
      refine wp_seq ?_
      refine region_plain ?_
      refine lx_q (.bool false) S trivial (by decide) (q_assign rfl) (fun a S => ?_)
      refine lx_nil ?_
      refine thenN ?_
      refine wp_ret ?_
      refine then_ret ?_
      obtain rfl := Option.some.inj hm
      exact leave1 S rfl rfl ⟨rfl, H⟩
    · have hm := ite_f hc34 hm
      refine wp_skip ?_
      refine thenN ?_
      refine wp_seq ?_
      refine wp_seq ?_
      refine region_plain ?_
      refine lx_q (.int .i64 (0 : Int)) S trivial (by decide) (q_assign rfl) (fun a S => ?_)
      refine lx_nil ?_
      refine thenN ?_
      obtain ⟨res174, hit175, hk178⟩ := bind_some hm
      obtain ⟨f176, hf177, hit175⟩ := iter_name hit175
      refine block_loop (fun a w => Slots a 46 [] ∧ Heap w0 [] w ∧ res174 = .inl ()) ?_ ?_
      · rintro a w ⟨S, H, rfl⟩
        have hm := ctl_inl hk178
        refine thenN ?_
        refine wp_seq ?_
        refine region_plain ?_
        refine lx_q (.bool true) S trivial (by decide) (q_assign rfl) (fun a S => ?_)
        refine lx_nil ?_
        refine thenN ?_
        refine wp_ret ?_
        obtain rfl := Option.some.inj hm
        exact leave1 S rfl rfl ⟨rfl, H⟩
      · skip
        refine loop_ghost (fun n a w => ∃ (x104 : Int), Slots a 46 [(0, p0), (3, (.int .i64 x104))] ∧ Heap w0 [] w ∧ iter f176 n (x104) = some res174) _ ⟨(0 : Int), S.sub ⟨rfl, rfl, trivial⟩, H, hit175⟩ ?_
        rintro n a w ⟨x104, S, H, hit175⟩
        obtain ⟨m179, o180, rfl, hm, hc181⟩ := iter_step hit175
        rw [hf177] at hm
        refine wp_seq ?_
        refine wp_seq ?_
        refine region_plain ?_
        refine lx_q (.int .i64 x104) S trivial (by decide) (q_move rfl) (fun a S => ?_)
        refine lx_q p0 S trivial (by decide) (q_move rfl) (fun a S => ?_)
        refine lx_q (.int .i64 (a0.length : Int)) S trivial (by decide) (q_lenSl rfl (h0).isSl rfl Try.underlying42) (fun a S => ?_)
        refine lx_q (.bool (decide (x104 < (a0.length : Int)))) S trivial (by decide) (q_lss rfl rfl) (fun a S => ?_)
        refine lx_nil ?_
        refine thenN ?_
        refine cond_b S rfl (fun hc182 => ?_) (fun hc182 => ?_)
        · have hm := ite_t hc182 hm
          refine wp_skip ?_
          refine thenN ?_
          refine wp_seq ?_
          refine wp_block ?_
          refine wp_seq ?_
          refine region_plain ?_
          refine lx_q p0 S trivial (by decide) (q_move rfl) (fun a S => ?_)
          refine lx_q (.int .i64 x104) S trivial (by decide) (q_move rfl) (fun a S => ?_)
          obtain ⟨x183, e184, hm⟩ := bind_some hm
          obtain ⟨c185, h186, hat187⟩ := (h0).elem (idx_some e184).2
          obtain ⟨c190, c191, rfl, h192, h193⟩ := h186
          obtain rfl := h192
          obtain ⟨c194, c195, rfl, h196, h197⟩ := h193
          obtain rfl := h196
          obtain ⟨v188, rfl, h189⟩ := rd_list h197
          have hlt := lt_of_idx (idx_some e184).2
          refine lx_q (ePtr p0 (x104.toNat * 3)) S trivial (by decide) (q_indexAddr rfl (h0).isSl rfl (idx_some e184).1 hlt Try.underlying42 Try.sizeOf75) (fun a S => ?_)
          refine lx_q (pAdd (ePtr p0 (x104.toNat * 3)) 0) S trivial (by decide) (q_fieldAddr' 0 2 rfl ((hat187 0 _ rfl).isP) Try.underlying75 rfl Try.sizeOf2) (fun a S => ?_)
          refine lx_e (.int .i64 x183.1) S trivial (by decide) rfl trivial (q_load1 rfl Try.isAgg2 (by rintro _ rfl; exact (At.of_add (m := 0) (j := 0) ((hat187 0 _ rfl).ext H.ext)))) (fun a S => ?_)
          obtain ⟨x200, e201, hm⟩ := bind_some hm
          refine lx_call (xs := [.tmp 22, .const (.int .i64 (0)), .const (.int .i64 (1))]) S trivial (by decide) rfl rfl Try.call60 ((spec_l00In_ok    e201).mono ?_)
          rintro e w198 ⟨rfl, Hc199⟩
          have he202 := Hc199.ext
          have H := H.call0 Hc199
          refine ⟨_, rfl, trivial, fun a S => ?_⟩
          refine lx_q (.bool (!x200)) S trivial (by decide) (q_not rfl) (fun a S => ?_)
          refine lx_q (.bool (!x200)) S trivial (by decide) (q_move rfl) (fun a S => ?_)
          obtain ⟨t203, e204, hm⟩ := bind_some hm
          refine lx_cut 8 (fun a w => Slots a 46 [(0, p0), (3, (.int .i64 x104)), (33, (.bool t203))] ∧ Heap w0 [] w) ?_ ?_
          · by_cases hc205 : (!x200) = true
            · have hm := ite_t hc205 e204
              refine lx_skip S rfl rfl (isB_ne hc205) (by decide) (fun a S => ?_)
              refine lx_skip S rfl rfl (isB_ne hc205) (by decide) (fun a S => ?_)
              refine lx_skip S rfl rfl (isB_ne hc205) (by decide) (fun a S => ?_)
              refine lx_skip S rfl rfl (isB_ne hc205) (by decide) (fun a S => ?_)
              refine lx_skip S rfl rfl (isB_ne hc205) (by decide) (fun a S => ?_)
              refine lx_skip S rfl rfl (isB_ne hc205) (by decide) (fun a S => ?_)
              refine lx_skip S rfl rfl (isB_ne hc205) (by decide) (fun a S => ?_)
              refine lx_q (.bool true) S trivial (by decide) (q_pickT' rfl hc205 rfl) (fun a S => ?_)
              refine lx_nil ?_
              obtain rfl := Option.some.inj hm
              exact ⟨S.sub ⟨rfl, rfl, rfl, trivial⟩, H⟩
            · have hm := ite_f (eq_false_of_ne_true hc205) e204
              have hc205 : (!x200) = false := eq_false_of_ne_true hc205
              refine lx_q p0 S (want_b rfl rfl hc205) (by decide) (q_move rfl) (fun a S => ?_)
              refine lx_q (.int .i64 x104) S (want_b rfl rfl hc205) (by decide) (q_move rfl) (fun a S => ?_)
              obtain ⟨x206, e207, hm⟩ := bind_some hm
              obtain ⟨c208, h209, hat210⟩ := (h0).elem (idx_some e207).2
              obtain ⟨c213, c214, rfl, h215, h216⟩ := h209
              obtain rfl := h215
              obtain ⟨c217, c218, rfl, h219, h220⟩ := h216
              obtain rfl := h219
              obtain ⟨v211, rfl, h212⟩ := rd_list h220
              have hlt := lt_of_idx (idx_some e207).2
              refine lx_q (ePtr p0 (x104.toNat * 3)) S (want_b rfl rfl hc205) (by decide) (q_indexAddr rfl (h0).isSl rfl (idx_some e207).1 hlt Try.underlying42 Try.sizeOf75) (fun a S => ?_)
              refine lx_q (pAdd (ePtr p0 (x104.toNat * 3)) 1) S (want_b rfl rfl hc205) (by decide) (q_fieldAddr' 1 2 rfl ((hat210 0 _ rfl).isP) Try.underlying75 rfl Try.sizeOf2) (fun a S => ?_)
              refine lx_e (.int .i64 x206.2.1) S (want_b rfl rfl hc205) (by decide) rfl trivial (q_load1 rfl Try.isAgg2 (by rintro _ rfl; exact (At.of_add (m := 1) (j := 0) ((hat210 1 _ rfl).ext H.ext)))) (fun a S => ?_)
              obtain ⟨x223, e224, hm⟩ := bind_some hm
              refine lx_call (xs := [.tmp 30, .const (.int .i64 (0)), .const (.int .i64 (9))]) S (want_b rfl rfl hc205) (by decide) rfl rfl Try.call60 ((spec_l00In_ok    e224).mono ?_)
              rintro e w221 ⟨rfl, Hc222⟩
              have he225 := Hc222.ext
              have H := H.call0 Hc222
              refine ⟨_, rfl, trivial, fun a S => ?_⟩
              refine lx_q (.bool (!x223)) S (want_b rfl rfl hc205) (by decide) (q_not rfl) (fun a S => ?_)
              refine lx_q (.bool (!x223)) S trivial (by decide) (q_pickF' rfl hc205 rfl) (fun a S => ?_)
              refine lx_nil ?_
              obtain rfl := Option.some.inj hm
              exact ⟨S.sub ⟨rfl, rfl, rfl, trivial⟩, H⟩
          · rintro a w ⟨S, H⟩
            refine lx_q (.bool t203) S trivial (by decide) (q_move rfl) (fun a S => ?_)
            obtain ⟨t226, e227, hm⟩ := bind_some hm
            refine lx_cut 11 (fun a w => Slots a 46 [(0, p0), (3, (.int .i64 x104)), (45, (.bool t226))] ∧ Heap w0 [] w) ?_ ?_
            · by_cases hc228 : t203 = true
              · have hm := ite_t hc228 e227
                refine lx_skip S rfl rfl (isB_ne hc228) (by decide) (fun a S => ?_)
                refine lx_skip S rfl rfl (isB_ne hc228) (by decide) (fun a S => ?_)
                refine lx_skip S rfl rfl (isB_ne hc228) (by decide) (fun a S => ?_)
                refine lx_skip S rfl rfl (isB_ne hc228) (by decide) (fun a S => ?_)
                refine lx_skip S rfl rfl (isB_ne hc228) (by decide) (fun a S => ?_)
                refine lx_skip S rfl rfl (isB_ne hc228) (by decide) (fun a S => ?_)
                refine lx_skip S rfl rfl (isB_ne hc228) (by decide) (fun a S => ?_)
                refine lx_skip S rfl rfl (isB_ne hc228) (by decide) (fun a S => ?_)
                refine lx_skip S rfl rfl (isB_ne hc228) (by decide) (fun a S => ?_)
                refine lx_skip S rfl rfl (isB_ne hc228) (by decide) (fun a S => ?_)
                refine lx_q (.bool true) S trivial (by decide) (q_pickT' rfl hc228 rfl) (fun a S => ?_)
                refine lx_nil ?_
                obtain rfl := Option.some.inj hm
                exact ⟨S.sub ⟨rfl, rfl, rfl, trivial⟩, H⟩
              · have hm := ite_f (eq_false_of_ne_true hc228) e227
                have hc228 : t203 = false := eq_false_of_ne_true hc228
                refine lx_q p0 S (want_b rfl rfl hc228) (by decide) (q_move rfl) (fun a S => ?_)
                refine lx_q (.int .i64 x104) S (want_b rfl rfl hc228) (by decide) (q_move rfl) (fun a S => ?_)
                obtain ⟨x229, e230, hm⟩ := bind_some hm
                obtain ⟨c231, h232, hat233⟩ := (h0).elem (idx_some e230).2
                obtain ⟨c236, c237, rfl, h238, h239⟩ := h232
                obtain rfl := h238
                obtain ⟨c240, c241, rfl, h242, h243⟩ := h239
                obtain rfl := h242
                obtain ⟨v234, rfl, h235⟩ := rd_list h243
                have hlt := lt_of_idx (idx_some e230).2
                refine lx_q (ePtr p0 (x104.toNat * 3)) S (want_b rfl rfl hc228) (by decide) (q_indexAddr rfl (h0).isSl rfl (idx_some e230).1 hlt Try.underlying42 Try.sizeOf75) (fun a S => ?_)
                refine lx_q (pAdd (ePtr p0 (x104.toNat * 3)) 2) S (want_b rfl rfl hc228) (by decide) (q_fieldAddr' 2 29 rfl ((hat233 0 _ rfl).isP) Try.underlying75 rfl Try.sizeOf29) (fun a S => ?_)
                refine lx_e v234 S (want_b rfl rfl hc228) (by decide) rfl trivial (q_load1 rfl Try.isAgg29 (by rintro _ rfl; exact (At.of_add (m := 2) (j := 0) ((hat233 2 _ rfl).ext H.ext)))) (fun a S => ?_)
                refine lx_q p0 S (want_b rfl rfl hc228) (by decide) (q_move rfl) (fun a S => ?_)
                refine lx_q (.int .i64 (a0.length : Int)) S (want_b rfl rfl hc228) (by decide) (q_lenSl rfl (h0).isSl rfl Try.underlying42) (fun a S => ?_)
                refine lx_q (.int .i64 (W ((a0.length : Int) - (1 : Int)))) S (want_b rfl rfl hc228) (by decide) (q_sub rfl rfl) (fun a S => ?_)
                obtain ⟨x246, e247, hm⟩ := bind_some hm
                refine lx_call (xs := [.tmp 39, .const (.int .i64 (0)), .tmp 42]) S (want_b rfl rfl hc228) (by decide) rfl rfl Try.call69 ((spec_l00Rises_ok (H.arg h235)   e247).mono ?_)
                rintro e w244 ⟨rfl, Hc245⟩
                have he248 := Hc245.ext
                have H := H.call0 Hc245
                refine ⟨_, rfl, trivial, fun a S => ?_⟩
                refine lx_q (.bool (!x246)) S (want_b rfl rfl hc228) (by decide) (q_not rfl) (fun a S => ?_)
                refine lx_q (.bool (!x246)) S trivial (by decide) (q_pickF' rfl hc228 rfl) (fun a S => ?_)
                refine lx_nil ?_
                obtain rfl := Option.some.inj hm
                exact ⟨S.sub ⟨rfl, rfl, rfl, trivial⟩, H⟩
            · rintro a w ⟨S, H⟩
              refine lx_nil ?_
              refine thenN ?_
              refine cond_b S rfl (fun hc249 => ?_) (fun hc249 => ?_)
              · have hm := ite_t hc249 hm
                refine wp_seq ?_
                refine region_plain ?_
                refine lx_q (.bool false) S trivial (by decide) (q_assign rfl) (fun a S => ?_)
                refine lx_nil ?_
                refine thenN ?_
                refine wp_ret ?_
                refine inBlock_ret ?_
                refine then_ret ?_
                refine then_ret ?_
                refine inBlock_ret ?_
                refine then_ret ?_
                refine then_ret ?_
                obtain rfl := it_brk hm hc181
                have hm := ctl_inr hk178
                obtain rfl := Option.some.inj hm
                exact leave1 S rfl rfl ⟨rfl, H⟩
              · have hm := ite_f hc249 hm
                refine wp_skip ?_
                refine inBlock_norm ?_
                refine thenN ?_
                refine region_plain ?_
                refine lx_q (.int .i64 x104) S trivial (by decide) (q_move rfl) (fun a S => ?_)
                refine lx_q (.int .i64 (W (x104 + (1 : Int)))) S trivial (by decide) (q_add rfl rfl) (fun a S => ?_)
                refine lx_q (.int .i64 (W (x104 + (1 : Int)))) S trivial (by decide) (q_assign rfl) (fun a S => ?_)
                refine lx_nil ?_
                exact ⟨m179, Nat.lt_succ_self _, (W (x104 + (1 : Int))), S.sub ⟨rfl, rfl, trivial⟩, H, it_cont hm hc181⟩
        · have hm := ite_f hc182 hm
          refine wp_exit ?_
          refine then_exit ?_
          refine then_exit ?_
          refine inBlock_exit ?_
          obtain rfl := it_brk hm hc181
          exact ⟨S.sub trivial, H, rfl⟩

/-- spec.l00Own -/
def spec_l00Own_m (fuel : Nat) (a0 : (List Int)) : Option ((List Int)) :=
  (app ([] : List Int) a0).bind fun x34 => some (x34)
set_option maxRecDepth 20000 in
theorem spec_l00Own_ok {w0 : World} {fuel : Nat} {p0 : Value} {a0 : (List Int)} {r : (List Int)} (h0 : Rd (rList (rInt .i64)) w0 p0 a0) (hm : spec_l00Own_m fuel a0 = some r) :
    Calls Try.prog 58 #[p0] w0 fun e w => ∃ (v0 : Value), e = .returned (v0) ∧ Heap w0 [oA (rList (rInt .i64)) v0 r] w := by
  unfold spec_l00Own_m at hm
  have H := Heap.start w0
  refine enter (args := [p0]) Try.func58 rfl 6 rfl (Nat.le_of_ble_eq_true rfl) (fun a S => ?_)
  refine wp_seq ?_
  refine region_plain ?_
  refine lx_q (.slice none 0 0) S trivial (by decide) (q_assign rfl) (fun a S => ?_)
  refine lx_nil ?_
  refine thenN ?_
  refine wp_seq ?_
  refine region_plain ?_
  refine lx_buildSlice0 (r := (rInt .i64)) S trivial (by decide) rfl H Try.underlying29 Try.sizeOf2 (fun v31 w32 H => ⟨trivial, fun a S => ?_⟩)
  refine lx_q p0 S trivial (by decide) (q_move rfl) (fun a S => ?_)
  obtain ⟨x34, e35, hm⟩ := bind_some hm
  obtain ⟨hle, hap⟩ := app_some e35
  replace hap := hap.symm
  subst hap
  refine lx_appendRd (r := (rInt .i64)) S trivial (by decide) rfl H (flat_int _) (H.arg h0) rfl rfl Try.underlying29 Try.ti2 rfl rfl rfl (by decide) (by decide) hle (fun v36 w37 H => ⟨trivial, fun a S => ?_⟩)
  refine lx_q v36 S trivial (by decide) (q_assign rfl) (fun a S => ?_)
  refine lx_nil ?_
  refine thenN ?_
  refine wp_ret ?_
  obtain rfl := Option.some.inj hm
  exact leave1 S rfl rfl ⟨v36, rfl, H⟩

/-- spec.l23Own -/
def spec_l23Own_m (fuel : Nat) (a0 : (List Timpl_Vertex)) : Option ((List Timpl_Vertex)) :=
  (iter (fun (s : (List Timpl_Vertex) × (Int)) => (match s with | (xs102, x104) => (if (decide (x104 < (a0.length : Int))) = true then (idx a0 x104).bind fun x186 => (idx a0 x104).bind fun x201 => (idx a0 x104).bind fun x216 => (spec_l00Own_m fuel x216.2.2).bind fun x233 => (app xs102 [(x186.1, x201.2.1, x233)]).bind fun x241 => some (.inl (x241, (W (x104 + (1 : Int))))) else some (.inr (.inl (xs102)))) : Option (((List Timpl_Vertex) × (Int)) ⊕ (((List Timpl_Vertex)) ⊕ ((List Timpl_Vertex)))))) fuel (([] : List Timpl_Vertex), (0 : Int))).bind fun res175 => ctl (β := (List Timpl_Vertex)) (ρ := (List Timpl_Vertex)) (τ := (List Timpl_Vertex)) res175 (fun (xs173) => some (xs173)) (fun q => some (q))
set_option maxRecDepth 20000 in
theorem spec_l23Own_ok {w0 : World} {fuel : Nat} {p0 : Value} {a0 : (List Timpl_Vertex)} {r : (List Timpl_Vertex)} (h0 : Rd (rList Rimpl_Vertex) w0 p0 a0) (hm : spec_l23Own_m fuel a0 = some r) :
    Calls Try.prog 53 #[p0] w0 fun e w => ∃ (v0 : Value), e = .returned (v0) ∧ Heap w0 [oA (rList Rimpl_Vertex) v0 r] w := by
  unfold spec_l23Own_m at hm
  have H := Heap.start w0
  refine enter (args := [p0]) Try.func53 rfl 33 rfl (Nat.le_of_ble_eq_true rfl) (fun a S => ?_)
  refine wp_seq ?_
  refine region_plain ?_
  refine lx_q (.slice none 0 0) S trivial (by decide) (q_assign rfl) (fun a S => ?_)
  refine lx_nil ?_
  refine thenN ?_
  refine wp_seq ?_
  refine region_plain ?_
  refine lx_buildSlice0 (r := Rimpl_Vertex) S trivial (by decide) rfl H Try.underlying42 Try.sizeOf75 (fun v31 w32 H => ⟨trivial, fun a S => ?_⟩)
  refine lx_q v31 S trivial (by decide) (q_assign rfl) (fun a S => ?_)
  refine lx_nil ?_
  refine thenN ?_
  refine wp_seq ?_
  refine wp_seq ?_
  refine region_plain ?_
  refine lx_q (.int .i64 (0 : Int)) S trivial (by decide) (q_assign rfl) (fun a S => ?_)
  refine lx_nil ?_
  refine thenN ?_
  obtain ⟨res175, hit176, hk179⟩ := bind_some hm
  obtain ⟨f177, hf178, hit176⟩ := iter_name hit176
  refine block_loop (fun a w => ∃ (xs173 : List Timpl_Vertex) (v172 : Value), Slots a 33 [(3, v172)] ∧ Heap w0 [oA (rList Rimpl_Vertex) v172 xs173] w ∧ res175 = .inl (xs173)) ?_ ?_
  · rintro a w ⟨xs173, v172, S, H, rfl⟩
    have hm := ctl_inl hk179
    refine thenN ?_
    refine wp_seq ?_
    refine region_plain ?_
    refine lx_q v172 S trivial (by decide) (q_move rfl) (fun a S => ?_)
    refine lx_q v172 S trivial (by decide) (q_assign rfl) (fun a S => ?_)
    refine lx_nil ?_
    refine thenN ?_
    refine wp_ret ?_
    obtain rfl := Option.some.inj hm
    exact leave1 S rfl rfl ⟨v172, rfl, H⟩
  · skip
    refine loop_ghost (fun n a w => ∃ (xs102 : List Timpl_Vertex) (x104 : Int) (v101 : Value), Slots a 33 [(0, p0), (3, v101), (4, (.int .i64 x104))] ∧ Heap w0 [oA (rList Rimpl_Vertex) v101 xs102] w ∧ iter f177 n (xs102, x104) = some res175) _ ⟨([] : List Timpl_Vertex), (0 : Int), v31, S.sub ⟨rfl, rfl, rfl, trivial⟩, H, hit176⟩ ?_
    rintro n a w ⟨xs102, x104, v101, S, H, hit176⟩
    obtain ⟨m180, o181, rfl, hm, hc182⟩ := iter_step hit176
    rw [hf178] at hm
    refine wp_seq ?_
    refine wp_seq ?_
    refine region_plain ?_
    refine lx_q (.int .i64 x104) S trivial (by decide) (q_move rfl) (fun a S => ?_)
    refine lx_q p0 S trivial (by decide) (q_move rfl) (fun a S => ?_)
    refine lx_q (.int .i64 (a0.length : Int)) S trivial (by decide) (q_lenSl rfl (h0).isSl rfl Try.underlying42) (fun a S => ?_)
    refine lx_q (.bool (decide (x104 < (a0.length : Int)))) S trivial (by decide) (q_lss rfl rfl) (fun a S => ?_)
    refine lx_nil ?_
    refine thenN ?_
    refine cond_b S rfl (fun hc183 => ?_) (fun hc183 => ?_)
    · have hm := ite_t hc183 hm
      refine wp_skip ?_
      refine thenN ?_
      refine wp_seq ?_
      refine wp_block ?_
      refine region_drawG (fun w1 => Heap w0 [] w1) (fun i => [16, 18, 19].contains i) mixed (by kernel_rfl) (fun w185 he184 => ?_)
      have H := H.later he184
      refine ⟨H.sel [] (by decide), ?_⟩
      refine lx_q v101 S trivial (by decide) (q_move rfl) (fun a S => ?_)
      refine lx_q p0 S trivial (by decide) (q_move rfl) (fun a S => ?_)
      refine lx_q (.int .i64 x104) S trivial (by decide) (q_move rfl) (fun a S => ?_)
      obtain ⟨x186, e187, hm⟩ := bind_some hm
      obtain ⟨c188, h189, hat190⟩ := (h0).elem (idx_some e187).2
      obtain ⟨c193, c194, rfl, h195, h196⟩ := h189
      obtain rfl := h195
      obtain ⟨c197, c198, rfl, h199, h200⟩ := h196
      obtain rfl := h199
      obtain ⟨v191, rfl, h192⟩ := rd_list h200
      have hlt := lt_of_idx (idx_some e187).2
      refine lx_q (ePtr p0 (x104.toNat * 3)) S trivial (by decide) (q_indexAddr rfl (h0).isSl rfl (idx_some e187).1 hlt Try.underlying42 Try.sizeOf75) (fun a S => ?_)
      refine lx_q (pAdd (ePtr p0 (x104.toNat * 3)) 0) S trivial (by decide) (q_fieldAddr' 0 2 rfl ((hat190 0 _ rfl).isP) Try.underlying75 rfl Try.sizeOf2) (fun a S => ?_)
      refine lx_q (.int .i64 x186.1) S trivial (by decide) (q_load1 rfl Try.isAgg2 (fun w1 hC => (At.of_add (m := 0) (j := 0) ((hat190 0 _ rfl).ext hC.ext)))) (fun a S => ?_)
      refine lx_q p0 S trivial (by decide) (q_move rfl) (fun a S => ?_)
      refine lx_q (.int .i64 x104) S trivial (by decide) (q_move rfl) (fun a S => ?_)
      obtain ⟨x201, e202, hm⟩ := bind_some hm
      obtain ⟨c203, h204, hat205⟩ := (h0).elem (idx_some e202).2
      obtain ⟨c208, c209, rfl, h210, h211⟩ := h204
      obtain rfl := h210
      obtain ⟨c212, c213, rfl, h214, h215⟩ := h211
      obtain rfl := h214
      obtain ⟨v206, rfl, h207⟩ := rd_list h215
      have hlt := lt_of_idx (idx_some e202).2
      refine lx_q (ePtr p0 (x104.toNat * 3)) S trivial (by decide) (q_indexAddr rfl (h0).isSl rfl (idx_some e202).1 hlt Try.underlying42 Try.sizeOf75) (fun a S => ?_)
      refine lx_q (pAdd (ePtr p0 (x104.toNat * 3)) 1) S trivial (by decide) (q_fieldAddr' 1 2 rfl ((hat205 0 _ rfl).isP) Try.underlying75 rfl Try.sizeOf2) (fun a S => ?_)
      refine lx_q (.int .i64 x201.2.1) S trivial (by decide) (q_load1 rfl Try.isAgg2 (fun w1 hC => (At.of_add (m := 1) (j := 0) ((hat205 1 _ rfl).ext hC.ext)))) (fun a S => ?_)
      refine lx_q p0 S trivial (by decide) (q_move rfl) (fun a S => ?_)
      refine lx_q (.int .i64 x104) S trivial (by decide) (q_move rfl) (fun a S => ?_)
      obtain ⟨x216, e217, hm⟩ := bind_some hm
      obtain ⟨c218, h219, hat220⟩ := (h0).elem (idx_some e217).2
      obtain ⟨c223, c224, rfl, h225, h226⟩ := h219
      obtain rfl := h225
      obtain ⟨c227, c228, rfl, h229, h230⟩ := h226
      obtain rfl := h229
      obtain ⟨v221, rfl, h222⟩ := rd_list h230
      have hlt := lt_of_idx (idx_some e217).2
      refine lx_q (ePtr p0 (x104.toNat * 3)) S trivial (by decide) (q_indexAddr rfl (h0).isSl rfl (idx_some e217).1 hlt Try.underlying42 Try.sizeOf75) (fun a S => ?_)
      refine lx_q (pAdd (ePtr p0 (x104.toNat * 3)) 2) S trivial (by decide) (q_fieldAddr' 2 29 rfl ((hat220 0 _ rfl).isP) Try.underlying75 rfl Try.sizeOf29) (fun a S => ?_)
      refine lx_q v221 S trivial (by decide) (q_load1 rfl Try.isAgg29 (fun w1 hC => (At.of_add (m := 2) (j := 0) ((hat220 2 _ rfl).ext hC.ext)))) (fun a S => ?_)
      obtain ⟨x233, e234, hm⟩ := bind_some hm
      refine lx_call (xs := [.tmp 27]) S trivial (by decide) rfl rfl Try.call58 ((spec_l00Own_ok (H.arg h222) e234).mono ?_)
      rintro e w231 ⟨v235, rfl, Hc232⟩
      have he237 := Hc232.ext
      have H := H.call1 Hc232
      refine ⟨_, rfl, H.sel [] (by decide), fun a S => ?_⟩
      refine lx_q (.agg #[(.int .i64 x186.1), (.int .i64 x201.2.1), v235]) S trivial (by decide) (q_build (zs := [(.int .i64 (0 : Int)), (.int .i64 (0 : Int)), (.slice none 0 0)]) (szs := [1, 1, 1]) (ps := [(0, [(.int .i64 x186.1)]), (1, [(.int .i64 x201.2.1)]), (2, [v235])]) (parts := [(0, .tmp 17), (1, .tmp 22), (2, .tmp 28)]) rfl Try.underlying75 Try.zeroValue75 (fun w => by simp [Try.sizeOf2, Try.sizeOf29]) ⟨rfl, rfl, Nat.le_of_ble_eq_true rfl, ⟨rfl, rfl, Nat.le_of_ble_eq_true rfl, ⟨rfl, (cells_sl (H.isSl 0 rfl)), Nat.le_of_ble_eq_true rfl, trivial⟩⟩⟩ rfl) (fun a S => ?_)
      refine lx_buildSlice (r := Rimpl_Vertex) (xs := [(x186.1, x201.2.1, x233)]) (ps := [(0, [(.int .i64 x186.1), (.int .i64 x201.2.1), v235])]) (cs := [(.int .i64 x186.1), (.int .i64 x201.2.1), v235]) (parts := [(0, .tmp 29)]) S trivial (by decide) rfl H rfl Try.underlying42 Try.sizeOf75 Try.zeroValue75 (by decide) ⟨rfl, rfl, Nat.le_of_ble_eq_true rfl, trivial⟩ (by intro zs hz; exact fill_dense hz ⟨rfl, trivial⟩ rfl rfl) rfl (by decide) (fun w F hA => ownL_one_mk (ownF ⟨_, _, [(.int .i64 x186.1)], [(.int .i64 x201.2.1), v235], rfl, rfl, ⟨rfl, rfl⟩, ⟨_, _, [(.int .i64 x201.2.1)], [v235], rfl, rfl, ⟨rfl, rfl⟩, (oA_list.1 hA)⟩⟩)) (fun v238 w239 H => ⟨H.sel [] (by decide), fun a S => ?_⟩)
      obtain ⟨x241, e242, hm⟩ := bind_some hm
      obtain ⟨hle, hap⟩ := app_some e242
      replace hap := hap.symm
      subst hap
      have H : Heap w0 [oA (rList Rimpl_Vertex) v238 [(x186.1, x201.2.1, x233)], oA (rList Rimpl_Vertex) v101 xs102] w239 := H.front 0 rfl
      have H : Heap w0 [oA (rList Rimpl_Vertex) v101 xs102, oA (rList Rimpl_Vertex) v238 [(x186.1, x201.2.1, x233)]] w239 := H.front 1 rfl
      refine lx_appendOwn (r := Rimpl_Vertex) S trivial (by decide) rfl H rfl rfl Try.underlying42 Try.ti75 rfl rfl rfl (by decide) (by decide) hle (fun v243 w244 H => ⟨H.sel [] (by decide), fun a S => ?_⟩)
      refine lx_q v243 S trivial (by decide) (q_assign rfl) (fun a S => ?_)
      refine lx_nil ?_
      refine inBlock_norm ?_
      refine thenN ?_
      refine region_plain ?_
      refine lx_q (.int .i64 x104) S trivial (by decide) (q_move rfl) (fun a S => ?_)
      refine lx_q (.int .i64 (W (x104 + (1 : Int)))) S trivial (by decide) (q_add rfl rfl) (fun a S => ?_)
      refine lx_q (.int .i64 (W (x104 + (1 : Int)))) S trivial (by decide) (q_assign rfl) (fun a S => ?_)
      refine lx_nil ?_
      exact ⟨m180, Nat.lt_succ_self _, (xs102 ++ [(x186.1, x201.2.1, x233)]), (W (x104 + (1 : Int))), v243, S.sub ⟨rfl, rfl, rfl, trivial⟩, H, it_cont hm hc182⟩
    · have hm := ite_f hc183 hm
      refine wp_exit ?_
      refine then_exit ?_
      refine then_exit ?_
      refine inBlock_exit ?_
      obtain rfl := it_brk hm hc182
      exact ⟨xs102, v101, S.sub ⟨rfl, trivial⟩, H, rfl⟩

/-- spec.DualGame -/
def spec_DualGame_m (fuel : Nat) (a0 : (List Timpl_Vertex)) : Option (((List Timpl_Vertex) × Int)) :=
  (spec_l23Is_m fuel a0).bind fun x33 => (if (!x33) = true then some (([], (1 : Int))) else (spec_l23Own_m fuel a0).bind fun x40 => (iter (fun (s : (List Timpl_Vertex) × (Int)) => (match s with | (xs100, x101) => (if (decide (x101 < (xs100.length : Int))) = true then (idx xs100 x101).bind fun x167 => (idx xs100 x101).bind fun x182 => (idx (xs100.set x101.toNat ((W ((1 : Int) - x167.1)), x182.2.1, x182.2.2)) x101).bind fun x185 => (idx (xs100.set x101.toNat ((W ((1 : Int) - x167.1)), x182.2.1, x182.2.2)) x101).bind fun x200 => (idx ((xs100.set x101.toNat ((W ((1 : Int) - x167.1)), x182.2.1, x182.2.2)).set x101.toNat (x200.1, (W (x185.2.1 + (1 : Int))), x200.2.2)) x101).bind fun x203 => (if (decide ((9 : Int) < x203.2.1)) = true then some (.inr (.inr ([], (5 : Int)))) else some (.inl (((xs100.set x101.toNat ((W ((1 : Int) - x167.1)), x182.2.1, x182.2.2)).set x101.toNat (x200.1, (W (x185.2.1 + (1 : Int))), x200.2.2)), (W (x101 + (1 : Int)))))) else some (.inr (.inl (xs100)))) : Option (((List Timpl_Vertex) × (Int)) ⊕ (((List Timpl_Vertex)) ⊕ (((List Timpl_Vertex) × Int)))))) fuel (x40, (0 : Int))).bind fun res158 => ctl (β := (List Timpl_Vertex)) (ρ := ((List Timpl_Vertex) × Int)) (τ := ((List Timpl_Vertex) × Int)) res158 (fun (xs157) => some ((xs157, (0 : Int)))) (fun q => some (q)))
set_option maxRecDepth 20000 in
theorem spec_DualGame_ok {w0 : World} {fuel : Nat} {p0 : Value} {a0 : (List Timpl_Vertex)} {r : ((List Timpl_Vertex) × Int)} (h0 : Rd (rList Rimpl_Vertex) w0 p0 a0) (hm : spec_DualGame_m fuel a0 = some r) :
    Calls Try.prog 25 #[p0] w0 fun e w => ∃ (v0 : Value), e = .returned (.tuple #[v0, .int .i64 r.2]) ∧ Heap w0 [oA (rList Rimpl_Vertex) v0 r.1] w := by
  unfold spec_DualGame_m at hm
  have H := Heap.start w0
  refine enter (args := [p0]) Try.func25 rfl 42 rfl (Nat.le_of_ble_eq_true rfl) (fun a S => ?_)
  refine wp_seq ?_
  refine region_plain ?_
  refine lx_q (.slice none 0 0) S trivial (by decide) (q_assign rfl) (fun a S => ?_)
  refine lx_q (.int .i64 (0 : Int)) S trivial (by decide) (q_assign rfl) (fun a S => ?_)
  refine lx_nil ?_
  refine thenN ?_
  refine wp_seq ?_
  refine wp_seq ?_
  refine region_plain ?_
  refine lx_q p0 S trivial (by decide) (q_move rfl) (fun a S => ?_)
  obtain ⟨x33, e34, hm⟩ := bind_some hm
  refine lx_call (xs := [.tmp 6]) S trivial (by decide) rfl rfl Try.call52 ((spec_l23Is_ok (H.arg h0) e34).mono ?_)
  rintro e w31 ⟨rfl, Hc32⟩
  have he35 := Hc32.ext
  have H := H.call0 Hc32
  refine ⟨_, rfl, trivial, fun a S => ?_⟩
  refine lx_q (.bool (!x33)) S trivial (by decide) (q_not rfl) (fun a S => ?_)
  refine lx_nil ?_
  refine thenN ?_
  refine cond_b S rfl (fun hc36 => ?_) (fun hc36 => ?_)
  · have hm := ite_t hc36 hm
    refine wp_seq ?_
    refine region_plain ?_
    refine lx_q (.slice none 0 0) S trivial (by decide) (q_assign rfl) (fun a S => ?_)
    refine lx_q (.int .i64 (1 : Int)) S trivial (by decide) (q_assign rfl) (fun a S => ?_)
    refine lx_nil ?_
    refine thenN ?_
    refine wp_ret ?_
    refine then_ret ?_
    obtain rfl := Option.some.inj hm
    have H : Heap w0 [oA (rList Rimpl_Vertex) (.slice none 0 0) ([] : List Timpl_Vertex)] w31 := H.nilList Rimpl_Vertex
    exact leave2 S rfl rfl rfl ⟨(.slice none 0 0), rfl, H⟩
  · have hm := ite_f hc36 hm
    refine wp_skip ?_
    refine thenN ?_
    refine wp_seq ?_
    refine region_plain ?_
    refine lx_q p0 S trivial (by decide) (q_move rfl) (fun a S => ?_)
    obtain ⟨x40, e41, hm⟩ := bind_some hm
    refine lx_call (xs := [.tmp 9]) S trivial (by decide) rfl rfl Try.call53 ((spec_l23Own_ok (H.arg h0) e41).mono ?_)
    rintro e w38 ⟨v42, rfl, Hc39⟩
    have he44 := Hc39.ext
    have H := H.call1 Hc39
    refine ⟨_, rfl, trivial, fun a S => ?_⟩
    refine lx_q v42 S trivial (by decide) (q_assign rfl) (fun a S => ?_)
    refine lx_nil ?_
    refine thenN ?_
    refine wp_seq ?_
    refine wp_seq ?_
    refine region_plain ?_
    refine lx_q (.int .i64 (0 : Int)) S trivial (by decide) (q_assign rfl) (fun a S => ?_)
    refine lx_nil ?_
    refine thenN ?_
    obtain ⟨res158, hit159, hk162⟩ := bind_some hm
    obtain ⟨f160, hf161, hit159⟩ := iter_name hit159
    refine block_loop (fun a w => ∃ (xs157 : List Timpl_Vertex), Slots a 42 [(4, v42)] ∧ Heap w0 [oA (rList Rimpl_Vertex) v42 xs157] w ∧ res158 = .inl (xs157)) ?_ ?_
    · rintro a w ⟨xs157, S, H, rfl⟩
      have hm := ctl_inl hk162
      refine thenN ?_
      refine wp_seq ?_
      refine region_plain ?_
      refine lx_q v42 S trivial (by decide) (q_move rfl) (fun a S => ?_)
      refine lx_q v42 S trivial (by decide) (q_assign rfl) (fun a S => ?_)
      refine lx_q (.int .i64 (0 : Int)) S trivial (by decide) (q_assign rfl) (fun a S => ?_)
      refine lx_nil ?_
      refine thenN ?_
      refine wp_ret ?_
      obtain rfl := Option.some.inj hm
      exact leave2 S rfl rfl rfl ⟨v42, rfl, H⟩
    · skip
      refine loop_ghost (fun n a w => ∃ (xs100 : List Timpl_Vertex) (x101 : Int), Slots a 42 [(4, v42), (5, (.int .i64 x101))] ∧ Heap w0 [oA (rList Rimpl_Vertex) v42 xs100] w ∧ iter f160 n (xs100, x101) = some res158) _ ⟨x40, (0 : Int), S.sub ⟨rfl, rfl, trivial⟩, H, hit159⟩ ?_
      rintro n a w ⟨xs100, x101, S, H, hit159⟩
      obtain ⟨m163, o164, rfl, hm, hc165⟩ := iter_step hit159
      rw [hf161] at hm
      refine wp_seq ?_
      refine wp_seq ?_
      refine region_plain ?_
      refine lx_q (.int .i64 x101) S trivial (by decide) (q_move rfl) (fun a S => ?_)
      refine lx_q v42 S trivial (by decide) (q_move rfl) (fun a S => ?_)
      refine lx_q (.int .i64 (xs100.length : Int)) S trivial (by decide) (q_lenSl rfl (H.isSl 0 rfl) rfl Try.underlying42) (fun a S => ?_)
      refine lx_q (.bool (decide (x101 < (xs100.length : Int)))) S trivial (by decide) (q_lss rfl rfl) (fun a S => ?_)
      refine lx_nil ?_
      refine thenN ?_
      refine cond_b S rfl (fun hc166 => ?_) (fun hc166 => ?_)
      · have hm := ite_t hc166 hm
        refine wp_skip ?_
        refine thenN ?_
        refine wp_seq ?_
        refine wp_block ?_
        refine wp_seq ?_
        refine region_plain ?_
        refine lx_q v42 S trivial (by decide) (q_move rfl) (fun a S => ?_)
        refine lx_q (.int .i64 x101) S trivial (by decide) (q_move rfl) (fun a S => ?_)
        refine lx_q v42 S trivial (by decide) (q_move rfl) (fun a S => ?_)
        refine lx_q (.int .i64 x101) S trivial (by decide) (q_move rfl) (fun a S => ?_)
        obtain ⟨x167, e168, hm⟩ := bind_some hm
        have hlt := lt_of_idx (idx_some e168).2
        refine lx_q (ePtr v42 (x101.toNat * 3)) S trivial (by decide) (q_indexAddr rfl (H.isSl 0 rfl) rfl (idx_some e168).1 hlt Try.underlying42 Try.sizeOf75) (fun a S => ?_)
        refine lx_q (pAdd (ePtr v42 (x101.toNat * 3)) 0) S trivial (by decide) (q_fieldAddr' 0 2 rfl (((H.isSl 0 rfl)).ptr (lt_of_idx (idx_some e168).2) _) Try.underlying75 rfl Try.sizeOf2) (fun a S => ?_)
        obtain ⟨c169, h170, hat171⟩ := (H.rdAt 0 rfl).elem (idx_some e168).2
        obtain ⟨c174, c175, rfl, h176, h177⟩ := h170
        obtain rfl := h176
        obtain ⟨c178, c179, rfl, h180, h181⟩ := h177
        obtain rfl := h180
        obtain ⟨v172, rfl, h173⟩ := rd_list h181
        refine lx_e (.int .i64 x167.1) S trivial (by decide) rfl trivial (q_load1 rfl Try.isAgg2 (by rintro _ rfl; exact (At.of_add (m := 0) (j := 0) (hat171 0 _ rfl)))) (fun a S => ?_)
        refine lx_q (.int .i64 (W ((1 : Int) - x167.1))) S trivial (by decide) (q_sub rfl rfl) (fun a S => ?_)
        obtain ⟨x182, e183, hm⟩ := bind_some hm
        have hlt := lt_of_idx (idx_some e183).2
        refine lx_q (ePtr v42 (x101.toNat * 3)) S trivial (by decide) (q_indexAddr rfl (H.isSl 0 rfl) rfl (idx_some e183).1 hlt Try.underlying42 Try.sizeOf75) (fun a S => ?_)
        refine lx_q (pAdd (ePtr v42 (x101.toNat * 3)) 0) S trivial (by decide) (q_fieldAddr' 0 2 rfl (((H.isSl 0 rfl)).ptr (lt_of_idx (idx_some e183).2) _) Try.underlying75 rfl Try.sizeOf2) (fun a S => ?_)
        refine lx_storeElem (r := Rimpl_Vertex) (us := [(.int .i64 (W ((1 : Int) - x167.1)))]) (off := 0) (e' := ((W ((1 : Int) - x167.1)), x182.2.1, x182.2.2)) S trivial rfl H.putE rfl rfl (idx_some e183).2 rfl Try.sizeOf2 (Nat.le_of_ble_eq_true rfl) (List.forall_mem_cons.2 ⟨rfl, (fun _ h => nomatch h)⟩) (Upd.fst (off := 0) (Nat.le_of_ble_eq_true rfl) (Upd.full rfl (fun w G hG => by cases (show G = [] from hG); exact ⟨rfl, rfl⟩))) (fun w184 H => ⟨trivial, fun a S => ?_⟩)
        refine lx_nil ?_
        refine thenN ?_
        refine wp_seq ?_
        refine region_plain ?_
        refine lx_q v42 S trivial (by decide) (q_move rfl) (fun a S => ?_)
        refine lx_q (.int .i64 x101) S trivial (by decide) (q_move rfl) (fun a S => ?_)
        obtain ⟨x185, e186, hm⟩ := bind_some hm
        have hlt := lt_of_idx (idx_some e186).2
        refine lx_q (ePtr v42 (x101.toNat * 3)) S trivial (by decide) (q_indexAddr rfl (H.isSl 0 rfl) rfl (idx_some e186).1 hlt Try.underlying42 Try.sizeOf75) (fun a S => ?_)
        refine lx_q (pAdd (ePtr v42 (x101.toNat * 3)) 1) S trivial (by decide) (q_fieldAddr' 1 2 rfl (((H.isSl 0 rfl)).ptr (lt_of_idx (idx_some e186).2) _) Try.underlying75 rfl Try.sizeOf2) (fun a S => ?_)
        obtain ⟨c187, h188, hat189⟩ := (H.rdAt 0 rfl).elem (idx_some e186).2
        obtain ⟨c192, c193, rfl, h194, h195⟩ := h188
        obtain rfl := h194
        obtain ⟨c196, c197, rfl, h198, h199⟩ := h195
        obtain rfl := h198
        obtain ⟨v190, rfl, h191⟩ := rd_list h199
        refine lx_e (.int .i64 x185.2.1) S trivial (by decide) rfl trivial (q_load1 rfl Try.isAgg2 (by rintro _ rfl; exact (At.of_add (m := 1) (j := 0) (hat189 1 _ rfl)))) (fun a S => ?_)
        refine lx_q (.int .i64 (W (x185.2.1 + (1 : Int)))) S trivial (by decide) (q_add rfl rfl) (fun a S => ?_)
        obtain ⟨x200, e201, hm⟩ := bind_some hm
        have hlt := lt_of_idx (idx_some e201).2
        refine lx_q (ePtr v42 (x101.toNat * 3)) S trivial (by decide) (q_indexAddr rfl (H.isSl 0 rfl) rfl (idx_some e201).1 hlt Try.underlying42 Try.sizeOf75) (fun a S => ?_)
        refine lx_q (pAdd (ePtr v42 (x101.toNat * 3)) 1) S trivial (by decide) (q_fieldAddr' 1 2 rfl (((H.isSl 0 rfl)).ptr (lt_of_idx (idx_some e201).2) _) Try.underlying75 rfl Try.sizeOf2) (fun a S => ?_)
        refine lx_storeElem (r := Rimpl_Vertex) (us := [(.int .i64 (W (x185.2.1 + (1 : Int))))]) (off := 1) (e' := (x200.1, (W (x185.2.1 + (1 : Int))), x200.2.2)) S trivial rfl H.putE rfl rfl (idx_some e201).2 rfl Try.sizeOf2 (Nat.le_of_ble_eq_true rfl) (List.forall_mem_cons.2 ⟨rfl, (fun _ h => nomatch h)⟩) (Upd.snd (off := 0) (Upd.fst (off := 0) (Nat.le_of_ble_eq_true rfl) (Upd.full rfl (fun w G hG => by cases (show G = [] from hG); exact ⟨rfl, rfl⟩)))) (fun w202 H => ⟨trivial, fun a S => ?_⟩)
        refine lx_nil ?_
        refine thenN ?_
        refine wp_seq ?_
        refine region_plain ?_
        refine lx_q v42 S trivial (by decide) (q_move rfl) (fun a S => ?_)
        refine lx_q (.int .i64 x101) S trivial (by decide) (q_move rfl) (fun a S => ?_)
        obtain ⟨x203, e204, hm⟩ := bind_some hm
        have hlt := lt_of_idx (idx_some e204).2
        refine lx_q (ePtr v42 (x101.toNat * 3)) S trivial (by decide) (q_indexAddr rfl (H.isSl 0 rfl) rfl (idx_some e204).1 hlt Try.underlying42 Try.sizeOf75) (fun a S => ?_)
        refine lx_q (pAdd (ePtr v42 (x101.toNat * 3)) 1) S trivial (by decide) (q_fieldAddr' 1 2 rfl (((H.isSl 0 rfl)).ptr (lt_of_idx (idx_some e204).2) _) Try.underlying75 rfl Try.sizeOf2) (fun a S => ?_)
        obtain ⟨c205, h206, hat207⟩ := (H.rdAt 0 rfl).elem (idx_some e204).2
        obtain ⟨c210, c211, rfl, h212, h213⟩ := h206
        obtain rfl := h212
        obtain ⟨c214, c215, rfl, h216, h217⟩ := h213
        obtain rfl := h216
        obtain ⟨v208, rfl, h209⟩ := rd_list h217
        refine lx_e (.int .i64 x203.2.1) S trivial (by decide) rfl trivial (q_load1 rfl Try.isAgg2 (by rintro _ rfl; exact (At.of_add (m := 1) (j := 0) (hat207 1 _ rfl)))) (fun a S => ?_)
        refine lx_q (.bool (decide ((9 : Int) < x203.2.1))) S trivial (by decide) (q_gtr rfl rfl) (fun a S => ?_)
        refine lx_nil ?_
        refine thenN ?_
        refine cond_b S rfl (fun hc218 => ?_) (fun hc218 => ?_)
        · have hm := ite_t hc218 hm
          refine wp_seq ?_
          refine region_plain ?_
          refine lx_q (.slice none 0 0) S trivial (by decide) (q_assign rfl) (fun a S => ?_)
          refine lx_q (.int .i64 (5 : Int)) S trivial (by decide) (q_assign rfl) (fun a S => ?_)
          refine lx_nil ?_
          refine thenN ?_
          refine wp_ret ?_
          refine inBlock_ret ?_
          refine then_ret ?_
          refine then_ret ?_
          refine inBlock_ret ?_
          refine then_ret ?_
          refine then_ret ?_
          obtain rfl := it_brk hm hc165
          have hm := ctl_inr hk162
          obtain rfl := Option.some.inj hm
          have H : Heap w0 [oA (rList Rimpl_Vertex) (.slice none 0 0) ([] : List Timpl_Vertex), oA (rList Rimpl_Vertex) v42 ((xs100.set x101.toNat ((W ((1 : Int) - x167.1)), x182.2.1, x182.2.2)).set x101.toNat (x200.1, (W (x185.2.1 + (1 : Int))), x200.2.2))] w202 := H.nilList Rimpl_Vertex
          have H : Heap w0 [oA (rList Rimpl_Vertex) (.slice none 0 0) ([] : List Timpl_Vertex)] w202 := H.sel [0] (by decide)
          exact leave2 S rfl rfl rfl ⟨(.slice none 0 0), rfl, H⟩
        · have hm := ite_f hc218 hm
          refine wp_skip ?_
          refine inBlock_norm ?_
          refine thenN ?_
          refine region_plain ?_
          refine lx_q (.int .i64 x101) S trivial (by decide) (q_move rfl) (fun a S => ?_)
          refine lx_q (.int .i64 (W (x101 + (1 : Int)))) S trivial (by decide) (q_add rfl rfl) (fun a S => ?_)
          refine lx_q (.int .i64 (W (x101 + (1 : Int)))) S trivial (by decide) (q_assign rfl) (fun a S => ?_)
          refine lx_nil ?_
          exact ⟨m163, Nat.lt_succ_self _, ((xs100.set x101.toNat ((W ((1 : Int) - x167.1)), x182.2.1, x182.2.2)).set x101.toNat (x200.1, (W (x185.2.1 + (1 : Int))), x200.2.2)), (W (x101 + (1 : Int))), S.sub ⟨rfl, rfl, trivial⟩, H, it_cont hm hc165⟩
      · have hm := ite_f hc166 hm
        refine wp_exit ?_
        refine then_exit ?_
        refine then_exit ?_
        refine inBlock_exit ?_
        obtain rfl := it_brk hm hc165
        exact ⟨xs100, S.sub ⟨rfl, trivial⟩, H, rfl⟩

/-- impl.ValidGame$1 -/
def impl_ValidGame_1_m (fuel : Nat) (a0 : Timpl_Vertex) (a1 : (List Timpl_Vertex)) : Option (Bool) :=
  (impl_within_m fuel a0.1 (0 : Int) (1 : Int)).bind fun x53 => (if (!x53) = true then some true else (impl_within_m fuel a0.2.1 (0 : Int) (9 : Int)).bind fun x61 => some (!x61)).bind fun t56 => (if t56 = true then some true else (impl_increasing_m fuel a0.2.2 (a1.length : Int)).bind fun x69 => some (!x69)).bind fun t64 => some (t64)
set_option maxRecDepth 20000 in
theorem impl_ValidGame_1_ok {w0 : World} {fuel : Nat} {p0 p1 : Value} {a0 : Timpl_Vertex} {a1 : (List Timpl_Vertex)} {r : Bool} (h0 : Rd Rimpl_Vertex w0 p0 a0) (h1 : Rd (rPtr (rList Rimpl_Vertex)) w0 p1 a1) (hm : impl_ValidGame_1_m fuel a0 a1 = some r) :
    Calls Try.prog 74 #[p0, p1] w0 fun e w => e = .returned (.bool r) ∧ Heap w0 [] w := by
  unfold impl_ValidGame_1_m at hm
  have H := Heap.start w0
  obtain ⟨c31, rfl, h32⟩ := h0
  obtain ⟨c35, c36, rfl, h37, h38⟩ := h32
  obtain rfl := h37
  obtain ⟨c39, c40, rfl, h41, h42⟩ := h38
  obtain rfl := h41
  obtain ⟨v33, rfl, h34⟩ := rd_list h42
  obtain ⟨c43, h44, hat45⟩ := h1.ptr
  obtain ⟨v46, rfl, h47⟩ := rd_list h44
  refine enter (args := [(.agg #[(.int .i64 a0.1), (.int .i64 a0.2.1), v33]), p1]) Try.func74 rfl 22 rfl (Nat.le_of_ble_eq_true rfl) (fun a S => ?_)
  refine wp_seq ?_
  refine region_plain ?_
  refine lx_box S trivial (by decide) rfl H rfl rfl (fun b48 w49 H => ⟨trivial, fun a S => ?_⟩)
  refine lx_q (.bool false) S trivial (by decide) (q_assign rfl) (fun a S => ?_)
  refine lx_nil ?_
  refine thenN ?_
  refine wp_seq ?_
  refine region_plain ?_
  refine lx_q (pAdd (bp b48) 0) S trivial (by decide) (q_fieldAddr' 0 2 rfl (isP_bp _) Try.underlying75 rfl Try.sizeOf2) (fun a S => ?_)
  refine lx_e (.int .i64 a0.1) S trivial (by decide) rfl trivial (q_load1 rfl Try.isAgg2 (by rintro _ rfl; exact (At.of_add (m := 0) (j := 0) (boxAt (i := 0) H rfl (j := 0) rfl)))) (fun a S => ?_)
  obtain ⟨x53, e54, hm⟩ := bind_some hm
  refine lx_call (xs := [.tmp 5, .const (.int .i64 (0)), .const (.int .i64 (1))]) S trivial (by decide) rfl rfl Try.call40 ((impl_within_ok    e54).mono ?_)
  rintro e w51 ⟨rfl, Hc52⟩
  have he55 := Hc52.ext
  have H := H.call0 Hc52
  refine ⟨_, rfl, trivial, fun a S => ?_⟩
  refine lx_q (.bool (!x53)) S trivial (by decide) (q_not rfl) (fun a S => ?_)
  refine lx_q (.bool (!x53)) S trivial (by decide) (q_move rfl) (fun a S => ?_)
  obtain ⟨t56, e57, hm⟩ := bind_some hm
  refine lx_cut 5 (fun a w => Slots a 22 [(1, p1), (2, (bp b48)), (13, (.bool t56))] ∧ Heap w0 [bA b48 [(.int .i64 a0.1), (.int .i64 a0.2.1), v33] 75] w) ?_ ?_
  · by_cases hc58 : (!x53) = true
    · have hm := ite_t hc58 e57
      refine lx_skip S rfl rfl (isB_ne hc58) (by decide) (fun a S => ?_)
      refine lx_skip S rfl rfl (isB_ne hc58) (by decide) (fun a S => ?_)
      refine lx_skip S rfl rfl (isB_ne hc58) (by decide) (fun a S => ?_)
      refine lx_skip S rfl rfl (isB_ne hc58) (by decide) (fun a S => ?_)
      refine lx_q (.bool true) S trivial (by decide) (q_pickT' rfl hc58 rfl) (fun a S => ?_)
      refine lx_nil ?_
      obtain rfl := Option.some.inj hm
      exact ⟨S.sub ⟨rfl, rfl, rfl, trivial⟩, H⟩
    · have hm := ite_f (eq_false_of_ne_true hc58) e57
      have hc58 : (!x53) = false := eq_false_of_ne_true hc58
      refine lx_q (pAdd (bp b48) 1) S (want_b rfl rfl hc58) (by decide) (q_fieldAddr' 1 2 rfl (isP_bp _) Try.underlying75 rfl Try.sizeOf2) (fun a S => ?_)
      refine lx_e (.int .i64 a0.2.1) S (want_b rfl rfl hc58) (by decide) rfl trivial (q_load1 rfl Try.isAgg2 (by rintro _ rfl; exact (At.of_add (m := 1) (j := 0) (boxAt (i := 0) H rfl (j := 1) rfl)))) (fun a S => ?_)
      obtain ⟨x61, e62, hm⟩ := bind_some hm
      refine lx_call (xs := [.tmp 10, .const (.int .i64 (0)), .const (.int .i64 (9))]) S (want_b rfl rfl hc58) (by decide) rfl rfl Try.call40 ((impl_within_ok    e62).mono ?_)
      rintro e w59 ⟨rfl, Hc60⟩
      have he63 := Hc60.ext
      have H := H.call0 Hc60
      refine ⟨_, rfl, trivial, fun a S => ?_⟩
      refine lx_q (.bool (!x61)) S (want_b rfl rfl hc58) (by decide) (q_not rfl) (fun a S => ?_)
      refine lx_q (.bool (!x61)) S trivial (by decide) (q_pickF' rfl hc58 rfl) (fun a S => ?_)
      refine lx_nil ?_
      obtain rfl := Option.some.inj hm
      exact ⟨S.sub ⟨rfl, rfl, rfl, trivial⟩, H⟩
  · rintro a w ⟨S, H⟩
    refine lx_q (.bool t56) S trivial (by decide) (q_move rfl) (fun a S => ?_)
    obtain ⟨t64, e65, hm⟩ := bind_some hm
    refine lx_cut 7 (fun a w => Slots a 22 [(21, (.bool t64))] ∧ Heap w0 [] w) ?_ ?_
    · by_cases hc66 : t56 = true
      · have hm := ite_t hc66 e65
        refine lx_skip S rfl rfl (isB_ne hc66) (by decide) (fun a S => ?_)
        refine lx_skip S rfl rfl (isB_ne hc66) (by decide) (fun a S => ?_)
        refine lx_skip S rfl rfl (isB_ne hc66) (by decide) (fun a S => ?_)
        refine lx_skip S rfl rfl (isB_ne hc66) (by decide) (fun a S => ?_)
        refine lx_skip S rfl rfl (isB_ne hc66) (by decide) (fun a S => ?_)
        refine lx_skip S rfl rfl (isB_ne hc66) (by decide) (fun a S => ?_)
        refine lx_q (.bool true) S trivial (by decide) (q_pickT' rfl hc66 rfl) (fun a S => ?_)
        refine lx_nil ?_
        obtain rfl := Option.some.inj hm
        have H := H.sel [] (by decide)
        exact ⟨S.sub ⟨rfl, trivial⟩, H⟩
      · have hm := ite_f (eq_false_of_ne_true hc66) e65
        have hc66 : t56 = false := eq_false_of_ne_true hc66
        refine lx_q (pAdd (bp b48) 2) S (want_b rfl rfl hc66) (by decide) (q_fieldAddr' 2 29 rfl (isP_bp _) Try.underlying75 rfl Try.sizeOf29) (fun a S => ?_)
        refine lx_e v33 S (want_b rfl rfl hc66) (by decide) rfl trivial (q_load1 rfl Try.isAgg29 (by rintro _ rfl; exact (At.of_add (m := 2) (j := 0) (boxAt (i := 0) H rfl (j := 2) rfl)))) (fun a S => ?_)
        refine lx_e v46 S (want_b rfl rfl hc66) (by decide) rfl trivial (q_load1 rfl Try.isAgg42 (by rintro _ rfl; exact ((hat45 0 _ rfl).ext H.ext))) (fun a S => ?_)
        refine lx_q (.int .i64 (a1.length : Int)) S (want_b rfl rfl hc66) (by decide) (q_lenSl rfl (h47).isSl rfl Try.underlying42) (fun a S => ?_)
        obtain ⟨x69, e70, hm⟩ := bind_some hm
        refine lx_call (xs := [.tmp 16, .tmp 18]) S (want_b rfl rfl hc66) (by decide) rfl rfl Try.call44 ((impl_increasing_ok (H.arg h34)  e70).mono ?_)
        rintro e w67 ⟨rfl, Hc68⟩
        have he71 := Hc68.ext
        have H := H.call0 Hc68
        refine ⟨_, rfl, trivial, fun a S => ?_⟩
        refine lx_q (.bool (!x69)) S (want_b rfl rfl hc66) (by decide) (q_not rfl) (fun a S => ?_)
        refine lx_q (.bool (!x69)) S trivial (by decide) (q_pickF' rfl hc66 rfl) (fun a S => ?_)
        refine lx_nil ?_
        obtain rfl := Option.some.inj hm
        have H := H.sel [] (by decide)
        exact ⟨S.sub ⟨rfl, trivial⟩, H⟩
    · rintro a w ⟨S, H⟩
      refine lx_q (.bool t64) S trivial (by decide) (q_assign rfl) (fun a S => ?_)
      refine lx_nil ?_
      refine thenN ?_
      refine wp_ret ?_
      obtain rfl := Option.some.inj hm
      exact leave1 S rfl rfl ⟨rfl, H⟩

/-- slices.IndexFunc[[]impl.Vertex,impl.Vertex] -/
def slices_IndexFunc__impl_Vertex_impl_Vertex_m (fuel : Nat) (a0 : (List Timpl_Vertex)) (a1 : (Timpl_Vertex → Option Bool)) : Option (Int) :=
  (iter (fun (s : (Int)) => (match s with | (x56) => (if (decide (x56 < (a0.length : Int))) = true then (idx a0 x56).bind fun x91 => (a1 (x91.1, x91.2.1, x91.2.2)).bind fun x110 => (if x110 = true then some (.inr (.inr x56)) else some (.inl ((W (x56 + (1 : Int)))))) else some (.inr (.inl ()))) : Option (((Int)) ⊕ ((Unit) ⊕ (Int))))) fuel ((0 : Int))).bind fun res82 => ctl (β := Unit) (ρ := Int) (τ := Int) res82 (fun _ => some ((-1 : Int))) (fun q => some (q))
set_option maxRecDepth 20000 in
theorem slices_IndexFunc__impl_Vertex_impl_Vertex_ok {w0 : World} {fuel : Nat} {p0 : Value} {a0 : (List Timpl_Vertex)} {a1 : (Timpl_Vertex → Option Bool)} {f1 : Nat} {fs1 cp1 : List Value} {r : Int} (h0 : Rd (rList Rimpl_Vertex) w0 p0 a0) (hcf1 : ∀ args w, (callFunc f1 args).run Try.prog w = .ok (.enter f1 args) w) (hf1 : ∀ {w : World} {x0_ : Timpl_Vertex} {v0_ : Value} {y : Bool}, Ext w0 w → Rd Rimpl_Vertex w v0_ x0_ → a1 x0_ = some y → Calls Try.prog f1 (fs1 ++ ([v0_] : List Value) ++ cp1).toArray w fun e w' => e = .returned (.bool y) ∧ Heap w [] w') (hm : slices_IndexFunc__impl_Vertex_impl_Vertex_m fuel a0 a1 = some r) :
    Calls Try.prog 77 #[p0, .func (.func f1) fs1.toArray cp1.toArray] w0 fun e w => e = .returned (.int .i64 r) ∧ Heap w0 [] w := by
  unfold slices_IndexFunc__impl_Vertex_impl_Vertex_m at hm
  have H := Heap.start w0
  refine enter (args := [p0, .func (.func f1) fs1.toArray cp1.toArray]) Try.func77 rfl 19 rfl (Nat.le_of_ble_eq_true rfl) (fun a S => ?_)
  refine wp_seq ?_
  refine region_plain ?_
  refine lx_q (.int .i64 (0 : Int)) S trivial (by decide) (q_assign rfl) (fun a S => ?_)
  refine lx_nil ?_
  refine thenN ?_
  refine wp_seq ?_
  refine wp_seq ?_
  refine region_plain ?_
  refine lx_q p0 S trivial (by decide) (q_move rfl) (fun a S => ?_)
  refine lx_q (.int .i64 (a0.length : Int)) S trivial (by decide) (q_lenSl rfl (h0).isSl rfl Try.underlying42) (fun a S => ?_)
  refine lx_q (.int .i64 (0 : Int)) S trivial (by decide) (q_move rfl) (fun a S => ?_)
  refine lx_nil ?_
  refine thenN ?_
  obtain ⟨res82, hit83, hk86⟩ := bind_some hm
  obtain ⟨f84, hf85, hit83⟩ := iter_name hit83
  refine block_loop (fun a w => Slots a 19 [] ∧ Heap w0 [] w ∧ res82 = .inl ()) ?_ ?_
  · rintro a w ⟨S, H, rfl⟩
    have hm := ctl_inl hk86
    refine thenN ?_
    refine wp_seq ?_
    refine region_plain ?_
    refine lx_q (.int .i64 (-1 : Int)) S trivial (by decide) (q_assign rfl) (fun a S => ?_)
    refine lx_nil ?_
    refine thenN ?_
    refine wp_ret ?_
    obtain rfl := Option.some.inj hm
    exact leave1 S rfl rfl ⟨rfl, H⟩
  · skip
    refine loop_ghost (fun n a w => ∃ (x56 : Int), Slots a 19 [(0, p0), (1, (.func (.func f1) fs1.toArray cp1.toArray)), (7, (.int .i64 (a0.length : Int))), (8, (.int .i64 x56))] ∧ Heap w0 [] w ∧ iter f84 n (x56) = some res82) _ ⟨(0 : Int), S.sub ⟨rfl, rfl, rfl, rfl, trivial⟩, H, hit83⟩ ?_
    rintro n a w ⟨x56, S, H, hit83⟩
    obtain ⟨m87, o88, rfl, hm, hc89⟩ := iter_step hit83
    rw [hf85] at hm
    refine wp_seq ?_
    refine region_plain ?_
    refine lx_q (.bool (decide (x56 < (a0.length : Int)))) S trivial (by decide) (q_lss rfl rfl) (fun a S => ?_)
    refine lx_nil ?_
    refine thenN ?_
    refine wp_seq ?_
    refine cond_b S rfl (fun hc90 => ?_) (fun hc90 => ?_)
    · have hm := ite_t hc90 hm
      refine wp_skip ?_
      refine thenN ?_
      refine wp_seq ?_
      refine wp_block ?_
      refine wp_seq ?_
      refine region_plain ?_
      refine lx_q (.int .i64 x56) S trivial (by decide) (q_move rfl) (fun a S => ?_)
      refine lx_q (.int .i64 x56) S trivial (by decide) (q_assign rfl) (fun a S => ?_)
      refine lx_nil ?_
      refine thenN ?_
      refine wp_seq ?_
      refine region_plain ?_
      refine lx_q (.func (.func f1) fs1.toArray cp1.toArray) S trivial (by decide) (q_move rfl) (fun a S => ?_)
      refine lx_q p0 S trivial (by decide) (q_move rfl) (fun a S => ?_)
      refine lx_q (.int .i64 x56) S trivial (by decide) (q_move rfl) (fun a S => ?_)
      obtain ⟨x91, e92, hm⟩ := bind_some hm
      obtain ⟨c93, h94, hat95⟩ := (h0).elem (idx_some e92).2
      obtain ⟨c98, c99, rfl, h100, h101⟩ := h94
      obtain rfl := h100
      obtain ⟨c102, c103, rfl, h104, h105⟩ := h101
      obtain rfl := h104
      obtain ⟨v96, rfl, h97⟩ := rd_list h105
      have hlt := lt_of_idx (idx_some e92).2
      refine lx_q (ePtr p0 (x56.toNat * 3)) S trivial (by decide) (q_indexAddr rfl (h0).isSl rfl (idx_some e92).1 hlt Try.underlying42 Try.sizeOf75) (fun a S => ?_)
      refine lx_e (.agg #[(.int .i64 x91.1), (.int .i64 x91.2.1), v96]) S trivial (by decide) rfl trivial (q_loadA (cs := [(.int .i64 x91.1), (.int .i64 x91.2.1), v96]) rfl ((hat95 0 _ rfl).isP) Try.isAgg75 Try.sizeOf75 (by rintro _ rfl; exact (fun j u hu => (hat95 j u hu).ext H.ext))) (fun a S => ?_)
      obtain ⟨x110, e111, hm⟩ := bind_some hm
      refine lx_callV (f := f1) (first := fs1) (cap := cp1) (xs := [.tmp 15]) S trivial (by decide) rfl rfl rfl hcf1 ((hf1 H.ext ⟨[(.int .i64 x91.1), (.int .i64 x91.2.1), v96], rfl, ⟨[(.int .i64 x91.1)], [(.int .i64 x91.2.1), v96], rfl, rfl, ⟨[(.int .i64 x91.2.1)], [v96], rfl, rfl, ((H.arg h97)).list_rd⟩⟩⟩ e111).mono ?_)
      rintro e w108 ⟨rfl, Hc109⟩
      have he112 := Hc109.ext
      have H := H.call0 Hc109
      refine ⟨_, rfl, trivial, fun a S => ?_⟩
      refine lx_nil ?_
      refine thenN ?_
      refine cond_b S rfl (fun hc113 => ?_) (fun hc113 => ?_)
      · have hm := ite_t hc113 hm
        refine wp_seq ?_
        refine region_plain ?_
        refine lx_q (.int .i64 x56) S trivial (by decide) (q_move rfl) (fun a S => ?_)
        refine lx_q (.int .i64 x56) S trivial (by decide) (q_assign rfl) (fun a S => ?_)
        refine lx_nil ?_
        refine thenN ?_
        refine wp_ret ?_
        refine inBlock_ret ?_
        refine then_ret ?_
        refine then_ret ?_
        refine inBlock_ret ?_
        refine then_ret ?_
        refine then_ret ?_
        obtain rfl := it_brk hm hc89
        have hm := ctl_inr hk86
        obtain rfl := Option.some.inj hm
        exact leave1 S rfl rfl ⟨rfl, H⟩
      · have hm := ite_f hc113 hm
        refine wp_skip ?_
        refine inBlock_norm ?_
        refine thenN ?_
        refine region_plain ?_
        refine lx_q (.int .i64 (W (x56 + (1 : Int)))) S trivial (by decide) (q_add rfl rfl) (fun a S => ?_)
        refine lx_q (.int .i64 (W (x56 + (1 : Int)))) S trivial (by decide) (q_move rfl) (fun a S => ?_)
        refine lx_nil ?_
        exact ⟨m87, Nat.lt_succ_self _, (W (x56 + (1 : Int))), S.sub ⟨rfl, rfl, rfl, rfl, trivial⟩, H, it_cont hm hc89⟩
    · have hm := ite_f hc90 hm
      refine wp_exit ?_
      refine then_exit ?_
      refine then_exit ?_
      refine inBlock_exit ?_
      obtain rfl := it_brk hm hc89
      exact ⟨S.sub trivial, H, rfl⟩

/-- slices.ContainsFunc[[]impl.Vertex,impl.Vertex] -/
def slices_ContainsFunc__impl_Vertex_impl_Vertex_m (fuel : Nat) (a0 : (List Timpl_Vertex)) (a1 : (Timpl_Vertex → Option Bool)) : Option (Bool) :=
  (slices_IndexFunc__impl_Vertex_impl_Vertex_m fuel a0 a1).bind fun x33 => some ((decide ((0 : Int) ≤ x33)))
set_option maxRecDepth 20000 in
theorem slices_ContainsFunc__impl_Vertex_impl_Vertex_ok {w0 : World} {fuel : Nat} {p0 : Value} {a0 : (List Timpl_Vertex)} {a1 : (Timpl_Vertex → Option Bool)} {f1 : Nat} {fs1 cp1 : List Value} {r : Bool} (h0 : Rd (rList Rimpl_Vertex) w0 p0 a0) (hcf1 : ∀ args w, (callFunc f1 args).run Try.prog w = .ok (.enter f1 args) w) (hf1 : ∀ {w : World} {x0_ : Timpl_Vertex} {v0_ : Value} {y : Bool}, Ext w0 w → Rd Rimpl_Vertex w v0_ x0_ → a1 x0_ = some y → Calls Try.prog f1 (fs1 ++ ([v0_] : List Value) ++ cp1).toArray w fun e w' => e = .returned (.bool y) ∧ Heap w [] w') (hm : slices_ContainsFunc__impl_Vertex_impl_Vertex_m fuel a0 a1 = some r) :
    Calls Try.prog 73 #[p0, .func (.func f1) fs1.toArray cp1.toArray] w0 fun e w => e = .returned (.bool r) ∧ Heap w0 [] w := by
  unfold slices_ContainsFunc__impl_Vertex_impl_Vertex_m at hm
  have H := Heap.start w0
  refine enter (args := [p0, .func (.func f1) fs1.toArray cp1.toArray]) Try.func73 rfl 9 rfl (Nat.le_of_ble_eq_true rfl) (fun a S => ?_)
  refine wp_seq ?_
  refine region_plain ?_
  refine lx_q (.bool false) S trivial (by decide) (q_assign rfl) (fun a S => ?_)
  refine lx_nil ?_
  refine thenN ?_
  refine wp_seq ?_
  refine region_plain ?_
  refine lx_q p0 S trivial (by decide) (q_move rfl) (fun a S => ?_)
  refine lx_q (.func (.func f1) fs1.toArray cp1.toArray) S trivial (by decide) (q_move rfl) (fun a S => ?_)
  obtain ⟨x33, e34, hm⟩ := bind_some hm
  refine lx_call (xs := [.tmp 5, .tmp 6]) S trivial (by decide) rfl rfl Try.call77 ((slices_IndexFunc__impl_Vertex_impl_Vertex_ok (f1 := f1) (fs1 := fs1) (cp1 := cp1) (a1 := a1) (H.arg h0) hcf1 (fun he h0_ hm => hf1 (H.ext.trans he) h0_ hm) e34).mono ?_)
  rintro e w31 ⟨rfl, Hc32⟩
  have he35 := Hc32.ext
  have H := H.call0 Hc32
  refine ⟨_, rfl, trivial, fun a S => ?_⟩
  refine lx_q (.bool (decide ((0 : Int) ≤ x33))) S trivial (by decide) (q_geq rfl rfl) (fun a S => ?_)
  refine lx_q (.bool (decide ((0 : Int) ≤ x33))) S trivial (by decide) (q_assign rfl) (fun a S => ?_)
  refine lx_nil ?_
  refine thenN ?_
  refine wp_ret ?_
  obtain rfl := Option.some.inj hm
  exact leave1 S rfl rfl ⟨rfl, H⟩

/-- impl.ValidGame -/
def impl_ValidGame_m (fuel : Nat) (a0 : (List Timpl_Vertex)) : Option (Bool) :=
  (impl_within_m fuel (a0.length : Int) (1 : Int) (120 : Int)).bind fun x36 => (if (!x36) = true then some (false) else (slices_ContainsFunc__impl_Vertex_impl_Vertex_m fuel a0 (fun (z0 : Timpl_Vertex) => impl_ValidGame_1_m fuel z0 a0)).bind fun x42 => some ((!x42)))
set_option maxRecDepth 20000 in
theorem impl_ValidGame_ok {w0 : World} {fuel : Nat} {p0 : Value} {a0 : (List Timpl_Vertex)} {r : Bool} (h0 : Rd (rList Rimpl_Vertex) w0 p0 a0) (hm : impl_ValidGame_m fuel a0 = some r) :
    Calls Try.prog 55 #[p0] w0 fun e w => e = .returned (.bool r) ∧ Heap w0 [] w := by
  unfold impl_ValidGame_m at hm
  have H := Heap.start w0
  refine enter (args := [p0]) Try.func55 rfl 11 rfl (Nat.le_of_ble_eq_true rfl) (fun a S => ?_)
  refine wp_seq ?_
  refine region_plain ?_
  refine lx_box S trivial (by decide) rfl H rfl (cells_sl (h0).isSl) (fun b31 w32 H => ⟨trivial, fun a S => ?_⟩)
  refine lx_q (.bool false) S trivial (by decide) (q_assign rfl) (fun a S => ?_)
  refine lx_nil ?_
  refine thenN ?_
  refine wp_seq ?_
  refine wp_seq ?_
  refine region_plain ?_
  refine lx_e p0 S trivial (by decide) rfl trivial (q_load1 rfl Try.isAgg42 (by rintro _ rfl; exact (boxAt (i := 0) H rfl (j := 0) rfl))) (fun a S => ?_)
  refine lx_q (.int .i64 (a0.length : Int)) S trivial (by decide) (q_lenSl rfl (h0).isSl rfl Try.underlying42) (fun a S => ?_)
  obtain ⟨x36, e37, hm⟩ := bind_some hm
  refine lx_call (xs := [.tmp 4, .const (.int .i64 (1)), .const (.int .i64 (120))]) S trivial (by decide) rfl rfl Try.call40 ((impl_within_ok    e37).mono ?_)
  rintro e w34 ⟨rfl, Hc35⟩
  have he38 := Hc35.ext
  have H := H.call0 Hc35
  refine ⟨_, rfl, trivial, fun a S => ?_⟩
  refine lx_q (.bool (!x36)) S trivial (by decide) (q_not rfl) (fun a S => ?_)
  refine lx_nil ?_
  refine thenN ?_
  refine cond_b S rfl (fun hc39 => ?_) (fun hc39 => ?_)
  · have hm := ite_t hc39 hm
    refine wp_seq ?_
    refine region_plain ?_
    refine lx_q (.bool false) S trivial (by decide) (q_assign rfl) (fun a S => ?_)
    refine lx_nil ?_
    refine thenN ?_
    refine wp_ret ?_
    refine then_ret ?_
    obtain rfl := Option.some.inj hm
    have H : Heap w0 [] w34 := H.sel [] (by decide)
    exact leave1 S rfl rfl ⟨rfl, H⟩
  · have hm := ite_f hc39 hm
    refine wp_skip ?_
    refine thenN ?_
    refine wp_seq ?_
    refine region_plain ?_
    refine lx_e p0 S trivial (by decide) rfl trivial (q_load1 rfl Try.isAgg42 (by rintro _ rfl; exact (boxAt (i := 0) H rfl (j := 0) rfl))) (fun a S => ?_)
    refine lx_q (.func (.func 74) #[] #[(bp b31)]) S trivial (by decide) (q_makeFunc (xs := []) (ys := [.tmp 1]) rfl rfl) (fun a S => ?_)
    obtain ⟨x42, e43, hm⟩ := bind_some hm
    have hcap44 : Rd (rPtr (rList Rimpl_Vertex)) w34 (bp b31) a0 := (rdPtr_box H 0 rfl ((H.arg h0)).list_rd)
    refine lx_call (xs := [.tmp 7, .tmp 8]) S trivial (by decide) rfl rfl Try.call73 ((slices_ContainsFunc__impl_Vertex_impl_Vertex_ok (f1 := 74) (fs1 := ([] : List Value)) (cp1 := ([(bp b31)] : List Value)) (a1 := (fun (z0 : Timpl_Vertex) => impl_ValidGame_1_m fuel z0 a0)) (H.arg h0) Try.call74 (fun he h0_ hm => impl_ValidGame_1_ok h0_ (hcap44.ext he) hm) e43).mono ?_)
    rintro e w40 ⟨rfl, Hc41⟩
    have he45 := Hc41.ext
    have H := H.call0 Hc41
    refine ⟨_, rfl, trivial, fun a S => ?_⟩
    refine lx_q (.bool (!x42)) S trivial (by decide) (q_not rfl) (fun a S => ?_)
    refine lx_q (.bool (!x42)) S trivial (by decide) (q_assign rfl) (fun a S => ?_)
    refine lx_nil ?_
    refine thenN ?_
    refine wp_ret ?_
    obtain rfl := Option.some.inj hm
    have H : Heap w0 [] w40 := H.sel [] (by decide)
    exact leave1 S rfl rfl ⟨rfl, H⟩

/-- slices.Clone[[]int64,int64] -/
def slices_Clone__int64_int64_m (fuel : Nat) (a0 : (List Int)) : Option ((List Int)) :=
  (app ([] : List Int) a0).bind fun x38 => some (x38)
set_option maxRecDepth 20000 in
theorem slices_Clone__int64_int64_ok {w0 : World} {fuel : Nat} {p0 : Value} {a0 : (List Int)} {r : (List Int)} (h0 : Rd (rList (rInt .i64)) w0 p0 a0) (hm : slices_Clone__int64_int64_m fuel a0 = some r) :
    Calls Try.prog 59 #[p0] w0 fun e w => ∃ (v0 : Value), e = .returned (v0) ∧ Heap w0 [oA (rList (rInt .i64)) v0 r] w := by
  unfold slices_Clone__int64_int64_m at hm
  have H := Heap.start w0
  refine enter (args := [p0]) Try.func59 rfl 8 rfl (Nat.le_of_ble_eq_true rfl) (fun a S => ?_)
  refine wp_seq ?_
  refine region_plain ?_
  refine lx_q (.slice none 0 0) S trivial (by decide) (q_assign rfl) (fun a S => ?_)
  refine lx_nil ?_
  refine thenN ?_
  refine wp_seq ?_
  refine wp_seq ?_
  refine region_plain ?_
  refine lx_q p0 S trivial (by decide) (q_move rfl) (fun a S => ?_)
  obtain ⟨bn31, hqn, hb32⟩ := ((H.arg h0)).isNil (P := Try.prog) Try.underlying29
  refine lx_q (.bool bn31) S trivial (by decide) (hqn rfl rfl) (fun a S => ?_)
  refine lx_nil ?_
  refine thenN ?_
  refine cond_b S rfl (fun hc33 => ?_) (fun hc33 => ?_)
  · obtain rfl := hb32 hc33
    replace hm : some [] = some r := by simpa [app] using hm
    refine wp_seq ?_
    refine region_plain ?_
    refine lx_q (.slice none 0 0) S trivial (by decide) (q_assign rfl) (fun a S => ?_)
    refine lx_nil ?_
    refine thenN ?_
    refine wp_ret ?_
    refine then_ret ?_
    obtain rfl := Option.some.inj hm
    have H : Heap w0 [oA (rList (rInt .i64)) (.slice none 0 0) ([] : List Int)] w0 := H.nilList (rInt .i64)
    exact leave1 S rfl rfl ⟨(.slice none 0 0), rfl, H⟩
  · skip
    refine wp_skip ?_
    refine thenN ?_
    refine wp_seq ?_
    refine region_plain ?_
    refine lx_buildSlice0 (r := (rInt .i64)) S trivial (by decide) rfl H Try.underlying29 Try.sizeOf2 (fun v35 w36 H => ⟨trivial, fun a S => ?_⟩)
    refine lx_q p0 S trivial (by decide) (q_move rfl) (fun a S => ?_)
    obtain ⟨x38, e39, hm⟩ := bind_some hm
    obtain ⟨hle, hap⟩ := app_some e39
    replace hap := hap.symm
    subst hap
    refine lx_appendRd (r := (rInt .i64)) S trivial (by decide) rfl H (flat_int _) (H.arg h0) rfl rfl Try.underlying29 Try.ti2 rfl rfl rfl (by decide) (by decide) hle (fun v40 w41 H => ⟨trivial, fun a S => ?_⟩)
    refine lx_q v40 S trivial (by decide) (q_assign rfl) (fun a S => ?_)
    refine lx_nil ?_
    refine thenN ?_
    refine wp_ret ?_
    obtain rfl := Option.some.inj hm
    exact leave1 S rfl rfl ⟨v40, rfl, H⟩

/-- laws.eqVertex -/
def laws_eqVertex_m (fuel : Nat) (a0 : Timpl_Vertex) (a1 : Timpl_Vertex) : Option (Bool) :=
  (if (a0.1 != a1.1) = true then some (false) else (if (a0.2.1 != a1.2.1) = true then some (false) else (laws_eqInt64S_m fuel a0.2.2 a1.2.2).bind fun x65 => (if (!x65) = true then some (false) else some (true))))
set_option maxRecDepth 20000 in
theorem laws_eqVertex_ok {w0 : World} {fuel : Nat} {p0 p1 : Value} {a0 : Timpl_Vertex} {a1 : Timpl_Vertex} {r : Bool} (h0 : Rd Rimpl_Vertex w0 p0 a0) (h1 : Rd Rimpl_Vertex w0 p1 a1) (hm : laws_eqVertex_m fuel a0 a1 = some r) :
    Calls Try.prog 57 #[p0, p1] w0 fun e w => e = .returned (.bool r) ∧ Heap w0 [] w := by
  unfold laws_eqVertex_m at hm
  have H := Heap.start w0
  obtain ⟨c31, rfl, h32⟩ := h0
  obtain ⟨c35, c36, rfl, h37, h38⟩ := h32
  obtain rfl := h37
  obtain ⟨c39, c40, rfl, h41, h42⟩ := h38
  obtain rfl := h41
  obtain ⟨v33, rfl, h34⟩ := rd_list h42
  obtain ⟨c43, rfl, h44⟩ := h1
  obtain ⟨c47, c48, rfl, h49, h50⟩ := h44
  obtain rfl := h49
  obtain ⟨c51, c52, rfl, h53, h54⟩ := h50
  obtain rfl := h53
  obtain ⟨v45, rfl, h46⟩ := rd_list h54
  refine enter (args := [(.agg #[(.int .i64 a0.1), (.int .i64 a0.2.1), v33]), (.agg #[(.int .i64 a1.1), (.int .i64 a1.2.1), v45])]) Try.func57 rfl 21 rfl (Nat.le_of_ble_eq_true rfl) (fun a S => ?_)
  refine wp_seq ?_
  refine region_plain ?_
  refine lx_box S trivial (by decide) rfl H rfl rfl (fun b55 w56 H => ⟨trivial, fun a S => ?_⟩)
  refine lx_box S trivial (by decide) rfl H rfl rfl (fun b58 w59 H => ⟨trivial, fun a S => ?_⟩)
  refine lx_q (.bool false) S trivial (by decide) (q_assign rfl) (fun a S => ?_)
  refine lx_nil ?_
  refine thenN ?_
  refine wp_seq ?_
  refine wp_seq ?_
  refine region_plain ?_
  refine lx_q (pAdd (bp b55) 0) S trivial (by decide) (q_fieldAddr' 0 2 rfl (isP_bp _) Try.underlying75 rfl Try.sizeOf2) (fun a S => ?_)
  refine lx_e (.int .i64 a0.1) S trivial (by decide) rfl trivial (q_load1 rfl Try.isAgg2 (by rintro _ rfl; exact (At.of_add (m := 0) (j := 0) (boxAt (i := 1) H rfl (j := 0) rfl)))) (fun a S => ?_)
  refine lx_q (pAdd (bp b58) 0) S trivial (by decide) (q_fieldAddr' 0 2 rfl (isP_bp _) Try.underlying75 rfl Try.sizeOf2) (fun a S => ?_)
  refine lx_e (.int .i64 a1.1) S trivial (by decide) rfl trivial (q_load1 rfl Try.isAgg2 (by rintro _ rfl; exact (At.of_add (m := 0) (j := 0) (boxAt (i := 0) H rfl (j := 0) rfl)))) (fun a S => ?_)
  refine lx_q (.bool (a0.1 != a1.1)) S trivial (by decide) (q_neq rfl rfl) (fun a S => ?_)
  refine lx_nil ?_
  refine thenN ?_
  refine cond_b S rfl (fun hc61 => ?_) (fun hc61 => ?_)
  · have hm := ite_t hc61 hm
    refine wp_seq ?_
    refine region_plain ?_
    refine lx_q (.bool false) S trivial (by decide) (q_assign rfl) (fun a S => ?_)
    refine lx_nil ?_
    refine thenN ?_
    refine wp_ret ?_
    refine then_ret ?_
    obtain rfl := Option.some.inj hm
    have H : Heap w0 [] w59 := H.sel [] (by decide)
    exact leave1 S rfl rfl ⟨rfl, H⟩
  · have hm := ite_f hc61 hm
    refine wp_skip ?_
    refine thenN ?_
    refine wp_seq ?_
    refine wp_seq ?_
    refine region_plain ?_
    refine lx_q (pAdd (bp b55) 1) S trivial (by decide) (q_fieldAddr' 1 2 rfl (isP_bp _) Try.underlying75 rfl Try.sizeOf2) (fun a S => ?_)
    refine lx_e (.int .i64 a0.2.1) S trivial (by decide) rfl trivial (q_load1 rfl Try.isAgg2 (by rintro _ rfl; exact (At.of_add (m := 1) (j := 0) (boxAt (i := 1) H rfl (j := 1) rfl)))) (fun a S => ?_)
    refine lx_q (pAdd (bp b58) 1) S trivial (by decide) (q_fieldAddr' 1 2 rfl (isP_bp _) Try.underlying75 rfl Try.sizeOf2) (fun a S => ?_)
    refine lx_e (.int .i64 a1.2.1) S trivial (by decide) rfl trivial (q_load1 rfl Try.isAgg2 (by rintro _ rfl; exact (At.of_add (m := 1) (j := 0) (boxAt (i := 0) H rfl (j := 1) rfl)))) (fun a S => ?_)
    refine lx_q (.bool (a0.2.1 != a1.2.1)) S trivial (by decide) (q_neq rfl rfl) (fun a S => ?_)
    refine lx_nil ?_
    refine thenN ?_
    refine cond_b S rfl (fun hc62 => ?_) (fun hc62 => ?_)
    · have hm := ite_t hc62 hm
      refine wp_seq ?_
      refine region_plain ?_
      refine lx_q (.bool false) S trivial (by decide) (q_assign rfl) (fun a S => ?_)
      refine lx_nil ?_
      refine thenN ?_
      refine wp_ret ?_
      refine then_ret ?_
      obtain rfl := Option.some.inj hm
      have H : Heap w0 [] w59 := H.sel [] (by decide)
      exact leave1 S rfl rfl ⟨rfl, H⟩
    · have hm := ite_f hc62 hm
      refine wp_skip ?_
      refine thenN ?_
      refine wp_seq ?_
      refine wp_seq ?_
      refine region_plain ?_
      refine lx_q (pAdd (bp b55) 2) S trivial (by decide) (q_fieldAddr' 2 29 rfl (isP_bp _) Try.underlying75 rfl Try.sizeOf29) (fun a S => ?_)
      refine lx_e v33 S trivial (by decide) rfl trivial (q_load1 rfl Try.isAgg29 (by rintro _ rfl; exact (At.of_add (m := 2) (j := 0) (boxAt (i := 1) H rfl (j := 2) rfl)))) (fun a S => ?_)
      refine lx_q (pAdd (bp b58) 2) S trivial (by decide) (q_fieldAddr' 2 29 rfl (isP_bp _) Try.underlying75 rfl Try.sizeOf29) (fun a S => ?_)
      refine lx_e v45 S trivial (by decide) rfl trivial (q_load1 rfl Try.isAgg29 (by rintro _ rfl; exact (At.of_add (m := 2) (j := 0) (boxAt (i := 0) H rfl (j := 2) rfl)))) (fun a S => ?_)
      obtain ⟨x65, e66, hm⟩ := bind_some hm
      refine lx_call (xs := [.tmp 16, .tmp 18]) S trivial (by decide) rfl rfl Try.call16 ((laws_eqInt64S_ok (H.arg h34) (H.arg h46) e66).mono ?_)
      rintro e w63 ⟨rfl, Hc64⟩
      have he67 := Hc64.ext
      have H := H.call0 Hc64
      refine ⟨_, rfl, trivial, fun a S => ?_⟩
      refine lx_q (.bool (!x65)) S trivial (by decide) (q_not rfl) (fun a S => ?_)
      refine lx_nil ?_
      refine thenN ?_
      refine cond_b S rfl (fun hc68 => ?_) (fun hc68 => ?_)
      · have hm := ite_t hc68 hm
        refine wp_seq ?_
        refine region_plain ?_
        refine lx_q (.bool false) S trivial (by decide) (q_assign rfl) (fun a S => ?_)
        refine lx_nil ?_
        refine thenN ?_
        refine wp_ret ?_
        refine then_ret ?_
        obtain rfl := Option.some.inj hm
        have H : Heap w0 [] w63 := H.sel [] (by decide)
        exact leave1 S rfl rfl ⟨rfl, H⟩
      · have hm := ite_f hc68 hm
        refine wp_skip ?_
        refine thenN ?_
        refine wp_seq ?_
        refine region_plain ?_
        refine lx_q (.bool true) S trivial (by decide) (q_assign rfl) (fun a S => ?_)
        refine lx_nil ?_
        refine thenN ?_
        refine wp_ret ?_
        obtain rfl := Option.some.inj hm
        have H : Heap w0 [] w63 := H.sel [] (by decide)
        exact leave1 S rfl rfl ⟨rfl, H⟩

/-- laws.eqVertexS -/
def laws_eqVertexS_m (fuel : Nat) (a0 : (List Timpl_Vertex)) (a1 : (List Timpl_Vertex)) : Option (Bool) :=
  (if ((a0.length : Int) != (a1.length : Int)) = true then some (false) else (iter (fun (s : (Int)) => (match s with | (x72) => (if (decide (x72 < (a0.length : Int))) = true then (idx a0 x72).bind fun x124 => (idx a1 x72).bind fun x139 => (laws_eqVertex_m fuel (x124.1, x124.2.1, x124.2.2) (x139.1, x139.2.1, x139.2.2)).bind fun x156 => (if (!x156) = true then some (.inr (.inr false)) else some (.inl ((W (x72 + (1 : Int)))))) else some (.inr (.inl ()))) : Option (((Int)) ⊕ ((Unit) ⊕ (Bool))))) fuel ((0 : Int))).bind fun res113 => ctl (β := Unit) (ρ := Bool) (τ := Bool) res113 (fun _ => some (true)) (fun q => some (q)))
set_option maxRecDepth 20000 in
theorem laws_eqVertexS_ok {w0 : World} {fuel : Nat} {p0 p1 : Value} {a0 : (List Timpl_Vertex)} {a1 : (List Timpl_Vertex)} {r : Bool} (h0 : Rd (rList Rimpl_Vertex) w0 p0 a0) (h1 : Rd (rList Rimpl_Vertex) w0 p1 a1) (hm : laws_eqVertexS_m fuel a0 a1 = some r) :
    Calls Try.prog 28 #[p0, p1] w0 fun e w => e = .returned (.bool r) ∧ Heap w0 [] w := by
  unfold laws_eqVertexS_m at hm
  have H := Heap.start w0
  refine enter (args := [p0, p1]) Try.func28 rfl 27 rfl (Nat.le_of_ble_eq_true rfl) (fun a S => ?_)
  refine wp_seq ?_
  refine region_plain ?_
  refine lx_q (.bool false) S trivial (by decide) (q_assign rfl) (fun a S => ?_)
  refine lx_nil ?_
  refine thenN ?_
  refine wp_seq ?_
  refine wp_seq ?_
  refine region_plain ?_
  refine lx_q p0 S trivial (by decide) (q_move rfl) (fun a S => ?_)
  refine lx_q (.int .i64 (a0.length : Int)) S trivial (by decide) (q_lenSl rfl (h0).isSl rfl Try.underlying42) (fun a S => ?_)
  refine lx_q p1 S trivial (by decide) (q_move rfl) (fun a S => ?_)
  refine lx_q (.int .i64 (a1.length : Int)) S trivial (by decide) (q_lenSl rfl (h1).isSl rfl Try.underlying42) (fun a S => ?_)
  refine lx_q (.bool ((a0.length : Int) != (a1.length : Int))) S trivial (by decide) (q_neq rfl rfl) (fun a S => ?_)
  refine lx_nil ?_
  refine thenN ?_
  refine cond_b S rfl (fun hc31 => ?_) (fun hc31 => ?_)
  · have hm := ite_t hc31 hm
    refine wp_seq ?_
    refine region_plain ?_
    refine lx_q (.bool false) S trivial (by decide) (q_assign rfl) (fun a S => ?_)
    refine lx_nil ?_
    refine thenN ?_
    refine wp_ret ?_
    refine then_ret ?_
    obtain rfl := Option.some.inj hm
    exact leave1 S rfl rfl ⟨rfl, H⟩
  · have hm := ite_f hc31 hm
    refine wp_skip ?_
    refine thenN ?_
    refine wp_seq ?_
    refine wp_seq ?_
    refine region_plain ?_
    refine lx_q (.int .i64 (0 : Int)) S trivial (by decide) (q_assign rfl) (fun a S => ?_)
    refine lx_nil ?_
    refine thenN ?_
    obtain ⟨res113, hit114, hk117⟩ := bind_some hm
    obtain ⟨f115, hf116, hit114⟩ := iter_name hit114
    refine block_loop (fun a w => Slots a 27 [] ∧ Heap w0 [] w ∧ res113 = .inl ()) ?_ ?_
    · rintro a w ⟨S, H, rfl⟩
      have hm := ctl_inl hk117
      refine thenN ?_
      refine wp_seq ?_
      refine region_plain ?_
      refine lx_q (.bool true) S trivial (by decide) (q_assign rfl) (fun a S => ?_)
      refine lx_nil ?_
      refine thenN ?_
      refine wp_ret ?_
      obtain rfl := Option.some.inj hm
      exact leave1 S rfl rfl ⟨rfl, H⟩
    · skip
      refine loop_ghost (fun n a w => ∃ (x72 : Int), Slots a 27 [(0, p0), (1, p1), (5, (.int .i64 x72))] ∧ Heap w0 [] w ∧ iter f115 n (x72) = some res113) _ ⟨(0 : Int), S.sub ⟨rfl, rfl, rfl, trivial⟩, H, hit114⟩ ?_
      rintro n a w ⟨x72, S, H, hit114⟩
      obtain ⟨m118, o119, rfl, hm, hc120⟩ := iter_step hit114
      rw [hf116] at hm
      refine wp_seq ?_
      refine wp_seq ?_
      refine region_plain ?_
      refine lx_q (.int .i64 x72) S trivial (by decide) (q_move rfl) (fun a S => ?_)
      refine lx_q p0 S trivial (by decide) (q_move rfl) (fun a S => ?_)
      refine lx_q (.int .i64 (a0.length : Int)) S trivial (by decide) (q_lenSl rfl (h0).isSl rfl Try.underlying42) (fun a S => ?_)
      refine lx_q (.bool (decide (x72 < (a0.length : Int)))) S trivial (by decide) (q_lss rfl rfl) (fun a S => ?_)
      refine lx_nil ?_
      refine thenN ?_
      refine cond_b S rfl (fun hc121 => ?_) (fun hc121 => ?_)
      · have hm := ite_t hc121 hm
        refine wp_skip ?_
        refine thenN ?_
        refine wp_seq ?_
        refine wp_block ?_
        refine wp_seq ?_
        refine region_drawG (fun w1 => Heap w0 [] w1) (fun i => [8].contains i) mixed (by kernel_rfl) (fun w123 he122 => ?_)
        have H := H.later he122
        refine ⟨H.sel [] (by decide), ?_⟩
        refine lx_q p0 S trivial (by decide) (q_move rfl) (fun a S => ?_)
        refine lx_q (.int .i64 x72) S trivial (by decide) (q_move rfl) (fun a S => ?_)
        obtain ⟨x124, e125, hm⟩ := bind_some hm
        obtain ⟨c126, h127, hat128⟩ := (h0).elem (idx_some e125).2
        obtain ⟨c131, c132, rfl, h133, h134⟩ := h127
        obtain rfl := h133
        obtain ⟨c135, c136, rfl, h137, h138⟩ := h134
        obtain rfl := h137
        obtain ⟨v129, rfl, h130⟩ := rd_list h138
        have hlt := lt_of_idx (idx_some e125).2
        refine lx_q (ePtr p0 (x72.toNat * 3)) S trivial (by decide) (q_indexAddr rfl (h0).isSl rfl (idx_some e125).1 hlt Try.underlying42 Try.sizeOf75) (fun a S => ?_)
        refine lx_q (.agg #[(.int .i64 x124.1), (.int .i64 x124.2.1), v129]) S trivial (by decide) (q_loadA (cs := [(.int .i64 x124.1), (.int .i64 x124.2.1), v129]) rfl ((hat128 0 _ rfl).isP) Try.isAgg75 Try.sizeOf75 (fun w1 hC => (fun j u hu => (hat128 j u hu).ext hC.ext))) (fun a S => ?_)
        refine lx_q p1 S trivial (by decide) (q_move rfl) (fun a S => ?_)
        refine lx_q (.int .i64 x72) S trivial (by decide) (q_move rfl) (fun a S => ?_)
        obtain ⟨x139, e140, hm⟩ := bind_some hm
        obtain ⟨c141, h142, hat143⟩ := (h1).elem (idx_some e140).2
        obtain ⟨c146, c147, rfl, h148, h149⟩ := h142
        obtain rfl := h148
        obtain ⟨c150, c151, rfl, h152, h153⟩ := h149
        obtain rfl := h152
        obtain ⟨v144, rfl, h145⟩ := rd_list h153
        have hlt := lt_of_idx (idx_some e140).2
        refine lx_q (ePtr p1 (x72.toNat * 3)) S trivial (by decide) (q_indexAddr rfl (h1).isSl rfl (idx_some e140).1 hlt Try.underlying42 Try.sizeOf75) (fun a S => ?_)
        refine lx_q (.agg #[(.int .i64 x139.1), (.int .i64 x139.2.1), v144]) S trivial (by decide) (q_loadA (cs := [(.int .i64 x139.1), (.int .i64 x139.2.1), v144]) rfl ((hat143 0 _ rfl).isP) Try.isAgg75 Try.sizeOf75 (fun w1 hC => (fun j u hu => (hat143 j u hu).ext hC.ext))) (fun a S => ?_)
        obtain ⟨x156, e157, hm⟩ := bind_some hm
        refine lx_call (xs := [.tmp 20, .tmp 24]) S trivial (by decide) rfl rfl Try.call57 ((laws_eqVertex_ok ⟨[(.int .i64 x124.1), (.int .i64 x124.2.1), v129], rfl, ⟨[(.int .i64 x124.1)], [(.int .i64 x124.2.1), v129], rfl, rfl, ⟨[(.int .i64 x124.2.1)], [v129], rfl, rfl, ((H.arg h130)).list_rd⟩⟩⟩ ⟨[(.int .i64 x139.1), (.int .i64 x139.2.1), v144], rfl, ⟨[(.int .i64 x139.1)], [(.int .i64 x139.2.1), v144], rfl, rfl, ⟨[(.int .i64 x139.2.1)], [v144], rfl, rfl, ((H.arg h145)).list_rd⟩⟩⟩ e157).mono ?_)
        rintro e w154 ⟨rfl, Hc155⟩
        have he158 := Hc155.ext
        have H := H.call0 Hc155
        refine ⟨_, rfl, H.sel [] (by decide), fun a S => ?_⟩
        refine lx_q (.bool (!x156)) S trivial (by decide) (q_not rfl) (fun a S => ?_)
        refine lx_nil ?_
        refine thenN ?_
        refine cond_b S rfl (fun hc159 => ?_) (fun hc159 => ?_)
        · have hm := ite_t hc159 hm
          refine wp_seq ?_
          refine region_plain ?_
          refine lx_q (.bool false) S trivial (by decide) (q_assign rfl) (fun a S => ?_)
          refine lx_nil ?_
          refine thenN ?_
          refine wp_ret ?_
          refine inBlock_ret ?_
          refine then_ret ?_
          refine then_ret ?_
          refine inBlock_ret ?_
          refine then_ret ?_
          refine then_ret ?_
          obtain rfl := it_brk hm hc120
          have hm := ctl_inr hk117
          obtain rfl := Option.some.inj hm
          exact leave1 S rfl rfl ⟨rfl, H⟩
        · have hm := ite_f hc159 hm
          refine wp_skip ?_
          refine inBlock_norm ?_
          refine thenN ?_
          refine region_plain ?_
          refine lx_q (.int .i64 x72) S trivial (by decide) (q_move rfl) (fun a S => ?_)
          refine lx_q (.int .i64 (W (x72 + (1 : Int)))) S trivial (by decide) (q_add rfl rfl) (fun a S => ?_)
          refine lx_q (.int .i64 (W (x72 + (1 : Int)))) S trivial (by decide) (q_assign rfl) (fun a S => ?_)
          refine lx_nil ?_
          exact ⟨m118, Nat.lt_succ_self _, (W (x72 + (1 : Int))), S.sub ⟨rfl, rfl, rfl, trivial⟩, H, it_cont hm hc120⟩
      · have hm := ite_f hc121 hm
        refine wp_exit ?_
        refine then_exit ?_
        refine then_exit ?_
        refine inBlock_exit ?_
        obtain rfl := it_brk hm hc120
        exact ⟨S.sub trivial, H, rfl⟩

/-- laws.markVertexS -/
def laws_markVertexS_m (fuel : Nat) (a0 : (List Timpl_Vertex)) (a1 : Int) : Option (Int × (List Timpl_Vertex)) :=
  (iter (fun (s : (List Timpl_Vertex) × (Int) × (Int)) => (match s with | (xs62, x63, x64) => (if (decide (x64 < (xs62.length : Int))) = true then (idx xs62 x64).bind fun x107 => (idx (xs62.set x64.toNat (x63, x107.2.1, x107.2.2)) x64).bind fun x110 => (idx ((xs62.set x64.toNat (x63, x107.2.1, x107.2.2)).set x64.toNat (x110.1, (W (x63 + (1 : Int))), x110.2.2)) x64).bind fun x113 => (laws_markInt64S_m fuel x113.2.2 (W ((W (x63 + (1 : Int))) + (1 : Int)))).bind fun x130 => some (.inl ((((xs62.set x64.toNat (x63, x107.2.1, x107.2.2)).set x64.toNat (x110.1, (W (x63 + (1 : Int))), x110.2.2)).set x64.toNat (x113.1, x113.2.1, x130.2)), x130.1, (W (x64 + (1 : Int))))) else some (.inr (.inl (x63, xs62)))) : Option (((List Timpl_Vertex) × (Int) × (Int)) ⊕ ((Int × (List Timpl_Vertex)) ⊕ (Int × (List Timpl_Vertex)))))) fuel (a0, a1, (0 : Int))).bind fun res98 => ctl (β := Int × (List Timpl_Vertex)) (ρ := Int × (List Timpl_Vertex)) (τ := Int × (List Timpl_Vertex)) res98 (fun (x96, xs97) => some ((x96, xs97))) (fun q => some (q))
set_option maxRecDepth 20000 in
theorem laws_markVertexS_ok {w0 : World} {fuel : Nat} {p0 : Value} {a0 : (List Timpl_Vertex)} {a1 : Int} {w00 : World} {L : List Asrt} {r : Int × (List Timpl_Vertex)} (H : Heap w00 (oA (rList Rimpl_Vertex) p0 a0 :: L) w0) (hm : laws_markVertexS_m fuel a0 a1 = some r) :
    Calls Try.prog 29 #[p0, .int .i64 a1] w0 fun e w => e = .returned (.int .i64 r.1) ∧ Heap w00 (oA (rList Rimpl_Vertex) p0 r.2 :: L) w := by
  unfold laws_markVertexS_m at hm
  refine enter (args := [p0, .int .i64 a1]) Try.func29 rfl 34 rfl (Nat.le_of_ble_eq_true rfl) (fun a S => ?_)
  refine wp_seq ?_
  refine region_plain ?_
  refine lx_q (.int .i64 (0 : Int)) S trivial (by decide) (q_assign rfl) (fun a S => ?_)
  refine lx_nil ?_
  refine thenN ?_
  refine wp_seq ?_
  refine wp_seq ?_
  refine region_plain ?_
  refine lx_q (.int .i64 (0 : Int)) S trivial (by decide) (q_assign rfl) (fun a S => ?_)
  refine lx_nil ?_
  refine thenN ?_
  obtain ⟨res98, hit99, hk102⟩ := bind_some hm
  obtain ⟨f100, hf101, hit99⟩ := iter_name hit99
  refine block_loop (fun a w => ∃ (x96 : Int) (xs97 : List Timpl_Vertex), Slots a 34 [(1, (.int .i64 x96))] ∧ Heap w00 (oA (rList Rimpl_Vertex) p0 xs97 :: L) w ∧ res98 = .inl (x96, xs97)) ?_ ?_
  · rintro a w ⟨x96, xs97, S, H, rfl⟩
    have hm := ctl_inl hk102
    refine thenN ?_
    refine wp_seq ?_
    refine region_plain ?_
    refine lx_q (.int .i64 x96) S trivial (by decide) (q_move rfl) (fun a S => ?_)
    refine lx_q (.int .i64 x96) S trivial (by decide) (q_assign rfl) (fun a S => ?_)
    refine lx_nil ?_
    refine thenN ?_
    refine wp_ret ?_
    obtain rfl := Option.some.inj hm
    exact leave1 S rfl rfl ⟨rfl, H⟩
  · skip
    refine loop_ghost (fun n a w => ∃ (xs62 : List Timpl_Vertex) (x63 : Int) (x64 : Int), Slots a 34 [(0, p0), (1, (.int .i64 x63)), (5, (.int .i64 x64))] ∧ Heap w00 (oA (rList Rimpl_Vertex) p0 xs62 :: L) w ∧ iter f100 n (xs62, x63, x64) = some res98) _ ⟨a0, a1, (0 : Int), S.sub ⟨rfl, rfl, rfl, trivial⟩, H, hit99⟩ ?_
    rintro n a w ⟨xs62, x63, x64, S, H, hit99⟩
    obtain ⟨m103, o104, rfl, hm, hc105⟩ := iter_step hit99
    rw [hf101] at hm
    refine wp_seq ?_
    refine wp_seq ?_
    refine region_plain ?_
    refine lx_q (.int .i64 x64) S trivial (by decide) (q_move rfl) (fun a S => ?_)
    refine lx_q p0 S trivial (by decide) (q_move rfl) (fun a S => ?_)
    refine lx_q (.int .i64 (xs62.length : Int)) S trivial (by decide) (q_lenSl rfl (H.isSl 0 rfl) rfl Try.underlying42) (fun a S => ?_)
    refine lx_q (.bool (decide (x64 < (xs62.length : Int)))) S trivial (by decide) (q_lss rfl rfl) (fun a S => ?_)
    refine lx_nil ?_
    refine thenN ?_
    refine cond_b S rfl (fun hc106 => ?_) (fun hc106 => ?_)
    · have hm := ite_t hc106 hm
      refine wp_skip ?_
      refine thenN ?_
      refine wp_seq ?_
      refine wp_block ?_
      refine wp_seq ?_
      refine region_plain ?_
      refine lx_q p0 S trivial (by decide) (q_move rfl) (fun a S => ?_)
      refine lx_q (.int .i64 x64) S trivial (by decide) (q_move rfl) (fun a S => ?_)
      refine lx_q (.int .i64 x63) S trivial (by decide) (q_move rfl) (fun a S => ?_)
      obtain ⟨x107, e108, hm⟩ := bind_some hm
      have hlt := lt_of_idx (idx_some e108).2
      refine lx_q (ePtr p0 (x64.toNat * 3)) S trivial (by decide) (q_indexAddr rfl (H.isSl 0 rfl) rfl (idx_some e108).1 hlt Try.underlying42 Try.sizeOf75) (fun a S => ?_)
      refine lx_q (pAdd (ePtr p0 (x64.toNat * 3)) 0) S trivial (by decide) (q_fieldAddr' 0 2 rfl (((H.isSl 0 rfl)).ptr (lt_of_idx (idx_some e108).2) _) Try.underlying75 rfl Try.sizeOf2) (fun a S => ?_)
      refine lx_storeElem (r := Rimpl_Vertex) (us := [(.int .i64 x63)]) (off := 0) (e' := (x63, x107.2.1, x107.2.2)) S trivial rfl H.putE rfl rfl (idx_some e108).2 rfl Try.sizeOf2 (Nat.le_of_ble_eq_true rfl) (List.forall_mem_cons.2 ⟨rfl, (fun _ h => nomatch h)⟩) (Upd.fst (off := 0) (Nat.le_of_ble_eq_true rfl) (Upd.full rfl (fun w G hG => by cases (show G = [] from hG); exact ⟨rfl, rfl⟩))) (fun w109 H => ⟨trivial, fun a S => ?_⟩)
      refine lx_nil ?_
      refine thenN ?_
      refine wp_seq ?_
      refine region_plain ?_
      refine lx_q (.int .i64 x63) S trivial (by decide) (q_move rfl) (fun a S => ?_)
      refine lx_q (.int .i64 (W (x63 + (1 : Int)))) S trivial (by decide) (q_add rfl rfl) (fun a S => ?_)
      refine lx_q (.int .i64 (W (x63 + (1 : Int)))) S trivial (by decide) (q_assign rfl) (fun a S => ?_)
      refine lx_nil ?_
      refine thenN ?_
      refine wp_seq ?_
      refine region_plain ?_
      refine lx_q p0 S trivial (by decide) (q_move rfl) (fun a S => ?_)
      refine lx_q (.int .i64 x64) S trivial (by decide) (q_move rfl) (fun a S => ?_)
      refine lx_q (.int .i64 (W (x63 + (1 : Int)))) S trivial (by decide) (q_move rfl) (fun a S => ?_)
      obtain ⟨x110, e111, hm⟩ := bind_some hm
      have hlt := lt_of_idx (idx_some e111).2
      refine lx_q (ePtr p0 (x64.toNat * 3)) S trivial (by decide) (q_indexAddr rfl (H.isSl 0 rfl) rfl (idx_some e111).1 hlt Try.underlying42 Try.sizeOf75) (fun a S => ?_)
      refine lx_q (pAdd (ePtr p0 (x64.toNat * 3)) 1) S trivial (by decide) (q_fieldAddr' 1 2 rfl (((H.isSl 0 rfl)).ptr (lt_of_idx (idx_some e111).2) _) Try.underlying75 rfl Try.sizeOf2) (fun a S => ?_)
      refine lx_storeElem (r := Rimpl_Vertex) (us := [(.int .i64 (W (x63 + (1 : Int))))]) (off := 1) (e' := (x110.1, (W (x63 + (1 : Int))), x110.2.2)) S trivial rfl H.putE rfl rfl (idx_some e111).2 rfl Try.sizeOf2 (Nat.le_of_ble_eq_true rfl) (List.forall_mem_cons.2 ⟨rfl, (fun _ h => nomatch h)⟩) (Upd.snd (off := 0) (Upd.fst (off := 0) (Nat.le_of_ble_eq_true rfl) (Upd.full rfl (fun w G hG => by cases (show G = [] from hG); exact ⟨rfl, rfl⟩)))) (fun w112 H => ⟨trivial, fun a S => ?_⟩)
      refine lx_nil ?_
      refine thenN ?_
      refine wp_seq ?_
      refine region_plain ?_
      refine lx_q (.int .i64 (W (x63 + (1 : Int)))) S trivial (by decide) (q_move rfl) (fun a S => ?_)
      refine lx_q (.int .i64 (W ((W (x63 + (1 : Int))) + (1 : Int)))) S trivial (by decide) (q_add rfl rfl) (fun a S => ?_)
      refine lx_q (.int .i64 (W ((W (x63 + (1 : Int))) + (1 : Int)))) S trivial (by decide) (q_assign rfl) (fun a S => ?_)
      refine lx_nil ?_
      refine thenN ?_
      refine region_plain ?_
      refine lx_q p0 S trivial (by decide) (q_move rfl) (fun a S => ?_)
      refine lx_q (.int .i64 x64) S trivial (by decide) (q_move rfl) (fun a S => ?_)
      obtain ⟨x113, e114, hm⟩ := bind_some hm
      have hlt := lt_of_idx (idx_some e114).2
      refine lx_q (ePtr p0 (x64.toNat * 3)) S trivial (by decide) (q_indexAddr rfl (H.isSl 0 rfl) rfl (idx_some e114).1 hlt Try.underlying42 Try.sizeOf75) (fun a S => ?_)
      refine lx_q (pAdd (ePtr p0 (x64.toNat * 3)) 2) S trivial (by decide) (q_fieldAddr' 2 29 rfl (((H.isSl 0 rfl)).ptr (lt_of_idx (idx_some e114).2) _) Try.underlying75 rfl Try.sizeOf29) (fun a S => ?_)
      obtain ⟨c115, h116, hat117⟩ := (H.rdAt 0 rfl).elem (idx_some e114).2
      obtain ⟨c120, c121, rfl, h122, h123⟩ := h116
      obtain rfl := h122
      obtain ⟨c124, c125, rfl, h126, h127⟩ := h123
      obtain rfl := h126
      obtain ⟨v118, rfl, h119⟩ := rd_list h127
      refine lx_e v118 S trivial (by decide) rfl trivial (q_load1 rfl Try.isAgg29 (by rintro _ rfl; exact (At.of_add (m := 2) (j := 0) (hat117 2 _ rfl)))) (fun a S => ?_)
      refine lx_q (.int .i64 (W ((W (x63 + (1 : Int))) + (1 : Int)))) S trivial (by decide) (q_move rfl) (fun a S => ?_)
      obtain ⟨x130, e131, hm⟩ := bind_some hm
      obtain ⟨u132, hat133, H⟩ := H.lend (idx_some e114).2 (Lend.snd (off := 1) (Lend.snd (off := 0) (Lend.here)))
      obtain rfl : v118 = u132 := At.eq (hat117 2 _ rfl) hat133
      refine lx_call (xs := [.tmp 30, .tmp 31]) S trivial (by decide) rfl rfl Try.call18 ((laws_markInt64S_ok H e131).mono ?_)
      rintro e w128 ⟨rfl, H⟩
      have H : Heap w00 (oA (rList Rimpl_Vertex) p0 (((xs62.set x64.toNat (x63, x107.2.1, x107.2.2)).set x64.toNat (x110.1, (W (x63 + (1 : Int))), x110.2.2)).set x64.toNat (x113.1, x113.2.1, x130.2)) :: L) w128 := H.back
      refine ⟨_, rfl, trivial, fun a S => ?_⟩
      refine lx_q (.int .i64 x130.1) S trivial (by decide) (q_assign rfl) (fun a S => ?_)
      refine lx_nil ?_
      refine inBlock_norm ?_
      refine thenN ?_
      refine region_plain ?_
      refine lx_q (.int .i64 x64) S trivial (by decide) (q_move rfl) (fun a S => ?_)
      refine lx_q (.int .i64 (W (x64 + (1 : Int)))) S trivial (by decide) (q_add rfl rfl) (fun a S => ?_)
      refine lx_q (.int .i64 (W (x64 + (1 : Int)))) S trivial (by decide) (q_assign rfl) (fun a S => ?_)
      refine lx_nil ?_
      exact ⟨m103, Nat.lt_succ_self _, (((xs62.set x64.toNat (x63, x107.2.1, x107.2.2)).set x64.toNat (x110.1, (W (x63 + (1 : Int))), x110.2.2)).set x64.toNat (x113.1, x113.2.1, x130.2)), x130.1, (W (x64 + (1 : Int))), S.sub ⟨rfl, rfl, rfl, trivial⟩, H, it_cont hm hc105⟩
    · have hm := ite_f hc106 hm
      refine wp_exit ?_
      refine then_exit ?_
      refine then_exit ?_
      refine inBlock_exit ?_
      obtain rfl := it_brk hm hc105
      exact ⟨x63, xs62, S.sub ⟨rfl, trivial⟩, H, rfl⟩

/-- laws.heldVertexS -/
def laws_heldVertexS_m (fuel : Nat) (a0 : (List Timpl_Vertex)) (a1 : Int) : Option (Int) :=
  (iter (fun (s : (Int) × (Int)) => (match s with | (x87, x88) => (if (decide (x88 < (a0.length : Int))) = true then (idx a0 x88).bind fun x155 => (if (x155.1 != x87) = true then some (.inr (.inr (-1 : Int))) else (idx a0 x88).bind fun x171 => (if (x171.2.1 != (W (x87 + (1 : Int)))) = true then some (.inr (.inr (-1 : Int))) else (idx a0 x88).bind fun x187 => (laws_heldInt64S_m fuel x187.2.2 (W ((W (x87 + (1 : Int))) + (1 : Int)))).bind fun x204 => (if (decide (x204 < (0 : Int))) = true then some (.inr (.inr (-1 : Int))) else some (.inl (x204, (W (x88 + (1 : Int)))))))) else some (.inr (.inl (x87)))) : Option (((Int) × (Int)) ⊕ ((Int) ⊕ (Int))))) fuel (a1, (0 : Int))).bind fun res146 => ctl (β := Int) (ρ := Int) (τ := Int) res146 (fun (x145) => some (x145)) (fun q => some (q))
set_option maxRecDepth 20000 in
theorem laws_heldVertexS_ok {w0 : World} {fuel : Nat} {p0 : Value} {a0 : (List Timpl_Vertex)} {a1 : Int} {r : Int} (h0 : Rd (rList Rimpl_Vertex) w0 p0 a0) (hm : laws_heldVertexS_m fuel a0 a1 = some r) :
    Calls Try.prog 30 #[p0, .int .i64 a1] w0 fun e w => e = .returned (.int .i64 r) ∧ Heap w0 [] w := by
  unfold laws_heldVertexS_m at hm
  have H := Heap.start w0
  refine enter (args := [p0, .int .i64 a1]) Try.func30 rfl 40 rfl (Nat.le_of_ble_eq_true rfl) (fun a S => ?_)
  refine wp_seq ?_
  refine region_plain ?_
  refine lx_q (.int .i64 (0 : Int)) S trivial (by decide) (q_assign rfl) (fun a S => ?_)
  refine lx_nil ?_
  refine thenN ?_
  refine wp_seq ?_
  refine wp_seq ?_
  refine region_plain ?_
  refine lx_q (.int .i64 (0 : Int)) S trivial (by decide) (q_assign rfl) (fun a S => ?_)
  refine lx_nil ?_
  refine thenN ?_
  obtain ⟨res146, hit147, hk150⟩ := bind_some hm
  obtain ⟨f148, hf149, hit147⟩ := iter_name hit147
  refine block_loop (fun a w => ∃ (x145 : Int), Slots a 40 [(1, (.int .i64 x145))] ∧ Heap w0 [] w ∧ res146 = .inl (x145)) ?_ ?_
  · rintro a w ⟨x145, S, H, rfl⟩
    have hm := ctl_inl hk150
    refine thenN ?_
    refine wp_seq ?_
    refine region_plain ?_
    refine lx_q (.int .i64 x145) S trivial (by decide) (q_move rfl) (fun a S => ?_)
    refine lx_q (.int .i64 x145) S trivial (by decide) (q_assign rfl) (fun a S => ?_)
    refine lx_nil ?_
    refine thenN ?_
    refine wp_ret ?_
    obtain rfl := Option.some.inj hm
    exact leave1 S rfl rfl ⟨rfl, H⟩
  · skip
    refine loop_ghost (fun n a w => ∃ (x87 : Int) (x88 : Int), Slots a 40 [(0, p0), (1, (.int .i64 x87)), (5, (.int .i64 x88))] ∧ Heap w0 [] w ∧ iter f148 n (x87, x88) = some res146) _ ⟨a1, (0 : Int), S.sub ⟨rfl, rfl, rfl, trivial⟩, H, hit147⟩ ?_
    rintro n a w ⟨x87, x88, S, H, hit147⟩
    obtain ⟨m151, o152, rfl, hm, hc153⟩ := iter_step hit147
    rw [hf149] at hm
    refine wp_seq ?_
    refine wp_seq ?_
    refine region_plain ?_
    refine lx_q (.int .i64 x88) S trivial (by decide) (q_move rfl) (fun a S => ?_)
    refine lx_q p0 S trivial (by decide) (q_move rfl) (fun a S => ?_)
    refine lx_q (.int .i64 (a0.length : Int)) S trivial (by decide) (q_lenSl rfl (h0).isSl rfl Try.underlying42) (fun a S => ?_)
    refine lx_q (.bool (decide (x88 < (a0.length : Int)))) S trivial (by decide) (q_lss rfl rfl) (fun a S => ?_)
    refine lx_nil ?_
    refine thenN ?_
    refine cond_b S rfl (fun hc154 => ?_) (fun hc154 => ?_)
    · have hm := ite_t hc154 hm
      refine wp_skip ?_
      refine thenN ?_
      refine wp_seq ?_
      refine wp_block ?_
      refine wp_seq ?_
      refine wp_seq ?_
      refine region_plain ?_
      refine lx_q p0 S trivial (by decide) (q_move rfl) (fun a S => ?_)
      refine lx_q (.int .i64 x88) S trivial (by decide) (q_move rfl) (fun a S => ?_)
      obtain ⟨x155, e156, hm⟩ := bind_some hm
      obtain ⟨c157, h158, hat159⟩ := (h0).elem (idx_some e156).2
      obtain ⟨c162, c163, rfl, h164, h165⟩ := h158
      obtain rfl := h164
      obtain ⟨c166, c167, rfl, h168, h169⟩ := h165
      obtain rfl := h168
      obtain ⟨v160, rfl, h161⟩ := rd_list h169
      have hlt := lt_of_idx (idx_some e156).2
      refine lx_q (ePtr p0 (x88.toNat * 3)) S trivial (by decide) (q_indexAddr rfl (h0).isSl rfl (idx_some e156).1 hlt Try.underlying42 Try.sizeOf75) (fun a S => ?_)
      refine lx_q (pAdd (ePtr p0 (x88.toNat * 3)) 0) S trivial (by decide) (q_fieldAddr' 0 2 rfl ((hat159 0 _ rfl).isP) Try.underlying75 rfl Try.sizeOf2) (fun a S => ?_)
      refine lx_e (.int .i64 x155.1) S trivial (by decide) rfl trivial (q_load1 rfl Try.isAgg2 (by rintro _ rfl; exact (At.of_add (m := 0) (j := 0) ((hat159 0 _ rfl).ext H.ext)))) (fun a S => ?_)
      refine lx_q (.int .i64 x87) S trivial (by decide) (q_move rfl) (fun a S => ?_)
      refine lx_q (.bool (x155.1 != x87)) S trivial (by decide) (q_neq rfl rfl) (fun a S => ?_)
      refine lx_nil ?_
      refine thenN ?_
      refine cond_b S rfl (fun hc170 => ?_) (fun hc170 => ?_)
      · have hm := ite_t hc170 hm
        refine wp_seq ?_
        refine region_plain ?_
        refine lx_q (.int .i64 (-1 : Int)) S trivial (by decide) (q_assign rfl) (fun a S => ?_)
        refine lx_nil ?_
        refine thenN ?_
        refine wp_ret ?_
        refine then_ret ?_
        refine inBlock_ret ?_
        refine then_ret ?_
        refine then_ret ?_
        refine inBlock_ret ?_
        refine then_ret ?_
        refine then_ret ?_
        obtain rfl := it_brk hm hc153
        have hm := ctl_inr hk150
        obtain rfl := Option.some.inj hm
        exact leave1 S rfl rfl ⟨rfl, H⟩
      · have hm := ite_f hc170 hm
        refine wp_skip ?_
        refine thenN ?_
        refine wp_seq ?_
        refine region_plain ?_
        refine lx_q (.int .i64 x87) S trivial (by decide) (q_move rfl) (fun a S => ?_)
        refine lx_q (.int .i64 (W (x87 + (1 : Int)))) S trivial (by decide) (q_add rfl rfl) (fun a S => ?_)
        refine lx_q (.int .i64 (W (x87 + (1 : Int)))) S trivial (by decide) (q_assign rfl) (fun a S => ?_)
        refine lx_nil ?_
        refine thenN ?_
        refine wp_seq ?_
        refine wp_seq ?_
        refine region_plain ?_
        refine lx_q p0 S trivial (by decide) (q_move rfl) (fun a S => ?_)
        refine lx_q (.int .i64 x88) S trivial (by decide) (q_move rfl) (fun a S => ?_)
        obtain ⟨x171, e172, hm⟩ := bind_some hm
        obtain ⟨c173, h174, hat175⟩ := (h0).elem (idx_some e172).2
        obtain ⟨c178, c179, rfl, h180, h181⟩ := h174
        obtain rfl := h180
        obtain ⟨c182, c183, rfl, h184, h185⟩ := h181
        obtain rfl := h184
        obtain ⟨v176, rfl, h177⟩ := rd_list h185
        have hlt := lt_of_idx (idx_some e172).2
        refine lx_q (ePtr p0 (x88.toNat * 3)) S trivial (by decide) (q_indexAddr rfl (h0).isSl rfl (idx_some e172).1 hlt Try.underlying42 Try.sizeOf75) (fun a S => ?_)
        refine lx_q (pAdd (ePtr p0 (x88.toNat * 3)) 1) S trivial (by decide) (q_fieldAddr' 1 2 rfl ((hat175 0 _ rfl).isP) Try.underlying75 rfl Try.sizeOf2) (fun a S => ?_)
        refine lx_e (.int .i64 x171.2.1) S trivial (by decide) rfl trivial (q_load1 rfl Try.isAgg2 (by rintro _ rfl; exact (At.of_add (m := 1) (j := 0) ((hat175 1 _ rfl).ext H.ext)))) (fun a S => ?_)
        refine lx_q (.int .i64 (W (x87 + (1 : Int)))) S trivial (by decide) (q_move rfl) (fun a S => ?_)
        refine lx_q (.bool (x171.2.1 != (W (x87 + (1 : Int))))) S trivial (by decide) (q_neq rfl rfl) (fun a S => ?_)
        refine lx_nil ?_
        refine thenN ?_
        refine cond_b S rfl (fun hc186 => ?_) (fun hc186 => ?_)
        · have hm := ite_t hc186 hm
          refine wp_seq ?_
          refine region_plain ?_
          refine lx_q (.int .i64 (-1 : Int)) S trivial (by decide) (q_assign rfl) (fun a S => ?_)
          refine lx_nil ?_
          refine thenN ?_
          refine wp_ret ?_
          refine then_ret ?_
          refine inBlock_ret ?_
          refine then_ret ?_
          refine then_ret ?_
          refine inBlock_ret ?_
          refine then_ret ?_
          refine then_ret ?_
          obtain rfl := it_brk hm hc153
          have hm := ctl_inr hk150
          obtain rfl := Option.some.inj hm
          exact leave1 S rfl rfl ⟨rfl, H⟩
        · have hm := ite_f hc186 hm
          refine wp_skip ?_
          refine thenN ?_
          refine wp_seq ?_
          refine region_plain ?_
          refine lx_q (.int .i64 (W (x87 + (1 : Int)))) S trivial (by decide) (q_move rfl) (fun a S => ?_)
          refine lx_q (.int .i64 (W ((W (x87 + (1 : Int))) + (1 : Int)))) S trivial (by decide) (q_add rfl rfl) (fun a S => ?_)
          refine lx_q (.int .i64 (W ((W (x87 + (1 : Int))) + (1 : Int)))) S trivial (by decide) (q_assign rfl) (fun a S => ?_)
          refine lx_nil ?_
          refine thenN ?_
          refine wp_seq ?_
          refine region_plain ?_
          refine lx_q p0 S trivial (by decide) (q_move rfl) (fun a S => ?_)
          refine lx_q (.int .i64 x88) S trivial (by decide) (q_move rfl) (fun a S => ?_)
          obtain ⟨x187, e188, hm⟩ := bind_some hm
          obtain ⟨c189, h190, hat191⟩ := (h0).elem (idx_some e188).2
          obtain ⟨c194, c195, rfl, h196, h197⟩ := h190
          obtain rfl := h196
          obtain ⟨c198, c199, rfl, h200, h201⟩ := h197
          obtain rfl := h200
          obtain ⟨v192, rfl, h193⟩ := rd_list h201
          have hlt := lt_of_idx (idx_some e188).2
          refine lx_q (ePtr p0 (x88.toNat * 3)) S trivial (by decide) (q_indexAddr rfl (h0).isSl rfl (idx_some e188).1 hlt Try.underlying42 Try.sizeOf75) (fun a S => ?_)
          refine lx_q (pAdd (ePtr p0 (x88.toNat * 3)) 2) S trivial (by decide) (q_fieldAddr' 2 29 rfl ((hat191 0 _ rfl).isP) Try.underlying75 rfl Try.sizeOf29) (fun a S => ?_)
          refine lx_e v192 S trivial (by decide) rfl trivial (q_load1 rfl Try.isAgg29 (by rintro _ rfl; exact (At.of_add (m := 2) (j := 0) ((hat191 2 _ rfl).ext H.ext)))) (fun a S => ?_)
          refine lx_q (.int .i64 (W ((W (x87 + (1 : Int))) + (1 : Int)))) S trivial (by decide) (q_move rfl) (fun a S => ?_)
          obtain ⟨x204, e205, hm⟩ := bind_some hm
          refine lx_call (xs := [.tmp 34, .tmp 35]) S trivial (by decide) rfl rfl Try.call19 ((laws_heldInt64S_ok (H.arg h193)  e205).mono ?_)
          rintro e w202 ⟨rfl, Hc203⟩
          have he206 := Hc203.ext
          have H := H.call0 Hc203
          refine ⟨_, rfl, trivial, fun a S => ?_⟩
          refine lx_q (.int .i64 x204) S trivial (by decide) (q_assign rfl) (fun a S => ?_)
          refine lx_nil ?_
          refine thenN ?_
          refine wp_seq ?_
          refine region_plain ?_
          refine lx_q (.int .i64 x204) S trivial (by decide) (q_move rfl) (fun a S => ?_)
          refine lx_q (.bool (decide (x204 < (0 : Int)))) S trivial (by decide) (q_lss rfl rfl) (fun a S => ?_)
          refine lx_nil ?_
          refine thenN ?_
          refine cond_b S rfl (fun hc207 => ?_) (fun hc207 => ?_)
          · have hm := ite_t hc207 hm
            refine wp_seq ?_
            refine region_plain ?_
            refine lx_q (.int .i64 (-1 : Int)) S trivial (by decide) (q_assign rfl) (fun a S => ?_)
            refine lx_nil ?_
            refine thenN ?_
            refine wp_ret ?_
            refine inBlock_ret ?_
            refine then_ret ?_
            refine then_ret ?_
            refine inBlock_ret ?_
            refine then_ret ?_
            refine then_ret ?_
            obtain rfl := it_brk hm hc153
            have hm := ctl_inr hk150
            obtain rfl := Option.some.inj hm
            exact leave1 S rfl rfl ⟨rfl, H⟩
          · have hm := ite_f hc207 hm
            refine wp_skip ?_
            refine inBlock_norm ?_
            refine thenN ?_
            refine region_plain ?_
            refine lx_q (.int .i64 x88) S trivial (by decide) (q_move rfl) (fun a S => ?_)
            refine lx_q (.int .i64 (W (x88 + (1 : Int)))) S trivial (by decide) (q_add rfl rfl) (fun a S => ?_)
            refine lx_q (.int .i64 (W (x88 + (1 : Int)))) S trivial (by decide) (q_assign rfl) (fun a S => ?_)
            refine lx_nil ?_
            exact ⟨m151, Nat.lt_succ_self _, x204, (W (x88 + (1 : Int))), S.sub ⟨rfl, rfl, rfl, trivial⟩, H, it_cont hm hc153⟩
    · have hm := ite_f hc154 hm
      refine wp_exit ?_
      refine then_exit ?_
      refine then_exit ?_
      refine inBlock_exit ?_
      obtain rfl := it_brk hm hc153
      exact ⟨x87, S.sub ⟨rfl, trivial⟩, H, rfl⟩

/-- spec.DualEquations -/
def spec_DualEquations_m (fuel : Nat) (a0 : (List Timpl_Equation)) : Option (((List Timpl_Equation) × Int)) :=
  (spec_l22Is_m fuel a0).bind fun x33 => (if (!x33) = true then some (([], (1 : Int))) else (iter (fun (s : (List Timpl_Equation) × (Int)) => (match s with | (xs109, x111) => (if (decide (x111 < (a0.length : Int))) = true then (idx a0 x111).bind fun x193 => (idx a0 x111).bind fun x208 => (idx a0 x111).bind fun x223 => (spec_l00Own_m fuel x223.2.2).bind fun x240 => (app xs109 [((!x193.1), (!x208.2.1), x240)]).bind fun x248 => some (.inl (x248, (W (x111 + (1 : Int))))) else some (.inr (.inl (xs109)))) : Option (((List Timpl_Equation) × (Int)) ⊕ (((List Timpl_Equation)) ⊕ (((List Timpl_Equation) × Int)))))) fuel (([] : List Timpl_Equation), (0 : Int))).bind fun res182 => ctl (β := (List Timpl_Equation)) (ρ := ((List Timpl_Equation) × Int)) (τ := ((List Timpl_Equation) × Int)) res182 (fun (xs180) => some ((xs180, (0 : Int)))) (fun q => some (q)))
set_option maxRecDepth 20000 in
theorem spec_DualEquations_ok {w0 : World} {fuel : Nat} {p0 : Value} {a0 : (List Timpl_Equation)} {r : ((List Timpl_Equation) × Int)} (h0 : Rd (rList Rimpl_Equation) w0 p0 a0) (hm : spec_DualEquations_m fuel a0 = some r) :
    Calls Try.prog 31 #[p0] w0 fun e w => ∃ (v0 : Value), e = .returned (.tuple #[v0, .int .i64 r.2]) ∧ Heap w0 [oA (rList Rimpl_Equation) v0 r.1] w := by
  unfold spec_DualEquations_m at hm
  have H := Heap.start w0
  refine enter (args := [p0]) Try.func31 rfl 39 rfl (Nat.le_of_ble_eq_true rfl) (fun a S => ?_)
  refine wp_seq ?_
  refine region_plain ?_
  refine lx_q (.slice none 0 0) S trivial (by decide) (q_assign rfl) (fun a S => ?_)
  refine lx_q (.int .i64 (0 : Int)) S trivial (by decide) (q_assign rfl) (fun a S => ?_)
  refine lx_nil ?_
  refine thenN ?_
  refine wp_seq ?_
  refine wp_seq ?_
  refine region_plain ?_
  refine lx_q p0 S trivial (by decide) (q_move rfl) (fun a S => ?_)
  obtain ⟨x33, e34, hm⟩ := bind_some hm
  refine lx_call (xs := [.tmp 6]) S trivial (by decide) rfl rfl Try.call38 ((spec_l22Is_ok (H.arg h0) e34).mono ?_)
  rintro e w31 ⟨rfl, Hc32⟩
  have he35 := Hc32.ext
  have H := H.call0 Hc32
  refine ⟨_, rfl, trivial, fun a S => ?_⟩
  refine lx_q (.bool (!x33)) S trivial (by decide) (q_not rfl) (fun a S => ?_)
  refine lx_nil ?_
  refine thenN ?_
  refine cond_b S rfl (fun hc36 => ?_) (fun hc36 => ?_)
  · have hm := ite_t hc36 hm
    refine wp_seq ?_
    refine region_plain ?_
    refine lx_q (.slice none 0 0) S trivial (by decide) (q_assign rfl) (fun a S => ?_)
    refine lx_q (.int .i64 (1 : Int)) S trivial (by decide) (q_assign rfl) (fun a S => ?_)
    refine lx_nil ?_
    refine thenN ?_
    refine wp_ret ?_
    refine then_ret ?_
    obtain rfl := Option.some.inj hm
    have H : Heap w0 [oA (rList Rimpl_Equation) (.slice none 0 0) ([] : List Timpl_Equation)] w31 := H.nilList Rimpl_Equation
    exact leave2 S rfl rfl rfl ⟨(.slice none 0 0), rfl, H⟩
  · have hm := ite_f hc36 hm
    refine wp_skip ?_
    refine thenN ?_
    refine wp_seq ?_
    refine region_plain ?_
    refine lx_buildSlice0 (r := Rimpl_Equation) S trivial (by decide) rfl H Try.underlying25 Try.sizeOf58 (fun v38 w39 H => ⟨trivial, fun a S => ?_⟩)
    refine lx_q v38 S trivial (by decide) (q_assign rfl) (fun a S => ?_)
    refine lx_nil ?_
    refine thenN ?_
    refine wp_seq ?_
    refine wp_seq ?_
    refine region_plain ?_
    refine lx_q (.int .i64 (0 : Int)) S trivial (by decide) (q_assign rfl) (fun a S => ?_)
    refine lx_nil ?_
    refine thenN ?_
    obtain ⟨res182, hit183, hk186⟩ := bind_some hm
    obtain ⟨f184, hf185, hit183⟩ := iter_name hit183
    refine block_loop (fun a w => ∃ (xs180 : List Timpl_Equation) (v179 : Value), Slots a 39 [(4, v179)] ∧ Heap w0 [oA (rList Rimpl_Equation) v179 xs180] w ∧ res182 = .inl (xs180)) ?_ ?_
    · rintro a w ⟨xs180, v179, S, H, rfl⟩
      have hm := ctl_inl hk186
      refine thenN ?_
      refine wp_seq ?_
      refine region_plain ?_
      refine lx_q v179 S trivial (by decide) (q_move rfl) (fun a S => ?_)
      refine lx_q v179 S trivial (by decide) (q_assign rfl) (fun a S => ?_)
      refine lx_q (.int .i64 (0 : Int)) S trivial (by decide) (q_assign rfl) (fun a S => ?_)
      refine lx_nil ?_
      refine thenN ?_
      refine wp_ret ?_
      obtain rfl := Option.some.inj hm
      exact leave2 S rfl rfl rfl ⟨v179, rfl, H⟩
    · skip
      refine loop_ghost (fun n a w => ∃ (xs109 : List Timpl_Equation) (x111 : Int) (v108 : Value), Slots a 39 [(0, p0), (4, v108), (5, (.int .i64 x111))] ∧ Heap w0 [oA (rList Rimpl_Equation) v108 xs109] w ∧ iter f184 n (xs109, x111) = some res182) _ ⟨([] : List Timpl_Equation), (0 : Int), v38, S.sub ⟨rfl, rfl, rfl, trivial⟩, H, hit183⟩ ?_
      rintro n a w ⟨xs109, x111, v108, S, H, hit183⟩
      obtain ⟨m187, o188, rfl, hm, hc189⟩ := iter_step hit183
      rw [hf185] at hm
      refine wp_seq ?_
      refine wp_seq ?_
      refine region_plain ?_
      refine lx_q (.int .i64 x111) S trivial (by decide) (q_move rfl) (fun a S => ?_)
      refine lx_q p0 S trivial (by decide) (q_move rfl) (fun a S => ?_)
      refine lx_q (.int .i64 (a0.length : Int)) S trivial (by decide) (q_lenSl rfl (h0).isSl rfl Try.underlying25) (fun a S => ?_)
      refine lx_q (.bool (decide (x111 < (a0.length : Int)))) S trivial (by decide) (q_lss rfl rfl) (fun a S => ?_)
      refine lx_nil ?_
      refine thenN ?_
      refine cond_b S rfl (fun hc190 => ?_) (fun hc190 => ?_)
      · have hm := ite_t hc190 hm
        refine wp_skip ?_
        refine thenN ?_
        refine wp_seq ?_
        refine wp_block ?_
        refine region_drawG (fun w1 => Heap w0 [] w1) (fun i => [18, 20, 21].contains i) mixed (by kernel_rfl) (fun w192 he191 => ?_)
        have H := H.later he191
        refine ⟨H.sel [] (by decide), ?_⟩
        refine lx_q v108 S trivial (by decide) (q_move rfl) (fun a S => ?_)
        refine lx_q p0 S trivial (by decide) (q_move rfl) (fun a S => ?_)
        refine lx_q (.int .i64 x111) S trivial (by decide) (q_move rfl) (fun a S => ?_)
        obtain ⟨x193, e194, hm⟩ := bind_some hm
        obtain ⟨c195, h196, hat197⟩ := (h0).elem (idx_some e194).2
        obtain ⟨c200, c201, rfl, h202, h203⟩ := h196
        obtain rfl := h202
        obtain ⟨c204, c205, rfl, h206, h207⟩ := h203
        obtain rfl := h206
        obtain ⟨v198, rfl, h199⟩ := rd_list h207
        have hlt := lt_of_idx (idx_some e194).2
        refine lx_q (ePtr p0 (x111.toNat * 3)) S trivial (by decide) (q_indexAddr rfl (h0).isSl rfl (idx_some e194).1 hlt Try.underlying25 Try.sizeOf58) (fun a S => ?_)
        refine lx_q (pAdd (ePtr p0 (x111.toNat * 3)) 0) S trivial (by decide) (q_fieldAddr' 0 4 rfl ((hat197 0 _ rfl).isP) Try.underlying58 rfl Try.sizeOf4) (fun a S => ?_)
        refine lx_q (.bool x193.1) S trivial (by decide) (q_load1 rfl Try.isAgg4 (fun w1 hC => (At.of_add (m := 0) (j := 0) ((hat197 0 _ rfl).ext hC.ext)))) (fun a S => ?_)
        refine lx_q (.bool (!x193.1)) S trivial (by decide) (q_not rfl) (fun a S => ?_)
        refine lx_q p0 S trivial (by decide) (q_move rfl) (fun a S => ?_)
        refine lx_q (.int .i64 x111) S trivial (by decide) (q_move rfl) (fun a S => ?_)
        obtain ⟨x208, e209, hm⟩ := bind_some hm
        obtain ⟨c210, h211, hat212⟩ := (h0).elem (idx_some e209).2
        obtain ⟨c215, c216, rfl, h217, h218⟩ := h211
        obtain rfl := h217
        obtain ⟨c219, c220, rfl, h221, h222⟩ := h218
        obtain rfl := h221
        obtain ⟨v213, rfl, h214⟩ := rd_list h222
        have hlt := lt_of_idx (idx_some e209).2
        refine lx_q (ePtr p0 (x111.toNat * 3)) S trivial (by decide) (q_indexAddr rfl (h0).isSl rfl (idx_some e209).1 hlt Try.underlying25 Try.sizeOf58) (fun a S => ?_)
        refine lx_q (pAdd (ePtr p0 (x111.toNat * 3)) 1) S trivial (by decide) (q_fieldAddr' 1 4 rfl ((hat212 0 _ rfl).isP) Try.underlying58 rfl Try.sizeOf4) (fun a S => ?_)
        refine lx_q (.bool x208.2.1) S trivial (by decide) (q_load1 rfl Try.isAgg4 (fun w1 hC => (At.of_add (m := 1) (j := 0) ((hat212 1 _ rfl).ext hC.ext)))) (fun a S => ?_)
        refine lx_q (.bool (!x208.2.1)) S trivial (by decide) (q_not rfl) (fun a S => ?_)
        refine lx_q p0 S trivial (by decide) (q_move rfl) (fun a S => ?_)
        refine lx_q (.int .i64 x111) S trivial (by decide) (q_move rfl) (fun a S => ?_)
        obtain ⟨x223, e224, hm⟩ := bind_some hm
        obtain ⟨c225, h226, hat227⟩ := (h0).elem (idx_some e224).2
        obtain ⟨c230, c231, rfl, h232, h233⟩ := h226
        obtain rfl := h232
        obtain ⟨c234, c235, rfl, h236, h237⟩ := h233
        obtain rfl := h236
        obtain ⟨v228, rfl, h229⟩ := rd_list h237
        have hlt := lt_of_idx (idx_some e224).2
        refine lx_q (ePtr p0 (x111.toNat * 3)) S trivial (by decide) (q_indexAddr rfl (h0).isSl rfl (idx_some e224).1 hlt Try.underlying25 Try.sizeOf58) (fun a S => ?_)
        refine lx_q (pAdd (ePtr p0 (x111.toNat * 3)) 2) S trivial (by decide) (q_fieldAddr' 2 29 rfl ((hat227 0 _ rfl).isP) Try.underlying58 rfl Try.sizeOf29) (fun a S => ?_)
        refine lx_q v228 S trivial (by decide) (q_load1 rfl Try.isAgg29 (fun w1 hC => (At.of_add (m := 2) (j := 0) ((hat227 2 _ rfl).ext hC.ext)))) (fun a S => ?_)
        obtain ⟨x240, e241, hm⟩ := bind_some hm
        refine lx_call (xs := [.tmp 33]) S trivial (by decide) rfl rfl Try.call58 ((spec_l00Own_ok (H.arg h229) e241).mono ?_)
        rintro e w238 ⟨v242, rfl, Hc239⟩
        have he244 := Hc239.ext
        have H := H.call1 Hc239
        refine ⟨_, rfl, H.sel [] (by decide), fun a S => ?_⟩
        refine lx_q (.agg #[(.bool (!x193.1)), (.bool (!x208.2.1)), v242]) S trivial (by decide) (q_build (zs := [(.bool false), (.bool false), (.slice none 0 0)]) (szs := [1, 1, 1]) (ps := [(0, [(.bool (!x193.1))]), (1, [(.bool (!x208.2.1))]), (2, [v242])]) (parts := [(0, .tmp 22), (1, .tmp 28), (2, .tmp 34)]) rfl Try.underlying58 Try.zeroValue58 (fun w => by simp [Try.sizeOf29, Try.sizeOf4]) ⟨rfl, rfl, Nat.le_of_ble_eq_true rfl, ⟨rfl, rfl, Nat.le_of_ble_eq_true rfl, ⟨rfl, (cells_sl (H.isSl 0 rfl)), Nat.le_of_ble_eq_true rfl, trivial⟩⟩⟩ rfl) (fun a S => ?_)
        refine lx_buildSlice (r := Rimpl_Equation) (xs := [((!x193.1), (!x208.2.1), x240)]) (ps := [(0, [(.bool (!x193.1)), (.bool (!x208.2.1)), v242])]) (cs := [(.bool (!x193.1)), (.bool (!x208.2.1)), v242]) (parts := [(0, .tmp 35)]) S trivial (by decide) rfl H rfl Try.underlying25 Try.sizeOf58 Try.zeroValue58 (by decide) ⟨rfl, rfl, Nat.le_of_ble_eq_true rfl, trivial⟩ (by intro zs hz; exact fill_dense hz ⟨rfl, trivial⟩ rfl rfl) rfl (by decide) (fun w F hA => ownL_one_mk (ownF ⟨_, _, [(.bool (!x193.1))], [(.bool (!x208.2.1)), v242], rfl, rfl, ⟨rfl, rfl⟩, ⟨_, _, [(.bool (!x208.2.1))], [v242], rfl, rfl, ⟨rfl, rfl⟩, (oA_list.1 hA)⟩⟩)) (fun v245 w246 H => ⟨H.sel [] (by decide), fun a S => ?_⟩)
        obtain ⟨x248, e249, hm⟩ := bind_some hm
        obtain ⟨hle, hap⟩ := app_some e249
        replace hap := hap.symm
        subst hap
        have H : Heap w0 [oA (rList Rimpl_Equation) v245 [((!x193.1), (!x208.2.1), x240)], oA (rList Rimpl_Equation) v108 xs109] w246 := H.front 0 rfl
        have H : Heap w0 [oA (rList Rimpl_Equation) v108 xs109, oA (rList Rimpl_Equation) v245 [((!x193.1), (!x208.2.1), x240)]] w246 := H.front 1 rfl
        refine lx_appendOwn (r := Rimpl_Equation) S trivial (by decide) rfl H rfl rfl Try.underlying25 Try.ti58 rfl rfl rfl (by decide) (by decide) hle (fun v250 w251 H => ⟨H.sel [] (by decide), fun a S => ?_⟩)
        refine lx_q v250 S trivial (by decide) (q_assign rfl) (fun a S => ?_)
        refine lx_nil ?_
        refine inBlock_norm ?_
        refine thenN ?_
        refine region_plain ?_
        refine lx_q (.int .i64 x111) S trivial (by decide) (q_move rfl) (fun a S => ?_)
        refine lx_q (.int .i64 (W (x111 + (1 : Int)))) S trivial (by decide) (q_add rfl rfl) (fun a S => ?_)
        refine lx_q (.int .i64 (W (x111 + (1 : Int)))) S trivial (by decide) (q_assign rfl) (fun a S => ?_)
        refine lx_nil ?_
        exact ⟨m187, Nat.lt_succ_self _, (xs109 ++ [((!x193.1), (!x208.2.1), x240)]), (W (x111 + (1 : Int))), v250, S.sub ⟨rfl, rfl, rfl, trivial⟩, H, it_cont hm hc189⟩
      · have hm := ite_f hc190 hm
        refine wp_exit ?_
        refine then_exit ?_
        refine then_exit ?_
        refine inBlock_exit ?_
        obtain rfl := it_brk hm hc189
        exact ⟨xs109, v108, S.sub ⟨rfl, trivial⟩, H, rfl⟩

/-- impl.DualEquations -/
def impl_DualEquations_m (fuel : Nat) (a0 : (List Timpl_Equation)) : Option (((List Timpl_Equation) × Int)) :=
  (impl_ValidEquations_m fuel a0).bind fun x33 => (if (!x33) = true then some (([], (1 : Int))) else (iter (fun (s : (List Timpl_Equation) × (Int)) => (match s with | (xs81, x83) => (if (decide (x83 < (a0.length : Int))) = true then (idx a0 x83).bind fun x138 => (slices_Clone__int64_int64_m fuel x138.2.2).bind fun x161 => (app xs81 [((!x138.1), (!x138.2.1), x161)]).bind fun x169 => some (.inl (x169, (W (x83 + (1 : Int))))) else some (.inr (.inl (xs81)))) : Option (((List Timpl_Equation) × (Int)) ⊕ (((List Timpl_Equation)) ⊕ (((List Timpl_Equation) × Int)))))) fuel ([], (0 : Int))).bind fun res128 => ctl (β := (List Timpl_Equation)) (ρ := ((List Timpl_Equation) × Int)) (τ := ((List Timpl_Equation) × Int)) res128 (fun (xs126) => some ((xs126, (0 : Int)))) (fun q => some (q)))
set_option maxRecDepth 20000 in
theorem impl_DualEquations_ok {w0 : World} {fuel : Nat} {p0 : Value} {a0 : (List Timpl_Equation)} {r : ((List Timpl_Equation) × Int)} (h0 : Rd (rList Rimpl_Equation) w0 p0 a0) (hm : impl_DualEquations_m fuel a0 = some r) :
    Calls Try.prog 32 #[p0] w0 fun e w => ∃ (v0 : Value), e = .returned (.tuple #[v0, .int .i64 r.2]) ∧ Heap w0 [oA (rList Rimpl_Equation) v0 r.1] w := by
  unfold impl_DualEquations_m at hm
  have H := Heap.start w0
  refine enter (args := [p0]) Try.func32 rfl 31 rfl (Nat.le_of_ble_eq_true rfl) (fun a S => ?_)
  refine wp_seq ?_
  refine region_plain ?_
  refine lx_q (.slice none 0 0) S trivial (by decide) (q_assign rfl) (fun a S => ?_)
  refine lx_q (.int .i64 (0 : Int)) S trivial (by decide) (q_assign rfl) (fun a S => ?_)
  refine lx_nil ?_
  refine thenN ?_
  refine wp_seq ?_
  refine wp_seq ?_
  refine region_plain ?_
  refine lx_q p0 S trivial (by decide) (q_move rfl) (fun a S => ?_)
  obtain ⟨x33, e34, hm⟩ := bind_some hm
  refine lx_call (xs := [.tmp 7]) S trivial (by decide) rfl rfl Try.call12 ((impl_ValidEquations_ok (H.arg h0) e34).mono ?_)
  rintro e w31 ⟨rfl, Hc32⟩
  have he35 := Hc32.ext
  have H := H.call0 Hc32
  refine ⟨_, rfl, trivial, fun a S => ?_⟩
  refine lx_q (.bool (!x33)) S trivial (by decide) (q_not rfl) (fun a S => ?_)
  refine lx_nil ?_
  refine thenN ?_
  refine cond_b S rfl (fun hc36 => ?_) (fun hc36 => ?_)
  · have hm := ite_t hc36 hm
    refine wp_seq ?_
    refine region_plain ?_
    refine lx_q (.slice none 0 0) S trivial (by decide) (q_assign rfl) (fun a S => ?_)
    refine lx_q (.int .i64 (1 : Int)) S trivial (by decide) (q_assign rfl) (fun a S => ?_)
    refine lx_nil ?_
    refine thenN ?_
    refine wp_ret ?_
    refine then_ret ?_
    obtain rfl := Option.some.inj hm
    have H : Heap w0 [oA (rList Rimpl_Equation) (.slice none 0 0) ([] : List Timpl_Equation)] w31 := H.nilList Rimpl_Equation
    exact leave2 S rfl rfl rfl ⟨(.slice none 0 0), rfl, H⟩
  · have hm := ite_f hc36 hm
    refine wp_skip ?_
    refine thenN ?_
    refine wp_seq ?_
    refine region_plain ?_
    refine lx_q (.slice none 0 0) S trivial (by decide) (q_assign rfl) (fun a S => ?_)
    refine lx_nil ?_
    refine thenN ?_
    refine wp_seq ?_
    refine wp_seq ?_
    refine region_plain ?_
    refine lx_q p0 S trivial (by decide) (q_move rfl) (fun a S => ?_)
    refine lx_q (.int .i64 (a0.length : Int)) S trivial (by decide) (q_lenSl rfl (h0).isSl rfl Try.underlying25) (fun a S => ?_)
    refine lx_q (.int .i64 (0 : Int)) S trivial (by decide) (q_move rfl) (fun a S => ?_)
    refine lx_nil ?_
    refine thenN ?_
    obtain ⟨res128, hit129, hk132⟩ := bind_some hm
    obtain ⟨f130, hf131, hit129⟩ := iter_name hit129
    refine block_loop (fun a w => ∃ (xs126 : List Timpl_Equation) (v125 : Value), Slots a 31 [(4, v125)] ∧ Heap w0 [oA (rList Rimpl_Equation) v125 xs126] w ∧ res128 = .inl (xs126)) ?_ ?_
    · rintro a w ⟨xs126, v125, S, H, rfl⟩
      have hm := ctl_inl hk132
      refine thenN ?_
      refine wp_seq ?_
      refine region_plain ?_
      refine lx_q v125 S trivial (by decide) (q_move rfl) (fun a S => ?_)
      refine lx_q v125 S trivial (by decide) (q_assign rfl) (fun a S => ?_)
      refine lx_q (.int .i64 (0 : Int)) S trivial (by decide) (q_assign rfl) (fun a S => ?_)
      refine lx_nil ?_
      refine thenN ?_
      refine wp_ret ?_
      obtain rfl := Option.some.inj hm
      exact leave2 S rfl rfl rfl ⟨v125, rfl, H⟩
    · skip
      have H : Heap w0 [oA (rList Rimpl_Equation) (.slice none 0 0) ([] : List Timpl_Equation)] w31 := H.nilList Rimpl_Equation
      refine loop_ghost (fun n a w => ∃ (xs81 : List Timpl_Equation) (x83 : Int) (v80 : Value), Slots a 31 [(4, v80), (10, p0), (11, (.int .i64 (a0.length : Int))), (12, (.int .i64 x83))] ∧ Heap w0 [oA (rList Rimpl_Equation) v80 xs81] w ∧ iter f130 n (xs81, x83) = some res128) _ ⟨[], (0 : Int), (.slice none 0 0), S.sub ⟨rfl, rfl, rfl, rfl, trivial⟩, H, hit129⟩ ?_
      rintro n a w ⟨xs81, x83, v80, S, H, hit129⟩
      obtain ⟨m134, o135, rfl, hm, hc136⟩ := iter_step hit129
      rw [hf131] at hm
      refine wp_seq ?_
      refine region_plain ?_
      refine lx_q (.bool (decide (x83 < (a0.length : Int)))) S trivial (by decide) (q_lss rfl rfl) (fun a S => ?_)
      refine lx_nil ?_
      refine thenN ?_
      refine wp_seq ?_
      refine cond_b S rfl (fun hc137 => ?_) (fun hc137 => ?_)
      · have hm := ite_t hc137 hm
        refine wp_skip ?_
        refine thenN ?_
        refine wp_seq ?_
        refine wp_block ?_
        refine wp_seq ?_
        refine region_plain ?_
        obtain ⟨x138, e139, hm⟩ := bind_some hm
        obtain ⟨c140, h141, hat142⟩ := (h0).elem (idx_some e139).2
        obtain ⟨c145, c146, rfl, h147, h148⟩ := h141
        obtain rfl := h147
        obtain ⟨c149, c150, rfl, h151, h152⟩ := h148
        obtain rfl := h151
        obtain ⟨v143, rfl, h144⟩ := rd_list h152
        have hlt := lt_of_idx (idx_some e139).2
        refine lx_q (ePtr p0 (x83.toNat * 3)) S trivial (by decide) (q_indexAddr rfl (h0).isSl rfl (idx_some e139).1 hlt Try.underlying25 Try.sizeOf58) (fun a S => ?_)
        refine lx_e (.agg #[(.bool x138.1), (.bool x138.2.1), v143]) S trivial (by decide) rfl trivial (q_loadA (cs := [(.bool x138.1), (.bool x138.2.1), v143]) rfl ((hat142 0 _ rfl).isP) Try.isAgg58 Try.sizeOf58 (by rintro _ rfl; exact (fun j u hu => (hat142 j u hu).ext H.ext))) (fun a S => ?_)
        refine lx_alloc S trivial (by decide) rfl H Try.zeroValue58 rfl (fun b153 w154 H => ⟨trivial, fun a S => ?_⟩)
        refine lx_storeBox (o := 0) (i := 0) (us := [(.bool x138.1), (.bool x138.2.1), v143]) (cs' := [(.bool x138.1), (.bool x138.2.1), v143]) S trivial rfl H rfl rfl rfl rfl Try.sizeOf58 (Nat.le_of_ble_eq_true rfl) (List.forall_mem_cons.2 ⟨rfl, (List.forall_mem_cons.2 ⟨rfl, (List.forall_mem_cons.2 ⟨one_sl (h144).isSl, (fun _ h => nomatch h)⟩)⟩)⟩) rfl (fun w156 H => ⟨trivial, fun a S => ?_⟩)
        change Heap w0 [bA b153 [(.bool x138.1), (.bool x138.2.1), v143] 58, oA (rList Rimpl_Equation) v80 xs81] w156 at H
        refine lx_nil ?_
        refine thenN ?_
        refine region_drawG (fun w1 => Heap w0 [bA b153 [(.bool x138.1), (.bool x138.2.1), v143] 58] w1) (fun i => [9, 11, 12].contains i) mixed (by kernel_rfl) (fun w158 he157 => ?_)
        have H := H.later he157
        refine ⟨H.sel [0] (by decide), ?_⟩
        refine lx_q v80 S trivial (by decide) (q_move rfl) (fun a S => ?_)
        refine lx_q (pAdd (bp b153) 0) S trivial (by decide) (q_fieldAddr' 0 4 rfl (isP_bp _) Try.underlying58 rfl Try.sizeOf4) (fun a S => ?_)
        refine lx_q (.bool x138.1) S trivial (by decide) (q_load1 rfl Try.isAgg4 (fun w1 hC => (At.of_add (m := 0) (j := 0) (boxAt (i := 0) hC rfl (j := 0) rfl)))) (fun a S => ?_)
        refine lx_q (.bool (!x138.1)) S trivial (by decide) (q_not rfl) (fun a S => ?_)
        refine lx_q (pAdd (bp b153) 1) S trivial (by decide) (q_fieldAddr' 1 4 rfl (isP_bp _) Try.underlying58 rfl Try.sizeOf4) (fun a S => ?_)
        refine lx_q (.bool x138.2.1) S trivial (by decide) (q_load1 rfl Try.isAgg4 (fun w1 hC => (At.of_add (m := 1) (j := 0) (boxAt (i := 0) hC rfl (j := 1) rfl)))) (fun a S => ?_)
        refine lx_q (.bool (!x138.2.1)) S trivial (by decide) (q_not rfl) (fun a S => ?_)
        refine lx_q (pAdd (bp b153) 2) S trivial (by decide) (q_fieldAddr' 2 29 rfl (isP_bp _) Try.underlying58 rfl Try.sizeOf29) (fun a S => ?_)
        refine lx_q v143 S trivial (by decide) (q_load1 rfl Try.isAgg29 (fun w1 hC => (At.of_add (m := 2) (j := 0) (boxAt (i := 0) hC rfl (j := 2) rfl)))) (fun a S => ?_)
        obtain ⟨x161, e162, hm⟩ := bind_some hm
        refine lx_call (xs := [.tmp 24]) S trivial (by decide) rfl rfl Try.call59 ((slices_Clone__int64_int64_ok (H.arg h144) e162).mono ?_)
        rintro e w159 ⟨v163, rfl, Hc160⟩
        have he165 := Hc160.ext
        have H := H.call1 Hc160
        refine ⟨_, rfl, H.sel [1] (by decide), fun a S => ?_⟩
        refine lx_q (.agg #[(.bool (!x138.1)), (.bool (!x138.2.1)), v163]) S trivial (by decide) (q_build (zs := [(.bool false), (.bool false), (.slice none 0 0)]) (szs := [1, 1, 1]) (ps := [(0, [(.bool (!x138.1))]), (1, [(.bool (!x138.2.1))]), (2, [v163])]) (parts := [(0, .tmp 19), (1, .tmp 22), (2, .tmp 25)]) rfl Try.underlying58 Try.zeroValue58 (fun w => by simp [Try.sizeOf29, Try.sizeOf4]) ⟨rfl, rfl, Nat.le_of_ble_eq_true rfl, ⟨rfl, rfl, Nat.le_of_ble_eq_true rfl, ⟨rfl, (cells_sl (H.isSl 0 rfl)), Nat.le_of_ble_eq_true rfl, trivial⟩⟩⟩ rfl) (fun a S => ?_)
        refine lx_buildSlice (r := Rimpl_Equation) (xs := [((!x138.1), (!x138.2.1), x161)]) (ps := [(0, [(.bool (!x138.1)), (.bool (!x138.2.1)), v163])]) (cs := [(.bool (!x138.1)), (.bool (!x138.2.1)), v163]) (parts := [(0, .tmp 26)]) S trivial (by decide) rfl H rfl Try.underlying25 Try.sizeOf58 Try.zeroValue58 (by decide) ⟨rfl, rfl, Nat.le_of_ble_eq_true rfl, trivial⟩ (by intro zs hz; exact fill_dense hz ⟨rfl, trivial⟩ rfl rfl) rfl (by decide) (fun w F hA => ownL_one_mk (ownF ⟨_, _, [(.bool (!x138.1))], [(.bool (!x138.2.1)), v163], rfl, rfl, ⟨rfl, rfl⟩, ⟨_, _, [(.bool (!x138.2.1))], [v163], rfl, rfl, ⟨rfl, rfl⟩, (oA_list.1 hA)⟩⟩)) (fun v166 w167 H => ⟨H.sel [1] (by decide), fun a S => ?_⟩)
        obtain ⟨x169, e170, hm⟩ := bind_some hm
        obtain ⟨hle, hap⟩ := app_some e170
        replace hap := hap.symm
        subst hap
        have H : Heap w0 [oA (rList Rimpl_Equation) v166 [((!x138.1), (!x138.2.1), x161)], bA b153 [(.bool x138.1), (.bool x138.2.1), v143] 58, oA (rList Rimpl_Equation) v80 xs81] w167 := H.front 0 rfl
        have H : Heap w0 [oA (rList Rimpl_Equation) v80 xs81, oA (rList Rimpl_Equation) v166 [((!x138.1), (!x138.2.1), x161)], bA b153 [(.bool x138.1), (.bool x138.2.1), v143] 58] w167 := H.front 2 rfl
        refine lx_appendOwn (r := Rimpl_Equation) S trivial (by decide) rfl H rfl rfl Try.underlying25 Try.ti58 rfl rfl rfl (by decide) (by decide) hle (fun v171 w172 H => ⟨H.sel [1] (by decide), fun a S => ?_⟩)
        refine lx_q v171 S trivial (by decide) (q_assign rfl) (fun a S => ?_)
        refine lx_nil ?_
        refine inBlock_norm ?_
        refine thenN ?_
        refine region_plain ?_
        refine lx_q (.int .i64 (W (x83 + (1 : Int)))) S trivial (by decide) (q_add rfl rfl) (fun a S => ?_)
        refine lx_q (.int .i64 (W (x83 + (1 : Int)))) S trivial (by decide) (q_move rfl) (fun a S => ?_)
        refine lx_nil ?_
        have H : Heap w0 [oA (rList Rimpl_Equation) v171 (xs81 ++ [((!x138.1), (!x138.2.1), x161)])] w172 := H.sel [0] (by decide)
        exact ⟨m134, Nat.lt_succ_self _, (xs81 ++ [((!x138.1), (!x138.2.1), x161)]), (W (x83 + (1 : Int))), v171, S.sub ⟨rfl, rfl, rfl, rfl, trivial⟩, H, it_cont hm hc136⟩
      · have hm := ite_f hc137 hm
        refine wp_exit ?_
        refine then_exit ?_
        refine then_exit ?_
        refine inBlock_exit ?_
        obtain rfl := it_brk hm hc136
        exact ⟨xs81, v80, S.sub ⟨rfl, trivial⟩, H, rfl⟩

/-- laws.heldEquationS -/
def laws_heldEquationS_m (fuel : Nat) (a0 : (List Timpl_Equation)) (a1 : Int) : Option (Int) :=
  (iter (fun (s : (Int) × (Int)) => (match s with | (x87, x88) => (if (decide (x88 < (a0.length : Int))) = true then (idx a0 x88).bind fun x155 => (if (x155.1 != ((x87.tmod (3 : Int)) == (0 : Int))) = true then some (.inr (.inr (-1 : Int))) else (idx a0 x88).bind fun x171 => (if (x171.2.1 != (((W (x87 + (1 : Int))).tmod (3 : Int)) == (0 : Int))) = true then some (.inr (.inr (-1 : Int))) else (idx a0 x88).bind fun x187 => (laws_heldInt64S_m fuel x187.2.2 (W ((W (x87 + (1 : Int))) + (1 : Int)))).bind fun x204 => (if (decide (x204 < (0 : Int))) = true then some (.inr (.inr (-1 : Int))) else some (.inl (x204, (W (x88 + (1 : Int)))))))) else some (.inr (.inl (x87)))) : Option (((Int) × (Int)) ⊕ ((Int) ⊕ (Int))))) fuel (a1, (0 : Int))).bind fun res146 => ctl (β := Int) (ρ := Int) (τ := Int) res146 (fun (x145) => some (x145)) (fun q => some (q))
set_option maxRecDepth 20000 in
theorem laws_heldEquationS_ok {w0 : World} {fuel : Nat} {p0 : Value} {a0 : (List Timpl_Equation)} {a1 : Int} {r : Int} (h0 : Rd (rList Rimpl_Equation) w0 p0 a0) (hm : laws_heldEquationS_m fuel a0 a1 = some r) :
    Calls Try.prog 33 #[p0, .int .i64 a1] w0 fun e w => e = .returned (.int .i64 r) ∧ Heap w0 [] w := by
  unfold laws_heldEquationS_m at hm
  have H := Heap.start w0
  refine enter (args := [p0, .int .i64 a1]) Try.func33 rfl 44 rfl (Nat.le_of_ble_eq_true rfl) (fun a S => ?_)
  refine wp_seq ?_
  refine region_plain ?_
  refine lx_q (.int .i64 (0 : Int)) S trivial (by decide) (q_assign rfl) (fun a S => ?_)
  refine lx_nil ?_
  refine thenN ?_
  refine wp_seq ?_
  refine wp_seq ?_
  refine region_plain ?_
  refine lx_q (.int .i64 (0 : Int)) S trivial (by decide) (q_assign rfl) (fun a S => ?_)
  refine lx_nil ?_
  refine thenN ?_
  obtain ⟨res146, hit147, hk150⟩ := bind_some hm
  obtain ⟨f148, hf149, hit147⟩ := iter_name hit147
  refine block_loop (fun a w => ∃ (x145 : Int), Slots a 44 [(1, (.int .i64 x145))] ∧ Heap w0 [] w ∧ res146 = .inl (x145)) ?_ ?_
  · rintro a w ⟨x145, S, H, rfl⟩
    have hm := ctl_inl hk150
    refine thenN ?_
    refine wp_seq ?_
    refine region_plain ?_
    refine lx_q (.int .i64 x145) S trivial (by decide) (q_move rfl) (fun a S => ?_)
    refine lx_q (.int .i64 x145) S trivial (by decide) (q_assign rfl) (fun a S => ?_)
    refine lx_nil ?_
    refine thenN ?_
    refine wp_ret ?_
    obtain rfl := Option.some.inj hm
    exact leave1 S rfl rfl ⟨rfl, H⟩
  · skip
    refine loop_ghost (fun n a w => ∃ (x87 : Int) (x88 : Int), Slots a 44 [(0, p0), (1, (.int .i64 x87)), (5, (.int .i64 x88))] ∧ Heap w0 [] w ∧ iter f148 n (x87, x88) = some res146) _ ⟨a1, (0 : Int), S.sub ⟨rfl, rfl, rfl, trivial⟩, H, hit147⟩ ?_
    rintro n a w ⟨x87, x88, S, H, hit147⟩
    obtain ⟨m151, o152, rfl, hm, hc153⟩ := iter_step hit147
    rw [hf149] at hm
    refine wp_seq ?_
    refine wp_seq ?_
    refine region_plain ?_
    refine lx_q (.int .i64 x88) S trivial (by decide) (q_move rfl) (fun a S => ?_)
    refine lx_q p0 S trivial (by decide) (q_move rfl) (fun a S => ?_)
    refine lx_q (.int .i64 (a0.length : Int)) S trivial (by decide) (q_lenSl rfl (h0).isSl rfl Try.underlying25) (fun a S => ?_)
    refine lx_q (.bool (decide (x88 < (a0.length : Int)))) S trivial (by decide) (q_lss rfl rfl) (fun a S => ?_)
    refine lx_nil ?_
    refine thenN ?_
    refine cond_b S rfl (fun hc154 => ?_) (fun hc154 => ?_)
    · have hm := ite_t hc154 hm
      refine wp_skip ?_
      refine thenN ?_
      refine wp_seq ?_
      refine wp_block ?_
      refine wp_seq ?_
      refine wp_seq ?_
      refine region_plain ?_
      refine lx_q p0 S trivial (by decide) (q_move rfl) (fun a S => ?_)
      refine lx_q (.int .i64 x88) S trivial (by decide) (q_move rfl) (fun a S => ?_)
      obtain ⟨x155, e156, hm⟩ := bind_some hm
      obtain ⟨c157, h158, hat159⟩ := (h0).elem (idx_some e156).2
      obtain ⟨c162, c163, rfl, h164, h165⟩ := h158
      obtain rfl := h164
      obtain ⟨c166, c167, rfl, h168, h169⟩ := h165
      obtain rfl := h168
      obtain ⟨v160, rfl, h161⟩ := rd_list h169
      have hlt := lt_of_idx (idx_some e156).2
      refine lx_q (ePtr p0 (x88.toNat * 3)) S trivial (by decide) (q_indexAddr rfl (h0).isSl rfl (idx_some e156).1 hlt Try.underlying25 Try.sizeOf58) (fun a S => ?_)
      refine lx_q (pAdd (ePtr p0 (x88.toNat * 3)) 0) S trivial (by decide) (q_fieldAddr' 0 4 rfl ((hat159 0 _ rfl).isP) Try.underlying58 rfl Try.sizeOf4) (fun a S => ?_)
      refine lx_e (.bool x155.1) S trivial (by decide) rfl trivial (q_load1 rfl Try.isAgg4 (by rintro _ rfl; exact (At.of_add (m := 0) (j := 0) ((hat159 0 _ rfl).ext H.ext)))) (fun a S => ?_)
      refine lx_q (.int .i64 x87) S trivial (by decide) (q_move rfl) (fun a S => ?_)
      refine lx_q (.int .i64 (x87.tmod (3 : Int))) S trivial (by decide) (q_rem rfl rfl (show (3 : Int) ≠ 0 from by decide)) (fun a S => ?_)
      refine lx_q (.bool ((x87.tmod (3 : Int)) == (0 : Int))) S trivial (by decide) (q_eql rfl rfl) (fun a S => ?_)
      refine lx_q (.bool (x155.1 != ((x87.tmod (3 : Int)) == (0 : Int)))) S trivial (by decide) (q_bneq rfl rfl Try.underlying4) (fun a S => ?_)
      refine lx_nil ?_
      refine thenN ?_
      refine cond_b S rfl (fun hc170 => ?_) (fun hc170 => ?_)
      · have hm := ite_t hc170 hm
        refine wp_seq ?_
        refine region_plain ?_
        refine lx_q (.int .i64 (-1 : Int)) S trivial (by decide) (q_assign rfl) (fun a S => ?_)
        refine lx_nil ?_
        refine thenN ?_
        refine wp_ret ?_
        refine then_ret ?_
        refine inBlock_ret ?_
        refine then_ret ?_
        refine then_ret ?_
        refine inBlock_ret ?_
        refine then_ret ?_
        refine then_ret ?_
        obtain rfl := it_brk hm hc153
        have hm := ctl_inr hk150
        obtain rfl := Option.some.inj hm
        exact leave1 S rfl rfl ⟨rfl, H⟩
      · have hm := ite_f hc170 hm
        refine wp_skip ?_
        refine thenN ?_
        refine wp_seq ?_
        refine region_plain ?_
        refine lx_q (.int .i64 x87) S trivial (by decide) (q_move rfl) (fun a S => ?_)
        refine lx_q (.int .i64 (W (x87 + (1 : Int)))) S trivial (by decide) (q_add rfl rfl) (fun a S => ?_)
        refine lx_q (.int .i64 (W (x87 + (1 : Int)))) S trivial (by decide) (q_assign rfl) (fun a S => ?_)
        refine lx_nil ?_
        refine thenN ?_
        refine wp_seq ?_
        refine wp_seq ?_
        refine region_plain ?_
        refine lx_q p0 S trivial (by decide) (q_move rfl) (fun a S => ?_)
        refine lx_q (.int .i64 x88) S trivial (by decide) (q_move rfl) (fun a S => ?_)
        obtain ⟨x171, e172, hm⟩ := bind_some hm
        obtain ⟨c173, h174, hat175⟩ := (h0).elem (idx_some e172).2
        obtain ⟨c178, c179, rfl, h180, h181⟩ := h174
        obtain rfl := h180
        obtain ⟨c182, c183, rfl, h184, h185⟩ := h181
        obtain rfl := h184
        obtain ⟨v176, rfl, h177⟩ := rd_list h185
        have hlt := lt_of_idx (idx_some e172).2
        refine lx_q (ePtr p0 (x88.toNat * 3)) S trivial (by decide) (q_indexAddr rfl (h0).isSl rfl (idx_some e172).1 hlt Try.underlying25 Try.sizeOf58) (fun a S => ?_)
        refine lx_q (pAdd (ePtr p0 (x88.toNat * 3)) 1) S trivial (by decide) (q_fieldAddr' 1 4 rfl ((hat175 0 _ rfl).isP) Try.underlying58 rfl Try.sizeOf4) (fun a S => ?_)
        refine lx_e (.bool x171.2.1) S trivial (by decide) rfl trivial (q_load1 rfl Try.isAgg4 (by rintro _ rfl; exact (At.of_add (m := 1) (j := 0) ((hat175 1 _ rfl).ext H.ext)))) (fun a S => ?_)
        refine lx_q (.int .i64 (W (x87 + (1 : Int)))) S trivial (by decide) (q_move rfl) (fun a S => ?_)
        refine lx_q (.int .i64 ((W (x87 + (1 : Int))).tmod (3 : Int))) S trivial (by decide) (q_rem rfl rfl (show (3 : Int) ≠ 0 from by decide)) (fun a S => ?_)
        refine lx_q (.bool (((W (x87 + (1 : Int))).tmod (3 : Int)) == (0 : Int))) S trivial (by decide) (q_eql rfl rfl) (fun a S => ?_)
        refine lx_q (.bool (x171.2.1 != (((W (x87 + (1 : Int))).tmod (3 : Int)) == (0 : Int)))) S trivial (by decide) (q_bneq rfl rfl Try.underlying4) (fun a S => ?_)
        refine lx_nil ?_
        refine thenN ?_
        refine cond_b S rfl (fun hc186 => ?_) (fun hc186 => ?_)
        · have hm := ite_t hc186 hm
          refine wp_seq ?_
          refine region_plain ?_
          refine lx_q (.int .i64 (-1 : Int)) S trivial (by decide) (q_assign rfl) (fun a S => ?_)
          refine lx_nil ?_
          refine thenN ?_
          refine wp_ret ?_
          refine then_ret ?_
          refine inBlock_ret ?_
          refine then_ret ?_
          refine then_ret ?_
          refine inBlock_ret ?_
          refine then_ret ?_
          refine then_ret ?_
          obtain rfl := it_brk hm hc153
          have hm := ctl_inr hk150
          obtain rfl := Option.some.inj hm
          exact leave1 S rfl rfl ⟨rfl, H⟩
        · have hm := ite_f hc186 hm
          refine wp_skip ?_
          refine thenN ?_
          refine wp_seq ?_
          refine region_plain ?_
          refine lx_q (.int .i64 (W (x87 + (1 : Int)))) S trivial (by decide) (q_move rfl) (fun a S => ?_)
          refine lx_q (.int .i64 (W ((W (x87 + (1 : Int))) + (1 : Int)))) S trivial (by decide) (q_add rfl rfl) (fun a S => ?_)
          refine lx_q (.int .i64 (W ((W (x87 + (1 : Int))) + (1 : Int)))) S trivial (by decide) (q_assign rfl) (fun a S => ?_)
          refine lx_nil ?_
          refine thenN ?_
          refine wp_seq ?_
          refine region_plain ?_
          refine lx_q p0 S trivial (by decide) (q_move rfl) (fun a S => ?_)
          refine lx_q (.int .i64 x88) S trivial (by decide) (q_move rfl) (fun a S => ?_)
          obtain ⟨x187, e188, hm⟩ := bind_some hm
          obtain ⟨c189, h190, hat191⟩ := (h0).elem (idx_some e188).2
          obtain ⟨c194, c195, rfl, h196, h197⟩ := h190
          obtain rfl := h196
          obtain ⟨c198, c199, rfl, h200, h201⟩ := h197
          obtain rfl := h200
          obtain ⟨v192, rfl, h193⟩ := rd_list h201
          have hlt := lt_of_idx (idx_some e188).2
          refine lx_q (ePtr p0 (x88.toNat * 3)) S trivial (by decide) (q_indexAddr rfl (h0).isSl rfl (idx_some e188).1 hlt Try.underlying25 Try.sizeOf58) (fun a S => ?_)
          refine lx_q (pAdd (ePtr p0 (x88.toNat * 3)) 2) S trivial (by decide) (q_fieldAddr' 2 29 rfl ((hat191 0 _ rfl).isP) Try.underlying58 rfl Try.sizeOf29) (fun a S => ?_)
          refine lx_e v192 S trivial (by decide) rfl trivial (q_load1 rfl Try.isAgg29 (by rintro _ rfl; exact (At.of_add (m := 2) (j := 0) ((hat191 2 _ rfl).ext H.ext)))) (fun a S => ?_)
          refine lx_q (.int .i64 (W ((W (x87 + (1 : Int))) + (1 : Int)))) S trivial (by decide) (q_move rfl) (fun a S => ?_)
          obtain ⟨x204, e205, hm⟩ := bind_some hm
          refine lx_call (xs := [.tmp 38, .tmp 39]) S trivial (by decide) rfl rfl Try.call19 ((laws_heldInt64S_ok (H.arg h193)  e205).mono ?_)
          rintro e w202 ⟨rfl, Hc203⟩
          have he206 := Hc203.ext
          have H := H.call0 Hc203
          refine ⟨_, rfl, trivial, fun a S => ?_⟩
          refine lx_q (.int .i64 x204) S trivial (by decide) (q_assign rfl) (fun a S => ?_)
          refine lx_nil ?_
          refine thenN ?_
          refine wp_seq ?_
          refine region_plain ?_
          refine lx_q (.int .i64 x204) S trivial (by decide) (q_move rfl) (fun a S => ?_)
          refine lx_q (.bool (decide (x204 < (0 : Int)))) S trivial (by decide) (q_lss rfl rfl) (fun a S => ?_)
          refine lx_nil ?_
          refine thenN ?_
          refine cond_b S rfl (fun hc207 => ?_) (fun hc207 => ?_)
          · have hm := ite_t hc207 hm
            refine wp_seq ?_
            refine region_plain ?_
            refine lx_q (.int .i64 (-1 : Int)) S trivial (by decide) (q_assign rfl) (fun a S => ?_)
            refine lx_nil ?_
            refine thenN ?_
            refine wp_ret ?_
            refine inBlock_ret ?_
            refine then_ret ?_
            refine then_ret ?_
            refine inBlock_ret ?_
            refine then_ret ?_
            refine then_ret ?_
            obtain rfl := it_brk hm hc153
            have hm := ctl_inr hk150
            obtain rfl := Option.some.inj hm
            exact leave1 S rfl rfl ⟨rfl, H⟩
          · have hm := ite_f hc207 hm
            refine wp_skip ?_
            refine inBlock_norm ?_
            refine thenN ?_
            refine region_plain ?_
            refine lx_q (.int .i64 x88) S trivial (by decide) (q_move rfl) (fun a S => ?_)
            refine lx_q (.int .i64 (W (x88 + (1 : Int)))) S trivial (by decide) (q_add rfl rfl) (fun a S => ?_)
            refine lx_q (.int .i64 (W (x88 + (1 : Int)))) S trivial (by decide) (q_assign rfl) (fun a S => ?_)
            refine lx_nil ?_
            exact ⟨m151, Nat.lt_succ_self _, x204, (W (x88 + (1 : Int))), S.sub ⟨rfl, rfl, rfl, trivial⟩, H, it_cont hm hc153⟩
    · have hm := ite_f hc154 hm
      refine wp_exit ?_
      refine then_exit ?_
      refine then_exit ?_
      refine inBlock_exit ?_
      obtain rfl := it_brk hm hc153
      exact ⟨x87, S.sub ⟨rfl, trivial⟩, H, rfl⟩

/-- laws.FnExactDualEquations -/
def laws_FnExactDualEquations_m (fuel : Nat) (a0 : (List Tlaws_Equation)) : Option (Bool) :=
  (laws_szEquationS_m fuel a0 (1048576 : Int)).bind fun x33 => (if (decide (x33 < (0 : Int))) = true then some (true) else (laws_toEquationS_m fuel a0).bind fun x39 => (spec_DualEquations_m fuel x39).bind fun x46 => (laws_toEquationS_m fuel a0).bind fun x53 => (impl_DualEquations_m fuel x53).bind fun x60 => (laws_eqEquationS_m fuel x60.1 x46.1).bind fun x67 => (if (!x67) = true then some true else some (x60.2 != x46.2)).bind fun t70 => (if t70 = true then some (false) else (laws_toEquationS_m fuel a0).bind fun x76 => (laws_eqEquationS_m fuel x53 x76).bind fun x83 => (if (!x83) = true then some (false) else (laws_markEquationS_m fuel x53 (1 : Int)).bind fun x89 => (if (decide (x89.1 < (0 : Int))) = true then some true else (laws_eqEquationS_m fuel x60.1 x46.1).bind fun x96 => some (!x96)).bind fun t91 => (if t91 = true then some true else some (x60.2 != x46.2)).bind fun t99 => (if t99 = true then some (false) else (laws_markEquationS_m fuel x60.1 (1 : Int)).bind fun x105 => (laws_heldEquationS_m fuel x105.2 (1 : Int)).bind fun x109 => (if (decide (x109 < (0 : Int))) = true then some (false) else (if (x109 != x105.1) = true then some (false) else (laws_toEquationS_m fuel a0).bind fun x116 => (impl_DualEquations_m fuel x116).bind fun x123 => (laws_eqEquationS_m fuel x123.1 x46.1).bind fun x130 => (if (!x130) = true then some true else some (x123.2 != x46.2)).bind fun t133 => (if t133 = true then some (false) else (laws_heldEquationS_m fuel x105.2 (1 : Int)).bind fun x139 => (if (decide (x139 < (0 : Int))) = true then some (false) else (if (x139 != x105.1) = true then some (false) else some (true))))))))))
set_option maxRecDepth 20000 in
theorem laws_FnExactDualEquations_ok {w0 : World} {fuel : Nat} {p0 : Value} {a0 : (List Tlaws_Equation)} {r : Bool} (h0 : Rd (rList Rlaws_Equation) w0 p0 a0) (hm : laws_FnExactDualEquations_m fuel a0 = some r) :
    Calls Try.prog 7 #[p0] w0 fun e w => e = .returned (.bool r) ∧ Heap w0 [] w := by
  unfold laws_FnExactDualEquations_m at hm
  have H := Heap.start w0
  refine enter (args := [p0]) Try.func7 rfl 96 rfl (Nat.le_of_ble_eq_true rfl) (fun a S => ?_)
  refine wp_seq ?_
  refine region_plain ?_
  refine lx_q (.bool false) S trivial (by decide) (q_assign rfl) (fun a S => ?_)
  refine lx_nil ?_
  refine thenN ?_
  refine wp_seq ?_
  refine region_plain ?_
  refine lx_q (.int .i64 (1048576 : Int)) S trivial (by decide) (q_assign rfl) (fun a S => ?_)
  refine lx_nil ?_
  refine thenN ?_
  refine wp_seq ?_
  refine region_plain ?_
  refine lx_q p0 S trivial (by decide) (q_move rfl) (fun a S => ?_)
  refine lx_q (.int .i64 (1048576 : Int)) S trivial (by decide) (q_move rfl) (fun a S => ?_)
  obtain ⟨x33, e34, hm⟩ := bind_some hm
  refine lx_call (xs := [.tmp 14, .tmp 15]) S trivial (by decide) rfl rfl Try.call9 ((laws_szEquationS_ok (H.arg h0)  e34).mono ?_)
  rintro e w31 ⟨rfl, Hc32⟩
  have he35 := Hc32.ext
  have H := H.call0 Hc32
  refine ⟨_, rfl, trivial, fun a S => ?_⟩
  refine lx_q (.int .i64 x33) S trivial (by decide) (q_assign rfl) (fun a S => ?_)
  refine lx_nil ?_
  refine thenN ?_
  refine wp_seq ?_
  refine wp_seq ?_
  refine region_plain ?_
  refine lx_q (.int .i64 x33) S trivial (by decide) (q_move rfl) (fun a S => ?_)
  refine lx_q (.bool (decide (x33 < (0 : Int)))) S trivial (by decide) (q_lss rfl rfl) (fun a S => ?_)
  refine lx_nil ?_
  refine thenN ?_
  refine cond_b S rfl (fun hc36 => ?_) (fun hc36 => ?_)
  · have hm := ite_t hc36 hm
    refine wp_seq ?_
    refine region_plain ?_
    refine lx_q (.bool true) S trivial (by decide) (q_assign rfl) (fun a S => ?_)
    refine lx_nil ?_
    refine thenN ?_
    refine wp_ret ?_
    refine then_ret ?_
    obtain rfl := Option.some.inj hm
    exact leave1 S rfl rfl ⟨rfl, H⟩
  · have hm := ite_f hc36 hm
    refine wp_skip ?_
    refine thenN ?_
    refine wp_seq ?_
    refine region_plain ?_
    refine lx_q p0 S trivial (by decide) (q_move rfl) (fun a S => ?_)
    obtain ⟨x39, e40, hm⟩ := bind_some hm
    refine lx_call (xs := [.tmp 20]) S trivial (by decide) rfl rfl Try.call11 ((laws_toEquationS_ok (H.arg h0) e40).mono ?_)
    rintro e w37 ⟨v41, rfl, Hc38⟩
    have he43 := Hc38.ext
    have H := H.call1 Hc38
    refine ⟨_, rfl, trivial, fun a S => ?_⟩
    obtain ⟨x46, e47, hm⟩ := bind_some hm
    refine lx_call (xs := [.tmp 21]) S trivial (by decide) rfl rfl Try.call31 ((spec_DualEquations_ok (H.rdAt 0 rfl) e47).mono ?_)
    rintro e w44 ⟨v48, rfl, Hc45⟩
    have he50 := Hc45.ext
    have H := H.call1 Hc45
    refine ⟨_, rfl, trivial, fun a S => ?_⟩
    refine lx_q (.tuple #[v48, (.int .i64 x46.2)]) S trivial (by decide) (q_move rfl) (fun a S => ?_)
    refine lx_q v48 S trivial (by decide) (q_extract rfl rfl) (fun a S => ?_)
    refine lx_q (.int .i64 x46.2) S trivial (by decide) (q_extract rfl rfl) (fun a S => ?_)
    refine lx_q v48 S trivial (by decide) (q_assign rfl) (fun a S => ?_)
    refine lx_q (.int .i64 x46.2) S trivial (by decide) (q_assign rfl) (fun a S => ?_)
    refine lx_nil ?_
    refine thenN ?_
    refine wp_seq ?_
    refine region_plain ?_
    refine lx_q p0 S trivial (by decide) (q_move rfl) (fun a S => ?_)
    obtain ⟨x53, e54, hm⟩ := bind_some hm
    refine lx_call (xs := [.tmp 25]) S trivial (by decide) rfl rfl Try.call11 ((laws_toEquationS_ok (H.arg h0) e54).mono ?_)
    rintro e w51 ⟨v55, rfl, Hc52⟩
    have he57 := Hc52.ext
    have H := H.call1 Hc52
    refine ⟨_, rfl, trivial, fun a S => ?_⟩
    refine lx_q v55 S trivial (by decide) (q_assign rfl) (fun a S => ?_)
    refine lx_nil ?_
    refine thenN ?_
    refine wp_seq ?_
    refine region_plain ?_
    refine lx_q v55 S trivial (by decide) (q_move rfl) (fun a S => ?_)
    obtain ⟨x60, e61, hm⟩ := bind_some hm
    refine lx_call (xs := [.tmp 28]) S trivial (by decide) rfl rfl Try.call32 ((impl_DualEquations_ok (H.rdAt 0 rfl) e61).mono ?_)
    rintro e w58 ⟨v62, rfl, Hc59⟩
    have he64 := Hc59.ext
    have H := H.call1 Hc59
    refine ⟨_, rfl, trivial, fun a S => ?_⟩
    refine lx_q (.tuple #[v62, (.int .i64 x60.2)]) S trivial (by decide) (q_move rfl) (fun a S => ?_)
    refine lx_q v62 S trivial (by decide) (q_extract rfl rfl) (fun a S => ?_)
    refine lx_q (.int .i64 x60.2) S trivial (by decide) (q_extract rfl rfl) (fun a S => ?_)
    refine lx_q v62 S trivial (by decide) (q_assign rfl) (fun a S => ?_)
    refine lx_q (.int .i64 x60.2) S trivial (by decide) (q_assign rfl) (fun a S => ?_)
    refine lx_nil ?_
    refine thenN ?_
    refine wp_seq ?_
    refine wp_seq ?_
    refine region_plain ?_
    refine lx_q v62 S trivial (by decide) (q_move rfl) (fun a S => ?_)
    refine lx_q v48 S trivial (by decide) (q_move rfl) (fun a S => ?_)
    obtain ⟨x67, e68, hm⟩ := bind_some hm
    refine lx_call (xs := [.tmp 32, .tmp 33]) S trivial (by decide) rfl rfl Try.call13 ((laws_eqEquationS_ok (H.rdAt 0 rfl) (H.rdAt 2 rfl) e68).mono ?_)
    rintro e w65 ⟨rfl, Hc66⟩
    have he69 := Hc66.ext
    have H := H.call0 Hc66
    refine ⟨_, rfl, trivial, fun a S => ?_⟩
    refine lx_q (.bool (!x67)) S trivial (by decide) (q_not rfl) (fun a S => ?_)
    refine lx_q (.bool (!x67)) S trivial (by decide) (q_move rfl) (fun a S => ?_)
    obtain ⟨t70, e71, hm⟩ := bind_some hm
    refine lx_cut 4 (fun a w => Slots a 96 [(0, p0), (4, v48), (5, (.int .i64 x46.2)), (6, v55), (7, v62), (8, (.int .i64 x60.2)), (40, (.bool t70))] ∧ Heap w0 [oA (rList Rimpl_Equation) v62 x60.1, oA (rList Rimpl_Equation) v55 x53, oA (rList Rimpl_Equation) v48 x46.1] w) ?_ ?_
    · by_cases hc72 : (!x67) = true
      · have hm := ite_t hc72 e71
        refine lx_skip S rfl rfl (isB_ne hc72) (by decide) (fun a S => ?_)
        refine lx_skip S rfl rfl (isB_ne hc72) (by decide) (fun a S => ?_)
        refine lx_skip S rfl rfl (isB_ne hc72) (by decide) (fun a S => ?_)
        refine lx_q (.bool true) S trivial (by decide) (q_pickT' rfl hc72 rfl) (fun a S => ?_)
        refine lx_nil ?_
        obtain rfl := Option.some.inj hm
        have H := H.sel [0, 1, 2] (by decide)
        exact ⟨S.sub ⟨rfl, rfl, rfl, rfl, rfl, rfl, rfl, trivial⟩, H⟩
      · have hm := ite_f (eq_false_of_ne_true hc72) e71
        have hc72 : (!x67) = false := eq_false_of_ne_true hc72
        refine lx_q (.int .i64 x60.2) S (want_b rfl rfl hc72) (by decide) (q_move rfl) (fun a S => ?_)
        refine lx_q (.int .i64 x46.2) S (want_b rfl rfl hc72) (by decide) (q_move rfl) (fun a S => ?_)
        refine lx_q (.bool (x60.2 != x46.2)) S (want_b rfl rfl hc72) (by decide) (q_neq rfl rfl) (fun a S => ?_)
        refine lx_q (.bool (x60.2 != x46.2)) S trivial (by decide) (q_pickF' rfl hc72 rfl) (fun a S => ?_)
        refine lx_nil ?_
        obtain rfl := Option.some.inj hm
        have H := H.sel [0, 1, 2] (by decide)
        exact ⟨S.sub ⟨rfl, rfl, rfl, rfl, rfl, rfl, rfl, trivial⟩, H⟩
    · rintro a w ⟨S, H⟩
      refine lx_nil ?_
      refine thenN ?_
      refine cond_b S rfl (fun hc73 => ?_) (fun hc73 => ?_)
      · have hm := ite_t hc73 hm
        refine wp_seq ?_
        refine region_plain ?_
        refine lx_q (.bool false) S trivial (by decide) (q_assign rfl) (fun a S => ?_)
        refine lx_nil ?_
        refine thenN ?_
        refine wp_ret ?_
        refine then_ret ?_
        obtain rfl := Option.some.inj hm
        have H : Heap w0 [] w := H.sel [] (by decide)
        exact leave1 S rfl rfl ⟨rfl, H⟩
      · have hm := ite_f hc73 hm
        refine wp_skip ?_
        refine thenN ?_
        refine wp_seq ?_
        refine wp_seq ?_
        refine region_plain ?_
        refine lx_q v55 S trivial (by decide) (q_move rfl) (fun a S => ?_)
        refine lx_q p0 S trivial (by decide) (q_move rfl) (fun a S => ?_)
        obtain ⟨x76, e77, hm⟩ := bind_some hm
        refine lx_call (xs := [.tmp 42]) S trivial (by decide) rfl rfl Try.call11 ((laws_toEquationS_ok (H.arg h0) e77).mono ?_)
        rintro e w74 ⟨v78, rfl, Hc75⟩
        have he80 := Hc75.ext
        have H := H.call1 Hc75
        refine ⟨_, rfl, trivial, fun a S => ?_⟩
        obtain ⟨x83, e84, hm⟩ := bind_some hm
        refine lx_call (xs := [.tmp 41, .tmp 43]) S trivial (by decide) rfl rfl Try.call13 ((laws_eqEquationS_ok (H.rdAt 2 rfl) (H.rdAt 0 rfl) e84).mono ?_)
        rintro e w81 ⟨rfl, Hc82⟩
        have he85 := Hc82.ext
        have H := H.call0 Hc82
        refine ⟨_, rfl, trivial, fun a S => ?_⟩
        refine lx_q (.bool (!x83)) S trivial (by decide) (q_not rfl) (fun a S => ?_)
        refine lx_nil ?_
        refine thenN ?_
        refine cond_b S rfl (fun hc86 => ?_) (fun hc86 => ?_)
        · have hm := ite_t hc86 hm
          refine wp_seq ?_
          refine region_plain ?_
          refine lx_q (.bool false) S trivial (by decide) (q_assign rfl) (fun a S => ?_)
          refine lx_nil ?_
          refine thenN ?_
          refine wp_ret ?_
          refine then_ret ?_
          obtain rfl := Option.some.inj hm
          have H : Heap w0 [] w81 := H.sel [] (by decide)
          exact leave1 S rfl rfl ⟨rfl, H⟩
        · have hm := ite_f hc86 hm
          refine wp_skip ?_
          refine thenN ?_
          refine wp_seq ?_
          refine region_plain ?_
          refine lx_q (.int .i64 (1 : Int)) S trivial (by decide) (q_assign rfl) (fun a S => ?_)
          refine lx_nil ?_
          refine thenN ?_
          refine wp_seq ?_
          refine region_plain ?_
          refine lx_q v55 S trivial (by decide) (q_move rfl) (fun a S => ?_)
          refine lx_q (.int .i64 (1 : Int)) S trivial (by decide) (q_move rfl) (fun a S => ?_)
          obtain ⟨x89, e90, hm⟩ := bind_some hm
          have H : Heap w0 [oA (rList Rimpl_Equation) v55 x53, oA (rList Rimpl_Equation) v78 x76, oA (rList Rimpl_Equation) v62 x60.1, oA (rList Rimpl_Equation) v48 x46.1] w81 := H.front 2 rfl
          refine lx_call (xs := [.tmp 46, .tmp 47]) S trivial (by decide) rfl rfl Try.call17 ((laws_markEquationS_ok H e90).mono ?_)
          rintro e w87 ⟨rfl, H⟩
          refine ⟨_, rfl, trivial, fun a S => ?_⟩
          refine lx_q (.int .i64 x89.1) S trivial (by decide) (q_assign rfl) (fun a S => ?_)
          refine lx_nil ?_
          refine thenN ?_
          refine wp_seq ?_
          refine wp_seq ?_
          refine region_plain ?_
          refine lx_q (.int .i64 x89.1) S trivial (by decide) (q_move rfl) (fun a S => ?_)
          refine lx_q (.bool (decide (x89.1 < (0 : Int)))) S trivial (by decide) (q_lss rfl rfl) (fun a S => ?_)
          refine lx_q (.bool (decide (x89.1 < (0 : Int)))) S trivial (by decide) (q_move rfl) (fun a S => ?_)
          obtain ⟨t91, e92, hm⟩ := bind_some hm
          refine lx_cut 5 (fun a w => Slots a 96 [(0, p0), (4, v48), (5, (.int .i64 x46.2)), (7, v62), (8, (.int .i64 x60.2)), (56, (.bool t91))] ∧ Heap w0 [oA (rList Rimpl_Equation) v62 x60.1, oA (rList Rimpl_Equation) v48 x46.1] w) ?_ ?_
          · by_cases hc93 : (decide (x89.1 < (0 : Int))) = true
            · have hm := ite_t hc93 e92
              refine lx_skip S rfl rfl (isB_ne hc93) (by decide) (fun a S => ?_)
              refine lx_skip S rfl rfl (isB_ne hc93) (by decide) (fun a S => ?_)
              refine lx_skip S rfl rfl (isB_ne hc93) (by decide) (fun a S => ?_)
              refine lx_skip S rfl rfl (isB_ne hc93) (by decide) (fun a S => ?_)
              refine lx_q (.bool true) S trivial (by decide) (q_pickT' rfl hc93 rfl) (fun a S => ?_)
              refine lx_nil ?_
              obtain rfl := Option.some.inj hm
              have H := H.sel [2, 3] (by decide)
              exact ⟨S.sub ⟨rfl, rfl, rfl, rfl, rfl, rfl, trivial⟩, H⟩
            · have hm := ite_f (eq_false_of_ne_true hc93) e92
              have hc93 : (decide (x89.1 < (0 : Int))) = false := eq_false_of_ne_true hc93
              refine lx_q v62 S (want_b rfl rfl hc93) (by decide) (q_move rfl) (fun a S => ?_)
              refine lx_q v48 S (want_b rfl rfl hc93) (by decide) (q_move rfl) (fun a S => ?_)
              obtain ⟨x96, e97, hm⟩ := bind_some hm
              refine lx_call (xs := [.tmp 52, .tmp 53]) S (want_b rfl rfl hc93) (by decide) rfl rfl Try.call13 ((laws_eqEquationS_ok (H.rdAt 2 rfl) (H.rdAt 3 rfl) e97).mono ?_)
              rintro e w94 ⟨rfl, Hc95⟩
              have he98 := Hc95.ext
              have H := H.call0 Hc95
              refine ⟨_, rfl, trivial, fun a S => ?_⟩
              refine lx_q (.bool (!x96)) S (want_b rfl rfl hc93) (by decide) (q_not rfl) (fun a S => ?_)
              refine lx_q (.bool (!x96)) S trivial (by decide) (q_pickF' rfl hc93 rfl) (fun a S => ?_)
              refine lx_nil ?_
              obtain rfl := Option.some.inj hm
              have H := H.sel [2, 3] (by decide)
              exact ⟨S.sub ⟨rfl, rfl, rfl, rfl, rfl, rfl, trivial⟩, H⟩
          · rintro a w ⟨S, H⟩
            refine lx_q (.bool t91) S trivial (by decide) (q_move rfl) (fun a S => ?_)
            obtain ⟨t99, e100, hm⟩ := bind_some hm
            refine lx_cut 4 (fun a w => Slots a 96 [(0, p0), (4, v48), (5, (.int .i64 x46.2)), (7, v62), (61, (.bool t99))] ∧ Heap w0 [oA (rList Rimpl_Equation) v62 x60.1, oA (rList Rimpl_Equation) v48 x46.1] w) ?_ ?_
            · by_cases hc101 : t91 = true
              · have hm := ite_t hc101 e100
                refine lx_skip S rfl rfl (isB_ne hc101) (by decide) (fun a S => ?_)
                refine lx_skip S rfl rfl (isB_ne hc101) (by decide) (fun a S => ?_)
                refine lx_skip S rfl rfl (isB_ne hc101) (by decide) (fun a S => ?_)
                refine lx_q (.bool true) S trivial (by decide) (q_pickT' rfl hc101 rfl) (fun a S => ?_)
                refine lx_nil ?_
                obtain rfl := Option.some.inj hm
                exact ⟨S.sub ⟨rfl, rfl, rfl, rfl, rfl, trivial⟩, H⟩
              · have hm := ite_f (eq_false_of_ne_true hc101) e100
                have hc101 : t91 = false := eq_false_of_ne_true hc101
                refine lx_q (.int .i64 x60.2) S (want_b rfl rfl hc101) (by decide) (q_move rfl) (fun a S => ?_)
                refine lx_q (.int .i64 x46.2) S (want_b rfl rfl hc101) (by decide) (q_move rfl) (fun a S => ?_)
                refine lx_q (.bool (x60.2 != x46.2)) S (want_b rfl rfl hc101) (by decide) (q_neq rfl rfl) (fun a S => ?_)
                refine lx_q (.bool (x60.2 != x46.2)) S trivial (by decide) (q_pickF' rfl hc101 rfl) (fun a S => ?_)
                refine lx_nil ?_
                obtain rfl := Option.some.inj hm
                exact ⟨S.sub ⟨rfl, rfl, rfl, rfl, rfl, trivial⟩, H⟩
            · rintro a w ⟨S, H⟩
              refine lx_nil ?_
              refine thenN ?_
              refine cond_b S rfl (fun hc102 => ?_) (fun hc102 => ?_)
              · have hm := ite_t hc102 hm
                refine wp_seq ?_
                refine region_plain ?_
                refine lx_q (.bool false) S trivial (by decide) (q_assign rfl) (fun a S => ?_)
                refine lx_nil ?_
                refine thenN ?_
                refine wp_ret ?_
                refine then_ret ?_
                obtain rfl := Option.some.inj hm
                have H : Heap w0 [] w := H.sel [] (by decide)
                exact leave1 S rfl rfl ⟨rfl, H⟩
              · have hm := ite_f hc102 hm
                refine wp_skip ?_
                refine thenN ?_
                refine wp_seq ?_
                refine region_plain ?_
                refine lx_q (.int .i64 (1 : Int)) S trivial (by decide) (q_assign rfl) (fun a S => ?_)
                refine lx_nil ?_
                refine thenN ?_
                refine wp_seq ?_
                refine region_plain ?_
                refine lx_q v62 S trivial (by decide) (q_move rfl) (fun a S => ?_)
                refine lx_q (.int .i64 (1 : Int)) S trivial (by decide) (q_move rfl) (fun a S => ?_)
                obtain ⟨x105, e106, hm⟩ := bind_some hm
                refine lx_call (xs := [.tmp 62, .tmp 63]) S trivial (by decide) rfl rfl Try.call17 ((laws_markEquationS_ok H e106).mono ?_)
                rintro e w103 ⟨rfl, H⟩
                refine ⟨_, rfl, trivial, fun a S => ?_⟩
                refine lx_q (.int .i64 x105.1) S trivial (by decide) (q_assign rfl) (fun a S => ?_)
                refine lx_nil ?_
                refine thenN ?_
                refine wp_seq ?_
                refine region_plain ?_
                refine lx_q (.int .i64 (1 : Int)) S trivial (by decide) (q_assign rfl) (fun a S => ?_)
                refine lx_nil ?_
                refine thenN ?_
                refine wp_seq ?_
                refine region_plain ?_
                refine lx_q v62 S trivial (by decide) (q_move rfl) (fun a S => ?_)
                refine lx_q (.int .i64 (1 : Int)) S trivial (by decide) (q_move rfl) (fun a S => ?_)
                obtain ⟨x109, e110, hm⟩ := bind_some hm
                refine lx_call (xs := [.tmp 65, .tmp 66]) S trivial (by decide) rfl rfl Try.call33 ((laws_heldEquationS_ok (H.rdAt 0 rfl)  e110).mono ?_)
                rintro e w107 ⟨rfl, Hc108⟩
                have he111 := Hc108.ext
                have H := H.call0 Hc108
                refine ⟨_, rfl, trivial, fun a S => ?_⟩
                refine lx_q (.int .i64 x109) S trivial (by decide) (q_assign rfl) (fun a S => ?_)
                refine lx_nil ?_
                refine thenN ?_
                refine wp_seq ?_
                refine wp_seq ?_
                refine region_plain ?_
                refine lx_q (.int .i64 x109) S trivial (by decide) (q_move rfl) (fun a S => ?_)
                refine lx_q (.bool (decide (x109 < (0 : Int)))) S trivial (by decide) (q_lss rfl rfl) (fun a S => ?_)
                refine lx_nil ?_
                refine thenN ?_
                refine cond_b S rfl (fun hc112 => ?_) (fun hc112 => ?_)
                · have hm := ite_t hc112 hm
                  refine wp_seq ?_
                  refine region_plain ?_
                  refine lx_q (.bool false) S trivial (by decide) (q_assign rfl) (fun a S => ?_)
                  refine lx_nil ?_
                  refine thenN ?_
                  refine wp_ret ?_
                  refine then_ret ?_
                  obtain rfl := Option.some.inj hm
                  have H : Heap w0 [] w107 := H.sel [] (by decide)
                  exact leave1 S rfl rfl ⟨rfl, H⟩
                · have hm := ite_f hc112 hm
                  refine wp_skip ?_
                  refine thenN ?_
                  refine wp_seq ?_
                  refine wp_seq ?_
                  refine region_plain ?_
                  refine lx_q (.int .i64 x109) S trivial (by decide) (q_move rfl) (fun a S => ?_)
                  refine lx_q (.int .i64 x105.1) S trivial (by decide) (q_move rfl) (fun a S => ?_)
                  refine lx_q (.bool (x109 != x105.1)) S trivial (by decide) (q_neq rfl rfl) (fun a S => ?_)
                  refine lx_nil ?_
                  refine thenN ?_
                  refine cond_b S rfl (fun hc113 => ?_) (fun hc113 => ?_)
                  · have hm := ite_t hc113 hm
                    refine wp_seq ?_
                    refine region_plain ?_
                    refine lx_q (.bool false) S trivial (by decide) (q_assign rfl) (fun a S => ?_)
                    refine lx_nil ?_
                    refine thenN ?_
                    refine wp_ret ?_
                    refine then_ret ?_
                    obtain rfl := Option.some.inj hm
                    have H : Heap w0 [] w107 := H.sel [] (by decide)
                    exact leave1 S rfl rfl ⟨rfl, H⟩
                  · have hm := ite_f hc113 hm
                    refine wp_skip ?_
                    refine thenN ?_
                    refine wp_seq ?_
                    refine region_plain ?_
                    refine lx_q p0 S trivial (by decide) (q_move rfl) (fun a S => ?_)
                    obtain ⟨x116, e117, hm⟩ := bind_some hm
                    refine lx_call (xs := [.tmp 74]) S trivial (by decide) rfl rfl Try.call11 ((laws_toEquationS_ok (H.arg h0) e117).mono ?_)
                    rintro e w114 ⟨v118, rfl, Hc115⟩
                    have he120 := Hc115.ext
                    have H := H.call1 Hc115
                    refine ⟨_, rfl, trivial, fun a S => ?_⟩
                    obtain ⟨x123, e124, hm⟩ := bind_some hm
                    refine lx_call (xs := [.tmp 75]) S trivial (by decide) rfl rfl Try.call32 ((impl_DualEquations_ok (H.rdAt 0 rfl) e124).mono ?_)
                    rintro e w121 ⟨v125, rfl, Hc122⟩
                    have he127 := Hc122.ext
                    have H := H.call1 Hc122
                    refine ⟨_, rfl, trivial, fun a S => ?_⟩
                    refine lx_q (.tuple #[v125, (.int .i64 x123.2)]) S trivial (by decide) (q_move rfl) (fun a S => ?_)
                    refine lx_q v125 S trivial (by decide) (q_extract rfl rfl) (fun a S => ?_)
                    refine lx_q (.int .i64 x123.2) S trivial (by decide) (q_extract rfl rfl) (fun a S => ?_)
                    refine lx_q v125 S trivial (by decide) (q_assign rfl) (fun a S => ?_)
                    refine lx_q (.int .i64 x123.2) S trivial (by decide) (q_assign rfl) (fun a S => ?_)
                    refine lx_nil ?_
                    refine thenN ?_
                    refine wp_seq ?_
                    refine wp_seq ?_
                    refine region_plain ?_
                    refine lx_q v125 S trivial (by decide) (q_move rfl) (fun a S => ?_)
                    refine lx_q v48 S trivial (by decide) (q_move rfl) (fun a S => ?_)
                    obtain ⟨x130, e131, hm⟩ := bind_some hm
                    refine lx_call (xs := [.tmp 79, .tmp 80]) S trivial (by decide) rfl rfl Try.call13 ((laws_eqEquationS_ok (H.rdAt 0 rfl) (H.rdAt 3 rfl) e131).mono ?_)
                    rintro e w128 ⟨rfl, Hc129⟩
                    have he132 := Hc129.ext
                    have H := H.call0 Hc129
                    refine ⟨_, rfl, trivial, fun a S => ?_⟩
                    refine lx_q (.bool (!x130)) S trivial (by decide) (q_not rfl) (fun a S => ?_)
                    refine lx_q (.bool (!x130)) S trivial (by decide) (q_move rfl) (fun a S => ?_)
                    obtain ⟨t133, e134, hm⟩ := bind_some hm
                    refine lx_cut 4 (fun a w => Slots a 96 [(7, v62), (10, (.int .i64 x105.1)), (87, (.bool t133))] ∧ Heap w0 [oA (rList Rimpl_Equation) v62 x105.2] w) ?_ ?_
                    · by_cases hc135 : (!x130) = true
                      · have hm := ite_t hc135 e134
                        refine lx_skip S rfl rfl (isB_ne hc135) (by decide) (fun a S => ?_)
                        refine lx_skip S rfl rfl (isB_ne hc135) (by decide) (fun a S => ?_)
                        refine lx_skip S rfl rfl (isB_ne hc135) (by decide) (fun a S => ?_)
                        refine lx_q (.bool true) S trivial (by decide) (q_pickT' rfl hc135 rfl) (fun a S => ?_)
                        refine lx_nil ?_
                        obtain rfl := Option.some.inj hm
                        have H := H.sel [2] (by decide)
                        exact ⟨S.sub ⟨rfl, rfl, rfl, trivial⟩, H⟩
                      · have hm := ite_f (eq_false_of_ne_true hc135) e134
                        have hc135 : (!x130) = false := eq_false_of_ne_true hc135
                        refine lx_q (.int .i64 x123.2) S (want_b rfl rfl hc135) (by decide) (q_move rfl) (fun a S => ?_)
                        refine lx_q (.int .i64 x46.2) S (want_b rfl rfl hc135) (by decide) (q_move rfl) (fun a S => ?_)
                        refine lx_q (.bool (x123.2 != x46.2)) S (want_b rfl rfl hc135) (by decide) (q_neq rfl rfl) (fun a S => ?_)
                        refine lx_q (.bool (x123.2 != x46.2)) S trivial (by decide) (q_pickF' rfl hc135 rfl) (fun a S => ?_)
                        refine lx_nil ?_
                        obtain rfl := Option.some.inj hm
                        have H := H.sel [2] (by decide)
                        exact ⟨S.sub ⟨rfl, rfl, rfl, trivial⟩, H⟩
                    · rintro a w ⟨S, H⟩
                      refine lx_nil ?_
                      refine thenN ?_
                      refine cond_b S rfl (fun hc136 => ?_) (fun hc136 => ?_)
                      · have hm := ite_t hc136 hm
                        refine wp_seq ?_
                        refine region_plain ?_
                        refine lx_q (.bool false) S trivial (by decide) (q_assign rfl) (fun a S => ?_)
                        refine lx_nil ?_
                        refine thenN ?_
                        refine wp_ret ?_
                        refine then_ret ?_
                        obtain rfl := Option.some.inj hm
                        have H : Heap w0 [] w := H.sel [] (by decide)
                        exact leave1 S rfl rfl ⟨rfl, H⟩
                      · have hm := ite_f hc136 hm
                        refine wp_skip ?_
                        refine thenN ?_
                        refine wp_seq ?_
                        refine region_plain ?_
                        refine lx_q (.int .i64 (1 : Int)) S trivial (by decide) (q_assign rfl) (fun a S => ?_)
                        refine lx_nil ?_
                        refine thenN ?_
                        refine wp_seq ?_
                        refine region_plain ?_
                        refine lx_q v62 S trivial (by decide) (q_move rfl) (fun a S => ?_)
                        refine lx_q (.int .i64 (1 : Int)) S trivial (by decide) (q_move rfl) (fun a S => ?_)
                        obtain ⟨x139, e140, hm⟩ := bind_some hm
                        refine lx_call (xs := [.tmp 88, .tmp 89]) S trivial (by decide) rfl rfl Try.call33 ((laws_heldEquationS_ok (H.rdAt 0 rfl)  e140).mono ?_)
                        rintro e w137 ⟨rfl, Hc138⟩
                        have he141 := Hc138.ext
                        have H := H.call0 Hc138
                        refine ⟨_, rfl, trivial, fun a S => ?_⟩
                        refine lx_q (.int .i64 x139) S trivial (by decide) (q_assign rfl) (fun a S => ?_)
                        refine lx_nil ?_
                        refine thenN ?_
                        refine wp_seq ?_
                        refine wp_seq ?_
                        refine region_plain ?_
                        refine lx_q (.int .i64 x139) S trivial (by decide) (q_move rfl) (fun a S => ?_)
                        refine lx_q (.bool (decide (x139 < (0 : Int)))) S trivial (by decide) (q_lss rfl rfl) (fun a S => ?_)
                        refine lx_nil ?_
                        refine thenN ?_
                        refine cond_b S rfl (fun hc142 => ?_) (fun hc142 => ?_)
                        · have hm := ite_t hc142 hm
                          refine wp_seq ?_
                          refine region_plain ?_
                          refine lx_q (.bool false) S trivial (by decide) (q_assign rfl) (fun a S => ?_)
                          refine lx_nil ?_
                          refine thenN ?_
                          refine wp_ret ?_
                          refine then_ret ?_
                          obtain rfl := Option.some.inj hm
                          have H : Heap w0 [] w137 := H.sel [] (by decide)
                          exact leave1 S rfl rfl ⟨rfl, H⟩
                        · have hm := ite_f hc142 hm
                          refine wp_skip ?_
                          refine thenN ?_
                          refine wp_seq ?_
                          refine wp_seq ?_
                          refine region_plain ?_
                          refine lx_q (.int .i64 x139) S trivial (by decide) (q_move rfl) (fun a S => ?_)
                          refine lx_q (.int .i64 x105.1) S trivial (by decide) (q_move rfl) (fun a S => ?_)
                          refine lx_q (.bool (x139 != x105.1)) S trivial (by decide) (q_neq rfl rfl) (fun a S => ?_)
                          refine lx_nil ?_
                          refine thenN ?_
                          refine cond_b S rfl (fun hc143 => ?_) (fun hc143 => ?_)
                          · have hm := ite_t hc143 hm
                            refine wp_seq ?_
                            refine region_plain ?_
                            refine lx_q (.bool false) S trivial (by decide) (q_assign rfl) (fun a S => ?_)
                            refine lx_nil ?_
                            refine thenN ?_
                            refine wp_ret ?_
                            refine then_ret ?_
                            obtain rfl := Option.some.inj hm
                            have H : Heap w0 [] w137 := H.sel [] (by decide)
                            exact leave1 S rfl rfl ⟨rfl, H⟩
                          · have hm := ite_f hc143 hm
                            refine wp_skip ?_
                            refine thenN ?_
                            refine wp_seq ?_
                            refine region_plain ?_
                            refine lx_q (.bool true) S trivial (by decide) (q_assign rfl) (fun a S => ?_)
                            refine lx_nil ?_
                            refine thenN ?_
                            refine wp_ret ?_
                            obtain rfl := Option.some.inj hm
                            have H : Heap w0 [] w137 := H.sel [] (by decide)
                            exact leave1 S rfl rfl ⟨rfl, H⟩

/-- spec.l00Has -/
def spec_l00Has_m (fuel : Nat) (a0 : (List Int)) (a1 : Int) : Option (Bool) :=
  (iter (fun (s : (Int)) => (match s with | (x39) => (if (decide (x39 < (a0.length : Int))) = true then (idx a0 x39).bind fun x57 => (if (x57 == a1) = true then some (.inr (.inr true)) else some (.inl ((W (x39 + (1 : Int)))))) else some (.inr (.inl ()))) : Option (((Int)) ⊕ ((Unit) ⊕ (Bool))))) fuel ((0 : Int))).bind fun res48 => ctl (β := Unit) (ρ := Bool) (τ := Bool) res48 (fun _ => some (false)) (fun q => some (q))
set_option maxRecDepth 20000 in
theorem spec_l00Has_ok {w0 : World} {fuel : Nat} {p0 : Value} {a0 : (List Int)} {a1 : Int} {r : Bool} (h0 : Rd (rList (rInt .i64)) w0 p0 a0) (hm : spec_l00Has_m fuel a0 a1 = some r) :
    Calls Try.prog 76 #[p0, .int .i64 a1] w0 fun e w => e = .returned (.bool r) ∧ Heap w0 [] w := by
  unfold spec_l00Has_m at hm
  have H := Heap.start w0
  refine enter (args := [p0, .int .i64 a1]) Try.func76 rfl 18 rfl (Nat.le_of_ble_eq_true rfl) (fun a S => ?_)
  refine wp_seq ?_
  refine region_plain ?_
  refine lx_q (.bool false) S trivial (by decide) (q_assign rfl) (fun a S => ?_)
  refine lx_nil ?_
  refine thenN ?_
  refine wp_seq ?_
  refine wp_seq ?_
  refine region_plain ?_
  refine lx_q (.int .i64 (0 : Int)) S trivial (by decide) (q_assign rfl) (fun a S => ?_)
  refine lx_nil ?_
  refine thenN ?_
  obtain ⟨res48, hit49, hk52⟩ := bind_some hm
  obtain ⟨f50, hf51, hit49⟩ := iter_name hit49
  refine block_loop (fun a w => Slots a 18 [] ∧ Heap w0 [] w ∧ res48 = .inl ()) ?_ ?_
  · rintro a w ⟨S, H, rfl⟩
    have hm := ctl_inl hk52
    refine thenN ?_
    refine wp_seq ?_
    refine region_plain ?_
    refine lx_q (.bool false) S trivial (by decide) (q_assign rfl) (fun a S => ?_)
    refine lx_nil ?_
    refine thenN ?_
    refine wp_ret ?_
    obtain rfl := Option.some.inj hm
    exact leave1 S rfl rfl ⟨rfl, H⟩
  · skip
    refine loop_ghost (fun n a w => ∃ (x39 : Int), Slots a 18 [(0, p0), (1, (.int .i64 a1)), (5, (.int .i64 x39))] ∧ Heap w0 [] w ∧ iter f50 n (x39) = some res48) _ ⟨(0 : Int), S.sub ⟨rfl, rfl, rfl, trivial⟩, H, hit49⟩ ?_
    rintro n a w ⟨x39, S, H, hit49⟩
    obtain ⟨m53, o54, rfl, hm, hc55⟩ := iter_step hit49
    rw [hf51] at hm
    refine wp_seq ?_
    refine wp_seq ?_
    refine region_plain ?_
    refine lx_q (.int .i64 x39) S trivial (by decide) (q_move rfl) (fun a S => ?_)
    refine lx_q p0 S trivial (by decide) (q_move rfl) (fun a S => ?_)
    refine lx_q (.int .i64 (a0.length : Int)) S trivial (by decide) (q_lenSl rfl (h0).isSl rfl Try.underlying29) (fun a S => ?_)
    refine lx_q (.bool (decide (x39 < (a0.length : Int)))) S trivial (by decide) (q_lss rfl rfl) (fun a S => ?_)
    refine lx_nil ?_
    refine thenN ?_
    refine cond_b S rfl (fun hc56 => ?_) (fun hc56 => ?_)
    · have hm := ite_t hc56 hm
      refine wp_skip ?_
      refine thenN ?_
      refine wp_seq ?_
      refine wp_block ?_
      refine wp_seq ?_
      refine region_plain ?_
      refine lx_q p0 S trivial (by decide) (q_move rfl) (fun a S => ?_)
      refine lx_q (.int .i64 x39) S trivial (by decide) (q_move rfl) (fun a S => ?_)
      obtain ⟨x57, e58, hm⟩ := bind_some hm
      obtain ⟨c59, h60, hat61⟩ := (h0).elem (idx_some e58).2
      obtain rfl := h60
      have hlt := lt_of_idx (idx_some e58).2
      refine lx_q (ePtr p0 (x39.toNat * 1)) S trivial (by decide) (q_indexAddr rfl (h0).isSl rfl (idx_some e58).1 hlt Try.underlying29 Try.sizeOf2) (fun a S => ?_)
      refine lx_e (.int .i64 x57) S trivial (by decide) rfl trivial (q_load1 rfl Try.isAgg2 (by rintro _ rfl; exact ((hat61 0 _ rfl).ext H.ext))) (fun a S => ?_)
      refine lx_q (.int .i64 a1) S trivial (by decide) (q_move rfl) (fun a S => ?_)
      refine lx_q (.bool (x57 == a1)) S trivial (by decide) (q_eql rfl rfl) (fun a S => ?_)
      refine lx_nil ?_
      refine thenN ?_
      refine cond_b S rfl (fun hc62 => ?_) (fun hc62 => ?_)
      · have hm := ite_t hc62 hm
        refine wp_seq ?_
        refine region_plain ?_
        refine lx_q (.bool true) S trivial (by decide) (q_assign rfl) (fun a S => ?_)
        refine lx_nil ?_
        refine thenN ?_
        refine wp_ret ?_
        refine inBlock_ret ?_
        refine then_ret ?_
        refine then_ret ?_
        refine inBlock_ret ?_
        refine then_ret ?_
        refine then_ret ?_
        obtain rfl := it_brk hm hc55
        have hm := ctl_inr hk52
        obtain rfl := Option.some.inj hm
        exact leave1 S rfl rfl ⟨rfl, H⟩
      · have hm := ite_f hc62 hm
        refine wp_skip ?_
        refine inBlock_norm ?_
        refine thenN ?_
        refine region_plain ?_
        refine lx_q (.int .i64 x39) S trivial (by decide) (q_move rfl) (fun a S => ?_)
        refine lx_q (.int .i64 (W (x39 + (1 : Int)))) S trivial (by decide) (q_add rfl rfl) (fun a S => ?_)
        refine lx_q (.int .i64 (W (x39 + (1 : Int)))) S trivial (by decide) (q_assign rfl) (fun a S => ?_)
        refine lx_nil ?_
        exact ⟨m53, Nat.lt_succ_self _, (W (x39 + (1 : Int))), S.sub ⟨rfl, rfl, rfl, trivial⟩, H, it_cont hm hc55⟩
    · have hm := ite_f hc56 hm
      refine wp_exit ?_
      refine then_exit ?_
      refine then_exit ?_
      refine inBlock_exit ?_
      obtain rfl := it_brk hm hc55
      exact ⟨S.sub trivial, H, rfl⟩

/-- spec.l23Choices -/
def spec_l23Choices_m (fuel : Nat) (a0 : (List Timpl_Vertex)) (a1 : (List Int)) : Option (Bool) :=
  (if ((a1.length : Int) != (a0.length : Int)) = true then some (false) else (iter (fun (s : (Int)) => (match s with | (x106) => (if (decide (x106 < (a0.length : Int))) = true then (idx a0 x106).bind fun x192 => (if ((x192.2.2.length : Int) == (0 : Int)) = true then (idx a1 x106).bind fun x210 => some (x210 != (-1 : Int)) else some false).bind fun t207 => (if t207 = true then some true else (idx a0 x106).bind fun x218 => (if (decide ((0 : Int) < (x218.2.2.length : Int))) = true then (idx a0 x106).bind fun x236 => (idx a1 x106).bind fun x251 => (spec_l00Has_m fuel x236.2.2 x251).bind fun x258 => some (!x258) else some false).bind fun t233 => some t233).bind fun t215 => (if t215 = true then some (.inr (.inr false)) else some (.inl ((W (x106 + (1 : Int)))))) else some (.inr (.inl ()))) : Option (((Int)) ⊕ ((Unit) ⊕ (Bool))))) fuel ((0 : Int))).bind fun res181 => ctl (β := Unit) (ρ := Bool) (τ := Bool) res181 (fun _ => some (true)) (fun q => some (q)))
set_option maxRecDepth 20000 in
theorem spec_l23Choices_ok {w0 : World} {fuel : Nat} {p0 p1 : Value} {a0 : (List Timpl_Vertex)} {a1 : (List Int)} {r : Bool} (h0 : Rd (rList Rimpl_Vertex) w0 p0 a0) (h1 : Rd (rList (rInt .i64)) w0 p1 a1) (hm : spec_l23Choices_m fuel a0 a1 = some r) :
    Calls Try.prog 61 #[p0, p1] w0 fun e w => e = .returned (.bool r) ∧ Heap w0 [] w := by
  unfold spec_l23Choices_m at hm
  have H := Heap.start w0
  refine enter (args := [p0, p1]) Try.func61 rfl 53 rfl (Nat.le_of_ble_eq_true rfl) (fun a S => ?_)
  refine wp_seq ?_
  refine region_plain ?_
  refine lx_q (.bool false) S trivial (by decide) (q_assign rfl) (fun a S => ?_)
  refine lx_nil ?_
  refine thenN ?_
  refine wp_seq ?_
  refine wp_seq ?_
  refine region_plain ?_
  refine lx_q p1 S trivial (by decide) (q_move rfl) (fun a S => ?_)
  refine lx_q (.int .i64 (a1.length : Int)) S trivial (by decide) (q_lenSl rfl (h1).isSl rfl Try.underlying29) (fun a S => ?_)
  refine lx_q p0 S trivial (by decide) (q_move rfl) (fun a S => ?_)
  refine lx_q (.int .i64 (a0.length : Int)) S trivial (by decide) (q_lenSl rfl (h0).isSl rfl Try.underlying42) (fun a S => ?_)
  refine lx_q (.bool ((a1.length : Int) != (a0.length : Int))) S trivial (by decide) (q_neq rfl rfl) (fun a S => ?_)
  refine lx_nil ?_
  refine thenN ?_
  refine cond_b S rfl (fun hc31 => ?_) (fun hc31 => ?_)
  · have hm := ite_t hc31 hm
    refine wp_seq ?_
    refine region_plain ?_
    refine lx_q (.bool false) S trivial (by decide) (q_assign rfl) (fun a S => ?_)
    refine lx_nil ?_
    refine thenN ?_
    refine wp_ret ?_
    refine then_ret ?_
    obtain rfl := Option.some.inj hm
    exact leave1 S rfl rfl ⟨rfl, H⟩
  · have hm := ite_f hc31 hm
    refine wp_skip ?_
    refine thenN ?_
    refine wp_seq ?_
    refine wp_seq ?_
    refine region_plain ?_
    refine lx_q (.int .i64 (0 : Int)) S trivial (by decide) (q_assign rfl) (fun a S => ?_)
    refine lx_nil ?_
    refine thenN ?_
    obtain ⟨res181, hit182, hk185⟩ := bind_some hm
    obtain ⟨f183, hf184, hit182⟩ := iter_name hit182
    refine block_loop (fun a w => Slots a 53 [] ∧ Heap w0 [] w ∧ res181 = .inl ()) ?_ ?_
    · rintro a w ⟨S, H, rfl⟩
      have hm := ctl_inl hk185
      refine thenN ?_
      refine wp_seq ?_
      refine region_plain ?_
      refine lx_q (.bool true) S trivial (by decide) (q_assign rfl) (fun a S => ?_)
      refine lx_nil ?_
      refine thenN ?_
      refine wp_ret ?_
      obtain rfl := Option.some.inj hm
      exact leave1 S rfl rfl ⟨rfl, H⟩
    · skip
      refine loop_ghost (fun n a w => ∃ (x106 : Int), Slots a 53 [(0, p0), (1, p1), (5, (.int .i64 x106))] ∧ Heap w0 [] w ∧ iter f183 n (x106) = some res181) _ ⟨(0 : Int), S.sub ⟨rfl, rfl, rfl, trivial⟩, H, hit182⟩ ?_
      rintro n a w ⟨x106, S, H, hit182⟩
      obtain ⟨m186, o187, rfl, hm, hc188⟩ := iter_step hit182
      rw [hf184] at hm
      refine wp_seq ?_
      refine wp_seq ?_
      refine region_plain ?_
      refine lx_q (.int .i64 x106) S trivial (by decide) (q_move rfl) (fun a S => ?_)
      refine lx_q p0 S trivial (by decide) (q_move rfl) (fun a S => ?_)
      refine lx_q (.int .i64 (a0.length : Int)) S trivial (by decide) (q_lenSl rfl (h0).isSl rfl Try.underlying42) (fun a S => ?_)
      refine lx_q (.bool (decide (x106 < (a0.length : Int)))) S trivial (by decide) (q_lss rfl rfl) (fun a S => ?_)
      refine lx_nil ?_
      refine thenN ?_
      refine cond_b S rfl (fun hc189 => ?_) (fun hc189 => ?_)
      · have hm := ite_t hc189 hm
        refine wp_skip ?_
        refine thenN ?_
        refine wp_seq ?_
        refine wp_block ?_
        refine wp_seq ?_
        refine region_drawG (fun w1 => Heap w0 [] w1) (fun i => [32].contains i) mixed (by kernel_rfl) (fun w191 he190 => ?_)
        have H := H.later he190
        refine ⟨H.sel [] (by decide), ?_⟩
        refine lx_q p0 S trivial (by decide) (q_move rfl) (fun a S => ?_)
        refine lx_q (.int .i64 x106) S trivial (by decide) (q_move rfl) (fun a S => ?_)
        obtain ⟨x192, e193, hm⟩ := bind_some hm
        obtain ⟨c194, h195, hat196⟩ := (h0).elem (idx_some e193).2
        obtain ⟨c199, c200, rfl, h201, h202⟩ := h195
        obtain rfl := h201
        obtain ⟨c203, c204, rfl, h205, h206⟩ := h202
        obtain rfl := h205
        obtain ⟨v197, rfl, h198⟩ := rd_list h206
        have hlt := lt_of_idx (idx_some e193).2
        refine lx_q (ePtr p0 (x106.toNat * 3)) S trivial (by decide) (q_indexAddr rfl (h0).isSl rfl (idx_some e193).1 hlt Try.underlying42 Try.sizeOf75) (fun a S => ?_)
        refine lx_q (pAdd (ePtr p0 (x106.toNat * 3)) 2) S trivial (by decide) (q_fieldAddr' 2 29 rfl ((hat196 0 _ rfl).isP) Try.underlying75 rfl Try.sizeOf29) (fun a S => ?_)
        refine lx_q v197 S trivial (by decide) (q_load1 rfl Try.isAgg29 (fun w1 hC => (At.of_add (m := 2) (j := 0) ((hat196 2 _ rfl).ext hC.ext)))) (fun a S => ?_)
        refine lx_q (.int .i64 (x192.2.2.length : Int)) S trivial (by decide) (q_lenSl rfl (h198).isSl rfl Try.underlying29) (fun a S => ?_)
        refine lx_q (.bool ((x192.2.2.length : Int) == (0 : Int))) S trivial (by decide) (q_eql rfl rfl) (fun a S => ?_)
        refine lx_q (.bool ((x192.2.2.length : Int) == (0 : Int))) S trivial (by decide) (q_move rfl) (fun a S => ?_)
        obtain ⟨t207, e208, hm⟩ := bind_some hm
        refine lx_cut 6 (fun a w => Slots a 53 [(0, p0), (1, p1), (5, (.int .i64 x106)), (30, (.bool t207))] ∧ Heap w0 [] w) ?_ ?_
        · by_cases hc209 : ((x192.2.2.length : Int) == (0 : Int)) = true
          · have hm := ite_t hc209 e208
            refine lx_q p1 S (want_b rfl rfl hc209) (by decide) (q_move rfl) (fun a S => ?_)
            refine lx_q (.int .i64 x106) S (want_b rfl rfl hc209) (by decide) (q_move rfl) (fun a S => ?_)
            obtain ⟨x210, e211, hm⟩ := bind_some hm
            obtain ⟨c212, h213, hat214⟩ := (h1).elem (idx_some e211).2
            obtain rfl := h213
            have hlt := lt_of_idx (idx_some e211).2
            refine lx_q (ePtr p1 (x106.toNat * 1)) S (want_b rfl rfl hc209) (by decide) (q_indexAddr rfl (h1).isSl rfl (idx_some e211).1 hlt Try.underlying29 Try.sizeOf2) (fun a S => ?_)
            refine lx_q (.int .i64 x210) S (want_b rfl rfl hc209) (by decide) (q_load1 rfl Try.isAgg2 (fun w1 hC => ((hat214 0 _ rfl).ext hC.ext))) (fun a S => ?_)
            refine lx_q (.bool (x210 != (-1 : Int))) S (want_b rfl rfl hc209) (by decide) (q_neq rfl rfl) (fun a S => ?_)
            refine lx_q (.bool (x210 != (-1 : Int))) S trivial (by decide) (q_pickT' rfl hc209 rfl) (fun a S => ?_)
            refine lx_nil ?_
            obtain rfl := Option.some.inj hm
            exact ⟨S.sub ⟨rfl, rfl, rfl, rfl, trivial⟩, H⟩
          · have hm := ite_f (eq_false_of_ne_true hc209) e208
            have hc209 : ((x192.2.2.length : Int) == (0 : Int)) = false := eq_false_of_ne_true hc209
            refine lx_skip S rfl rfl (isB_ne hc209) (by decide) (fun a S => ?_)
            refine lx_skip S rfl rfl (isB_ne hc209) (by decide) (fun a S => ?_)
            refine lx_skip S rfl rfl (isB_ne hc209) (by decide) (fun a S => ?_)
            refine lx_skip S rfl rfl (isB_ne hc209) (by decide) (fun a S => ?_)
            refine lx_skip S rfl rfl (isB_ne hc209) (by decide) (fun a S => ?_)
            refine lx_q (.bool false) S trivial (by decide) (q_pickF' rfl hc209 rfl) (fun a S => ?_)
            refine lx_nil ?_
            obtain rfl := Option.some.inj hm
            exact ⟨S.sub ⟨rfl, rfl, rfl, rfl, trivial⟩, H⟩
        · rintro a w ⟨S, H⟩
          refine lx_q (.bool t207) S trivial (by decide) (q_move rfl) (fun a S => ?_)
          obtain ⟨t215, e216, hm⟩ := bind_some hm
          refine lx_cut 21 (fun a w => Slots a 53 [(0, p0), (1, p1), (5, (.int .i64 x106)), (52, (.bool t215))] ∧ Heap w0 [] w) ?_ ?_
          · by_cases hc217 : t207 = true
            · have hm := ite_t hc217 e216
              refine lx_skip S rfl rfl (isB_ne hc217) (by decide) (fun a S => ?_)
              refine lx_skip S rfl rfl (isB_ne hc217) (by decide) (fun a S => ?_)
              refine lx_skip S rfl rfl (isB_ne hc217) (by decide) (fun a S => ?_)
              refine lx_skip S rfl rfl (isB_ne hc217) (by decide) (fun a S => ?_)
              refine lx_skip S rfl rfl (isB_ne hc217) (by decide) (fun a S => ?_)
              refine lx_skip S rfl rfl (isB_ne hc217) (by decide) (fun a S => ?_)
              refine lx_skip S rfl rfl (isB_ne hc217) (by decide) (fun a S => ?_)
              refine lx_skip S rfl rfl (isB_ne hc217) (by decide) (fun a S => ?_)
              refine lx_skip S rfl rfl rfl (by decide) (fun a S => ?_)
              refine lx_skip S rfl rfl rfl (by decide) (fun a S => ?_)
              refine lx_skip S rfl rfl rfl (by decide) (fun a S => ?_)
              refine lx_skip S rfl rfl rfl (by decide) (fun a S => ?_)
              refine lx_skip S rfl rfl rfl (by decide) (fun a S => ?_)
              refine lx_skip S rfl rfl rfl (by decide) (fun a S => ?_)
              refine lx_skip S rfl rfl rfl (by decide) (fun a S => ?_)
              refine lx_skip S rfl rfl rfl (by decide) (fun a S => ?_)
              refine lx_skip S rfl rfl rfl (by decide) (fun a S => ?_)
              refine lx_skip S rfl rfl rfl (by decide) (fun a S => ?_)
              refine lx_skip S rfl rfl rfl (by decide) (fun a S => ?_)
              refine lx_skip S rfl rfl (isB_ne hc217) (by decide) (fun a S => ?_)
              refine lx_q (.bool true) S trivial (by decide) (q_pickT' rfl hc217 rfl) (fun a S => ?_)
              refine lx_nil ?_
              obtain rfl := Option.some.inj hm
              exact ⟨S.sub ⟨rfl, rfl, rfl, rfl, trivial⟩, H⟩
            · have hm := ite_f (eq_false_of_ne_true hc217) e216
              have hc217 : t207 = false := eq_false_of_ne_true hc217
              refine lx_q p0 S (want_b rfl rfl hc217) (by decide) (q_move rfl) (fun a S => ?_)
              refine lx_q (.int .i64 x106) S (want_b rfl rfl hc217) (by decide) (q_move rfl) (fun a S => ?_)
              obtain ⟨x218, e219, hm⟩ := bind_some hm
              obtain ⟨c220, h221, hat222⟩ := (h0).elem (idx_some e219).2
              obtain ⟨c225, c226, rfl, h227, h228⟩ := h221
              obtain rfl := h227
              obtain ⟨c229, c230, rfl, h231, h232⟩ := h228
              obtain rfl := h231
              obtain ⟨v223, rfl, h224⟩ := rd_list h232
              have hlt := lt_of_idx (idx_some e219).2
              refine lx_q (ePtr p0 (x106.toNat * 3)) S (want_b rfl rfl hc217) (by decide) (q_indexAddr rfl (h0).isSl rfl (idx_some e219).1 hlt Try.underlying42 Try.sizeOf75) (fun a S => ?_)
              refine lx_q (pAdd (ePtr p0 (x106.toNat * 3)) 2) S (want_b rfl rfl hc217) (by decide) (q_fieldAddr' 2 29 rfl ((hat222 0 _ rfl).isP) Try.underlying75 rfl Try.sizeOf29) (fun a S => ?_)
              refine lx_q v223 S (want_b rfl rfl hc217) (by decide) (q_load1 rfl Try.isAgg29 (fun w1 hC => (At.of_add (m := 2) (j := 0) ((hat222 2 _ rfl).ext hC.ext)))) (fun a S => ?_)
              refine lx_q (.int .i64 (x218.2.2.length : Int)) S (want_b rfl rfl hc217) (by decide) (q_lenSl rfl (h224).isSl rfl Try.underlying29) (fun a S => ?_)
              refine lx_q (.bool (decide ((0 : Int) < (x218.2.2.length : Int)))) S (want_b rfl rfl hc217) (by decide) (q_gtr rfl rfl) (fun a S => ?_)
              refine lx_q (.bool (decide ((0 : Int) < (x218.2.2.length : Int)))) S (want_b rfl rfl hc217) (by decide) (q_move rfl) (fun a S => ?_)
              obtain ⟨t233, e234, hm⟩ := bind_some hm
              refine lx_cut 12 (fun a w => Slots a 53 [(0, p0), (1, p1), (5, (.int .i64 x106)), (31, (.bool t207)), (51, (.bool t233))] ∧ Heap w0 [] w) ?_ ?_
              · by_cases hc235 : (decide ((0 : Int) < (x218.2.2.length : Int))) = true
                · have hm := ite_t hc235 e234
                  refine lx_q p0 S (want_b rfl rfl hc235) (by decide) (q_move rfl) (fun a S => ?_)
                  refine lx_q (.int .i64 x106) S (want_b rfl rfl hc235) (by decide) (q_move rfl) (fun a S => ?_)
                  obtain ⟨x236, e237, hm⟩ := bind_some hm
                  obtain ⟨c238, h239, hat240⟩ := (h0).elem (idx_some e237).2
                  obtain ⟨c243, c244, rfl, h245, h246⟩ := h239
                  obtain rfl := h245
                  obtain ⟨c247, c248, rfl, h249, h250⟩ := h246
                  obtain rfl := h249
                  obtain ⟨v241, rfl, h242⟩ := rd_list h250
                  have hlt := lt_of_idx (idx_some e237).2
                  refine lx_q (ePtr p0 (x106.toNat * 3)) S (want_b rfl rfl hc235) (by decide) (q_indexAddr rfl (h0).isSl rfl (idx_some e237).1 hlt Try.underlying42 Try.sizeOf75) (fun a S => ?_)
                  refine lx_q (pAdd (ePtr p0 (x106.toNat * 3)) 2) S (want_b rfl rfl hc235) (by decide) (q_fieldAddr' 2 29 rfl ((hat240 0 _ rfl).isP) Try.underlying75 rfl Try.sizeOf29) (fun a S => ?_)
                  refine lx_q v241 S (want_b rfl rfl hc235) (by decide) (q_load1 rfl Try.isAgg29 (fun w1 hC => (At.of_add (m := 2) (j := 0) ((hat240 2 _ rfl).ext hC.ext)))) (fun a S => ?_)
                  refine lx_q p1 S (want_b rfl rfl hc235) (by decide) (q_move rfl) (fun a S => ?_)
                  refine lx_q (.int .i64 x106) S (want_b rfl rfl hc235) (by decide) (q_move rfl) (fun a S => ?_)
                  obtain ⟨x251, e252, hm⟩ := bind_some hm
                  obtain ⟨c253, h254, hat255⟩ := (h1).elem (idx_some e252).2
                  obtain rfl := h254
                  have hlt := lt_of_idx (idx_some e252).2
                  refine lx_q (ePtr p1 (x106.toNat * 1)) S (want_b rfl rfl hc235) (by decide) (q_indexAddr rfl (h1).isSl rfl (idx_some e252).1 hlt Try.underlying29 Try.sizeOf2) (fun a S => ?_)
                  refine lx_q (.int .i64 x251) S (want_b rfl rfl hc235) (by decide) (q_load1 rfl Try.isAgg2 (fun w1 hC => ((hat255 0 _ rfl).ext hC.ext))) (fun a S => ?_)
                  obtain ⟨x258, e259, hm⟩ := bind_some hm
                  refine lx_call (xs := [.tmp 44, .tmp 48]) S (want_b rfl rfl hc235) (by decide) rfl rfl Try.call76 ((spec_l00Has_ok (H.arg h242)  e259).mono ?_)
                  rintro e w256 ⟨rfl, Hc257⟩
                  have he260 := Hc257.ext
                  have H := H.call0 Hc257
                  refine ⟨_, rfl, H.sel [] (by decide), fun a S => ?_⟩
                  refine lx_q (.bool (!x258)) S (want_b rfl rfl hc235) (by decide) (q_not rfl) (fun a S => ?_)
                  refine lx_q (.bool (!x258)) S (want_b rfl rfl hc217) (by decide) (q_pickT' rfl hc235 rfl) (fun a S => ?_)
                  refine lx_nil ?_
                  obtain rfl := Option.some.inj hm
                  exact ⟨S.sub ⟨rfl, rfl, rfl, rfl, rfl, trivial⟩, H⟩
                · have hm := ite_f (eq_false_of_ne_true hc235) e234
                  have hc235 : (decide ((0 : Int) < (x218.2.2.length : Int))) = false := eq_false_of_ne_true hc235
                  refine lx_skip S rfl rfl (isB_ne hc235) (by decide) (fun a S => ?_)
                  refine lx_skip S rfl rfl (isB_ne hc235) (by decide) (fun a S => ?_)
                  refine lx_skip S rfl rfl (isB_ne hc235) (by decide) (fun a S => ?_)
                  refine lx_skip S rfl rfl (isB_ne hc235) (by decide) (fun a S => ?_)
                  refine lx_skip S rfl rfl (isB_ne hc235) (by decide) (fun a S => ?_)
                  refine lx_skip S rfl rfl (isB_ne hc235) (by decide) (fun a S => ?_)
                  refine lx_skip S rfl rfl (isB_ne hc235) (by decide) (fun a S => ?_)
                  refine lx_skip S rfl rfl (isB_ne hc235) (by decide) (fun a S => ?_)
                  refine lx_skip S rfl rfl (isB_ne hc235) (by decide) (fun a S => ?_)
                  refine lx_skip S rfl rfl (isB_ne hc235) (by decide) (fun a S => ?_)
                  refine lx_skip S rfl rfl (isB_ne hc235) (by decide) (fun a S => ?_)
                  refine lx_q (.bool false) S (want_b rfl rfl hc217) (by decide) (q_pickF' rfl hc235 rfl) (fun a S => ?_)
                  refine lx_nil ?_
                  obtain rfl := Option.some.inj hm
                  exact ⟨S.sub ⟨rfl, rfl, rfl, rfl, rfl, trivial⟩, H⟩
              · rintro a w ⟨S, H⟩
                refine lx_q (.bool t233) S trivial (by decide) (q_pickF' rfl hc217 rfl) (fun a S => ?_)
                refine lx_nil ?_
                obtain rfl := Option.some.inj hm
                exact ⟨S.sub ⟨rfl, rfl, rfl, rfl, trivial⟩, H⟩
          · rintro a w ⟨S, H⟩
            refine lx_nil ?_
            refine thenN ?_
            refine cond_b S rfl (fun hc261 => ?_) (fun hc261 => ?_)
            · have hm := ite_t hc261 hm
              refine wp_seq ?_
              refine region_plain ?_
              refine lx_q (.bool false) S trivial (by decide) (q_assign rfl) (fun a S => ?_)
              refine lx_nil ?_
              refine thenN ?_
              refine wp_ret ?_
              refine inBlock_ret ?_
              refine then_ret ?_
              refine then_ret ?_
              refine inBlock_ret ?_
              refine then_ret ?_
              refine then_ret ?_
              obtain rfl := it_brk hm hc188
              have hm := ctl_inr hk185
              obtain rfl := Option.some.inj hm
              exact leave1 S rfl rfl ⟨rfl, H⟩
            · have hm := ite_f hc261 hm
              refine wp_skip ?_
              refine inBlock_norm ?_
              refine thenN ?_
              refine region_plain ?_
              refine lx_q (.int .i64 x106) S trivial (by decide) (q_move rfl) (fun a S => ?_)
              refine lx_q (.int .i64 (W (x106 + (1 : Int)))) S trivial (by decide) (q_add rfl rfl) (fun a S => ?_)
              refine lx_q (.int .i64 (W (x106 + (1 : Int)))) S trivial (by decide) (q_assign rfl) (fun a S => ?_)
              refine lx_nil ?_
              exact ⟨m186, Nat.lt_succ_self _, (W (x106 + (1 : Int))), S.sub ⟨rfl, rfl, rfl, trivial⟩, H, it_cont hm hc188⟩
      · have hm := ite_f hc189 hm
        refine wp_exit ?_
        refine then_exit ?_
        refine then_exit ?_
        refine inBlock_exit ?_
        obtain rfl := it_brk hm hc188
        exact ⟨S.sub trivial, H, rfl⟩

/-- spec.l11Place -/
def spec_l11Place_m (fuel : Nat) (a0 : (List Int)) (a1 : Int) : Option (Int) :=
  (iter (fun (s : (Int)) => (match s with | (x39) => (if (decide (x39 < (a0.length : Int))) = true then (idx a0 x39).bind fun x57 => (if (x57 == a1) = true then some (.inr (.inr x39)) else some (.inl ((W (x39 + (1 : Int)))))) else some (.inr (.inl ()))) : Option (((Int)) ⊕ ((Unit) ⊕ (Int))))) fuel ((0 : Int))).bind fun res48 => ctl (β := Unit) (ρ := Int) (τ := Int) res48 (fun _ => some ((-1 : Int))) (fun q => some (q))
set_option maxRecDepth 20000 in
theorem spec_l11Place_ok {w0 : World} {fuel : Nat} {p0 : Value} {a0 : (List Int)} {a1 : Int} {r : Int} (h0 : Rd (rList (rInt .i64)) w0 p0 a0) (hm : spec_l11Place_m fuel a0 a1 = some r) :
    Calls Try.prog 62 #[p0, .int .i64 a1] w0 fun e w => e = .returned (.int .i64 r) ∧ Heap w0 [] w := by
  unfold spec_l11Place_m at hm
  have H := Heap.start w0
  refine enter (args := [p0, .int .i64 a1]) Try.func62 rfl 19 rfl (Nat.le_of_ble_eq_true rfl) (fun a S => ?_)
  refine wp_seq ?_
  refine region_plain ?_
  refine lx_q (.int .i64 (0 : Int)) S trivial (by decide) (q_assign rfl) (fun a S => ?_)
  refine lx_nil ?_
  refine thenN ?_
  refine wp_seq ?_
  refine wp_seq ?_
  refine region_plain ?_
  refine lx_q (.int .i64 (0 : Int)) S trivial (by decide) (q_assign rfl) (fun a S => ?_)
  refine lx_nil ?_
  refine thenN ?_
  obtain ⟨res48, hit49, hk52⟩ := bind_some hm
  obtain ⟨f50, hf51, hit49⟩ := iter_name hit49
  refine block_loop (fun a w => Slots a 19 [] ∧ Heap w0 [] w ∧ res48 = .inl ()) ?_ ?_
  · rintro a w ⟨S, H, rfl⟩
    have hm := ctl_inl hk52
    refine thenN ?_
    refine wp_seq ?_
    refine region_plain ?_
    refine lx_q (.int .i64 (-1 : Int)) S trivial (by decide) (q_assign rfl) (fun a S => ?_)
    refine lx_nil ?_
    refine thenN ?_
    refine wp_ret ?_
    obtain rfl := Option.some.inj hm
    exact leave1 S rfl rfl ⟨rfl, H⟩
  · skip
    refine loop_ghost (fun n a w => ∃ (x39 : Int), Slots a 19 [(0, p0), (1, (.int .i64 a1)), (5, (.int .i64 x39))] ∧ Heap w0 [] w ∧ iter f50 n (x39) = some res48) _ ⟨(0 : Int), S.sub ⟨rfl, rfl, rfl, trivial⟩, H, hit49⟩ ?_
    rintro n a w ⟨x39, S, H, hit49⟩
    obtain ⟨m53, o54, rfl, hm, hc55⟩ := iter_step hit49
    rw [hf51] at hm
    refine wp_seq ?_
    refine wp_seq ?_
    refine region_plain ?_
    refine lx_q (.int .i64 x39) S trivial (by decide) (q_move rfl) (fun a S => ?_)
    refine lx_q p0 S trivial (by decide) (q_move rfl) (fun a S => ?_)
    refine lx_q (.int .i64 (a0.length : Int)) S trivial (by decide) (q_lenSl rfl (h0).isSl rfl Try.underlying29) (fun a S => ?_)
    refine lx_q (.bool (decide (x39 < (a0.length : Int)))) S trivial (by decide) (q_lss rfl rfl) (fun a S => ?_)
    refine lx_nil ?_
    refine thenN ?_
    refine cond_b S rfl (fun hc56 => ?_) (fun hc56 => ?_)
    · have hm := ite_t hc56 hm
      refine wp_skip ?_
      refine thenN ?_
      refine wp_seq ?_
      refine wp_block ?_
      refine wp_seq ?_
      refine region_plain ?_
      refine lx_q p0 S trivial (by decide) (q_move rfl) (fun a S => ?_)
      refine lx_q (.int .i64 x39) S trivial (by decide) (q_move rfl) (fun a S => ?_)
      obtain ⟨x57, e58, hm⟩ := bind_some hm
      obtain ⟨c59, h60, hat61⟩ := (h0).elem (idx_some e58).2
      obtain rfl := h60
      have hlt := lt_of_idx (idx_some e58).2
      refine lx_q (ePtr p0 (x39.toNat * 1)) S trivial (by decide) (q_indexAddr rfl (h0).isSl rfl (idx_some e58).1 hlt Try.underlying29 Try.sizeOf2) (fun a S => ?_)
      refine lx_e (.int .i64 x57) S trivial (by decide) rfl trivial (q_load1 rfl Try.isAgg2 (by rintro _ rfl; exact ((hat61 0 _ rfl).ext H.ext))) (fun a S => ?_)
      refine lx_q (.int .i64 a1) S trivial (by decide) (q_move rfl) (fun a S => ?_)
      refine lx_q (.bool (x57 == a1)) S trivial (by decide) (q_eql rfl rfl) (fun a S => ?_)
      refine lx_nil ?_
      refine thenN ?_
      refine cond_b S rfl (fun hc62 => ?_) (fun hc62 => ?_)
      · have hm := ite_t hc62 hm
        refine wp_seq ?_
        refine region_plain ?_
        refine lx_q (.int .i64 x39) S trivial (by decide) (q_move rfl) (fun a S => ?_)
        refine lx_q (.int .i64 x39) S trivial (by decide) (q_assign rfl) (fun a S => ?_)
        refine lx_nil ?_
        refine thenN ?_
        refine wp_ret ?_
        refine inBlock_ret ?_
        refine then_ret ?_
        refine then_ret ?_
        refine inBlock_ret ?_
        refine then_ret ?_
        refine then_ret ?_
        obtain rfl := it_brk hm hc55
        have hm := ctl_inr hk52
        obtain rfl := Option.some.inj hm
        exact leave1 S rfl rfl ⟨rfl, H⟩
      · have hm := ite_f hc62 hm
        refine wp_skip ?_
        refine inBlock_norm ?_
        refine thenN ?_
        refine region_plain ?_
        refine lx_q (.int .i64 x39) S trivial (by decide) (q_move rfl) (fun a S => ?_)
        refine lx_q (.int .i64 (W (x39 + (1 : Int)))) S trivial (by decide) (q_add rfl rfl) (fun a S => ?_)
        refine lx_q (.int .i64 (W (x39 + (1 : Int)))) S trivial (by decide) (q_assign rfl) (fun a S => ?_)
        refine lx_nil ?_
        exact ⟨m53, Nat.lt_succ_self _, (W (x39 + (1 : Int))), S.sub ⟨rfl, rfl, rfl, trivial⟩, H, it_cont hm hc55⟩
    · have hm := ite_f hc56 hm
      refine wp_exit ?_
      refine then_exit ?_
      refine then_exit ?_
      refine inBlock_exit ?_
      obtain rfl := it_brk hm hc55
      exact ⟨S.sub trivial, H, rfl⟩

/-- spec.l00Min -/
def spec_l00Min_m (fuel : Nat) (a0 : Int) (a1 : Int) : Option (Int) :=
  (if (decide (a0 < a1)) = true then some (a0) else some (a1))
set_option maxRecDepth 20000 in
theorem spec_l00Min_ok {w0 : World} {fuel : Nat} {a0 : Int} {a1 : Int} {r : Int} (hm : spec_l00Min_m fuel a0 a1 = some r) :
    Calls Try.prog 63 #[.int .i64 a0, .int .i64 a1] w0 fun e w => e = .returned (.int .i64 r) ∧ Heap w0 [] w := by
  unfold spec_l00Min_m at hm
  have H := Heap.start w0
  refine enter (args := [.int .i64 a0, .int .i64 a1]) Try.func63 rfl 10 rfl (Nat.le_of_ble_eq_true rfl) (fun a S => ?_)
  refine wp_seq ?_
  refine region_plain ?_
  refine lx_q (.int .i64 (0 : Int)) S trivial (by decide) (q_assign rfl) (fun a S => ?_)
  refine lx_nil ?_
  refine thenN ?_
  refine wp_seq ?_
  refine wp_seq ?_
  refine region_plain ?_
  refine lx_q (.int .i64 a0) S trivial (by decide) (q_move rfl) (fun a S => ?_)
  refine lx_q (.int .i64 a1) S trivial (by decide) (q_move rfl) (fun a S => ?_)
  refine lx_q (.bool (decide (a0 < a1))) S trivial (by decide) (q_lss rfl rfl) (fun a S => ?_)
  refine lx_nil ?_
  refine thenN ?_
  refine cond_b S rfl (fun hc31 => ?_) (fun hc31 => ?_)
  · have hm := ite_t hc31 hm
    refine wp_seq ?_
    refine region_plain ?_
    refine lx_q (.int .i64 a0) S trivial (by decide) (q_move rfl) (fun a S => ?_)
    refine lx_q (.int .i64 a0) S trivial (by decide) (q_assign rfl) (fun a S => ?_)
    refine lx_nil ?_
    refine thenN ?_
    refine wp_ret ?_
    refine then_ret ?_
    obtain rfl := Option.some.inj hm
    exact leave1 S rfl rfl ⟨rfl, H⟩
  · have hm := ite_f hc31 hm
    refine wp_skip ?_
    refine thenN ?_
    refine wp_seq ?_
    refine region_plain ?_
    refine lx_q (.int .i64 a1) S trivial (by decide) (q_move rfl) (fun a S => ?_)
    refine lx_q (.int .i64 a1) S trivial (by decide) (q_assign rfl) (fun a S => ?_)
    refine lx_nil ?_
    refine thenN ?_
    refine wp_ret ?_
    obtain rfl := Option.some.inj hm
    exact leave1 S rfl rfl ⟨rfl, H⟩

/-- spec.PlayGame -/
def spec_PlayGame_m (fuel : Nat) (a0 : (List Timpl_Vertex)) (a1 : (List Int)) (a2 : Int) : Option (((List Int) × Int × Int × Int)) :=
  (spec_l23Is_m fuel a0).bind fun x33 => (if (!x33) = true then some (([], (0 : Int), (0 : Int), (1 : Int))) else (spec_l00In_m fuel a2 (0 : Int) (W ((a0.length : Int) - (1 : Int)))).bind fun x40 => (if (!x40) = true then some (([], (0 : Int), (0 : Int), (2 : Int))) else (spec_l23Choices_m fuel a0 a1).bind fun x47 => (if (!x47) = true then some (([], (0 : Int), (0 : Int), (7 : Int))) else (iter (fun (s : (List Int)) => (match s with | (xs194) => (idx xs194 (W ((xs194.length : Int) - (1 : Int)))).bind fun x342 => (idx a1 x342).bind fun x347 => (if (decide (x347 < (0 : Int))) = true then (idx a0 x342).bind fun x355 => some (.inr (.inr (xs194, (-1 : Int), (W ((1 : Int) - x355.1)), (0 : Int)))) else (spec_l11Place_m fuel xs194 x347).bind fun x372 => (if (decide ((0 : Int) ≤ x372)) = true then (iter (fun (s : (Int) × (Int)) => (match s with | (x404, x405) => (if (decide (x405 < (xs194.length : Int))) = true then (idx xs194 x405).bind fun x444 => (idx a0 x444).bind fun x449 => (spec_l00Min_m fuel x404 x449.2.1).bind fun x466 => some (.inl (x466, (W (x405 + (1 : Int))))) else some (.inr (.inl (x404)))) : Option (((Int) × (Int)) ⊕ ((Int) ⊕ (((List Int) × Int × Int × Int)))))) fuel ((9 : Int), x372)).bind fun res435 => ctl (β := Int) (ρ := ((List Int) × Int × Int × Int)) (τ := (((List Int)) ⊕ ((Empty) ⊕ (((List Int) × Int × Int × Int))))) res435 (fun (x434) => some (.inr (.inr (xs194, x372, (x434.tmod (2 : Int)), (0 : Int))))) (fun q => some (.inr (.inr q))) else (app xs194 [x347]).bind fun x472 => some (.inl (x472)))) : Option (((List Int)) ⊕ ((Empty) ⊕ (((List Int) × Int × Int × Int)))))) fuel ([a2])).bind fun res334 => ctl (β := Empty) (ρ := ((List Int) × Int × Int × Int)) (τ := ((List Int) × Int × Int × Int)) res334 (fun e_ => nomatch e_) (fun q => some (q)))))
set_option maxRecDepth 20000 in
theorem spec_PlayGame_ok {w0 : World} {fuel : Nat} {p0 p1 : Value} {a0 : (List Timpl_Vertex)} {a1 : (List Int)} {a2 : Int} {r : ((List Int) × Int × Int × Int)} (h0 : Rd (rList Rimpl_Vertex) w0 p0 a0) (h1 : Rd (rList (rInt .i64)) w0 p1 a1) (hm : spec_PlayGame_m fuel a0 a1 a2 = some r) :
    Calls Try.prog 34 #[p0, p1, .int .i64 a2] w0 fun e w => ∃ (v0 : Value), e = .returned (.tuple #[v0, .int .i64 r.2.1, .int .i64 r.2.2.1, .int .i64 r.2.2.2]) ∧ Heap w0 [oA (rList (rInt .i64)) v0 r.1] w := by
  unfold spec_PlayGame_m at hm
  have H := Heap.start w0
  refine enter (args := [p0, p1, .int .i64 a2]) Try.func34 rfl 80 rfl (Nat.le_of_ble_eq_true rfl) (fun a S => ?_)
  refine wp_seq ?_
  refine region_plain ?_
  refine lx_q (.slice none 0 0) S trivial (by decide) (q_assign rfl) (fun a S => ?_)
  refine lx_q (.int .i64 (0 : Int)) S trivial (by decide) (q_assign rfl) (fun a S => ?_)
  refine lx_q (.int .i64 (0 : Int)) S trivial (by decide) (q_assign rfl) (fun a S => ?_)
  refine lx_q (.int .i64 (0 : Int)) S trivial (by decide) (q_assign rfl) (fun a S => ?_)
  refine lx_nil ?_
  refine thenN ?_
  refine wp_seq ?_
  refine wp_seq ?_
  refine region_plain ?_
  refine lx_q p0 S trivial (by decide) (q_move rfl) (fun a S => ?_)
  obtain ⟨x33, e34, hm⟩ := bind_some hm
  refine lx_call (xs := [.tmp 16]) S trivial (by decide) rfl rfl Try.call52 ((spec_l23Is_ok (H.arg h0) e34).mono ?_)
  rintro e w31 ⟨rfl, Hc32⟩
  have he35 := Hc32.ext
  have H := H.call0 Hc32
  refine ⟨_, rfl, trivial, fun a S => ?_⟩
  refine lx_q (.bool (!x33)) S trivial (by decide) (q_not rfl) (fun a S => ?_)
  refine lx_nil ?_
  refine thenN ?_
  refine cond_b S rfl (fun hc36 => ?_) (fun hc36 => ?_)
  · have hm := ite_t hc36 hm
    refine wp_seq ?_
    refine region_plain ?_
    refine lx_q (.slice none 0 0) S trivial (by decide) (q_assign rfl) (fun a S => ?_)
    refine lx_q (.int .i64 (0 : Int)) S trivial (by decide) (q_assign rfl) (fun a S => ?_)
    refine lx_q (.int .i64 (0 : Int)) S trivial (by decide) (q_assign rfl) (fun a S => ?_)
    refine lx_q (.int .i64 (1 : Int)) S trivial (by decide) (q_assign rfl) (fun a S => ?_)
    refine lx_nil ?_
    refine thenN ?_
    refine wp_ret ?_
    refine then_ret ?_
    obtain rfl := Option.some.inj hm
    have H : Heap w0 [oA (rList (rInt .i64)) (.slice none 0 0) ([] : List Int)] w31 := H.nilList (rInt .i64)
    exact leave4 S rfl rfl rfl rfl rfl ⟨(.slice none 0 0), rfl, H⟩
  · have hm := ite_f hc36 hm
    refine wp_skip ?_
    refine thenN ?_
    refine wp_seq ?_
    refine wp_seq ?_
    refine region_plain ?_
    refine lx_q (.int .i64 a2) S trivial (by decide) (q_move rfl) (fun a S => ?_)
    refine lx_q p0 S trivial (by decide) (q_move rfl) (fun a S => ?_)
    refine lx_q (.int .i64 (a0.length : Int)) S trivial (by decide) (q_lenSl rfl (h0).isSl rfl Try.underlying42) (fun a S => ?_)
    refine lx_q (.int .i64 (W ((a0.length : Int) - (1 : Int)))) S trivial (by decide) (q_sub rfl rfl) (fun a S => ?_)
    obtain ⟨x40, e41, hm⟩ := bind_some hm
    refine lx_call (xs := [.tmp 19, .const (.int .i64 (0)), .tmp 22]) S trivial (by decide) rfl rfl Try.call60 ((spec_l00In_ok    e41).mono ?_)
    rintro e w38 ⟨rfl, Hc39⟩
    have he42 := Hc39.ext
    have H := H.call0 Hc39
    refine ⟨_, rfl, trivial, fun a S => ?_⟩
    refine lx_q (.bool (!x40)) S trivial (by decide) (q_not rfl) (fun a S => ?_)
    refine lx_nil ?_
    refine thenN ?_
    refine cond_b S rfl (fun hc43 => ?_) (fun hc43 => ?_)
    · have hm := ite_t hc43 hm
      refine wp_seq ?_
      refine region_plain ?_
      refine lx_q (.slice none 0 0) S trivial (by decide) (q_assign rfl) (fun a S => ?_)
      refine lx_q (.int .i64 (0 : Int)) S trivial (by decide) (q_assign rfl) (fun a S => ?_)
      refine lx_q (.int .i64 (0 : Int)) S trivial (by decide) (q_assign rfl) (fun a S => ?_)
      refine lx_q (.int .i64 (2 : Int)) S trivial (by decide) (q_assign rfl) (fun a S => ?_)
      refine lx_nil ?_
      refine thenN ?_
      refine wp_ret ?_
      refine then_ret ?_
      obtain rfl := Option.some.inj hm
      have H : Heap w0 [oA (rList (rInt .i64)) (.slice none 0 0) ([] : List Int)] w38 := H.nilList (rInt .i64)
      exact leave4 S rfl rfl rfl rfl rfl ⟨(.slice none 0 0), rfl, H⟩
    · have hm := ite_f hc43 hm
      refine wp_skip ?_
      refine thenN ?_
      refine wp_seq ?_
      refine wp_seq ?_
      refine region_plain ?_
      refine lx_q p0 S trivial (by decide) (q_move rfl) (fun a S => ?_)
      refine lx_q p1 S trivial (by decide) (q_move rfl) (fun a S => ?_)
      obtain ⟨x47, e48, hm⟩ := bind_some hm
      refine lx_call (xs := [.tmp 25, .tmp 26]) S trivial (by decide) rfl rfl Try.call61 ((spec_l23Choices_ok (H.arg h0) (H.arg h1) e48).mono ?_)
      rintro e w45 ⟨rfl, Hc46⟩
      have he49 := Hc46.ext
      have H := H.call0 Hc46
      refine ⟨_, rfl, trivial, fun a S => ?_⟩
      refine lx_q (.bool (!x47)) S trivial (by decide) (q_not rfl) (fun a S => ?_)
      refine lx_nil ?_
      refine thenN ?_
      refine cond_b S rfl (fun hc50 => ?_) (fun hc50 => ?_)
      · have hm := ite_t hc50 hm
        refine wp_seq ?_
        refine region_plain ?_
        refine lx_q (.slice none 0 0) S trivial (by decide) (q_assign rfl) (fun a S => ?_)
        refine lx_q (.int .i64 (0 : Int)) S trivial (by decide) (q_assign rfl) (fun a S => ?_)
        refine lx_q (.int .i64 (0 : Int)) S trivial (by decide) (q_assign rfl) (fun a S => ?_)
        refine lx_q (.int .i64 (7 : Int)) S trivial (by decide) (q_assign rfl) (fun a S => ?_)
        refine lx_nil ?_
        refine thenN ?_
        refine wp_ret ?_
        refine then_ret ?_
        obtain rfl := Option.some.inj hm
        have H : Heap w0 [oA (rList (rInt .i64)) (.slice none 0 0) ([] : List Int)] w45 := H.nilList (rInt .i64)
        exact leave4 S rfl rfl rfl rfl rfl ⟨(.slice none 0 0), rfl, H⟩
      · have hm := ite_f hc50 hm
        refine wp_skip ?_
        refine thenN ?_
        refine wp_seq ?_
        refine region_plain ?_
        refine lx_q (.int .i64 a2) S trivial (by decide) (q_move rfl) (fun a S => ?_)
        refine lx_buildSlice (r := (rInt .i64)) (xs := [a2]) (ps := [(0, [(.int .i64 a2)])]) (cs := [(.int .i64 a2)]) (parts := [(0, .tmp 29)]) S trivial (by decide) rfl (H.put0 (A := eA) rfl) rfl Try.underlying29 Try.sizeOf2 Try.zeroValue2 (by decide) ⟨rfl, rfl, Nat.le_of_ble_eq_true rfl, trivial⟩ (by intro zs hz; exact fill_dense hz ⟨rfl, trivial⟩ rfl rfl) rfl (by decide) (fun w F hA => by cases (show F = [] from hA); exact ⟨_, _, [(.int .i64 a2)], _, rfl, rfl, ⟨rfl, rfl⟩, ⟨rfl, rfl⟩⟩) (fun v52 w53 H => ⟨trivial, fun a S => ?_⟩)
        refine lx_q v52 S trivial (by decide) (q_assign rfl) (fun a S => ?_)
        refine lx_nil ?_
        refine thenN ?_
        obtain ⟨res334, hit335, hk338⟩ := bind_some hm
        obtain ⟨f336, hf337, hit335⟩ := iter_name hit335
        refine block_loop (fun a w => False) ?_ ?_
        · exact fun _ _ h => h.elim
        · skip
          refine loop_ghost (fun n a w => ∃ (xs194 : List Int) (v193 : Value), Slots a 80 [(0, p0), (1, p1), (10, v193)] ∧ Heap w0 [oA (rList (rInt .i64)) v193 xs194] w ∧ iter f336 n (xs194) = some res334) _ ⟨[a2], v52, S.sub ⟨rfl, rfl, rfl, trivial⟩, H, hit335⟩ ?_
          rintro n a w ⟨xs194, v193, S, H, hit335⟩
          obtain ⟨m339, o340, rfl, hm, hc341⟩ := iter_step hit335
          rw [hf337] at hm
          refine wp_block ?_
          refine wp_seq ?_
          refine region_plain ?_
          refine lx_q v193 S trivial (by decide) (q_move rfl) (fun a S => ?_)
          refine lx_q v193 S trivial (by decide) (q_move rfl) (fun a S => ?_)
          refine lx_q (.int .i64 (xs194.length : Int)) S trivial (by decide) (q_lenSl rfl (H.isSl 0 rfl) rfl Try.underlying29) (fun a S => ?_)
          refine lx_q (.int .i64 (W ((xs194.length : Int) - (1 : Int)))) S trivial (by decide) (q_sub rfl rfl) (fun a S => ?_)
          obtain ⟨x342, e343, hm⟩ := bind_some hm
          have hlt := lt_of_idx (idx_some e343).2
          refine lx_q (ePtr v193 ((W ((xs194.length : Int) - (1 : Int))).toNat * 1)) S trivial (by decide) (q_indexAddr rfl (H.isSl 0 rfl) rfl (idx_some e343).1 hlt Try.underlying29 Try.sizeOf2) (fun a S => ?_)
          obtain ⟨c344, h345, hat346⟩ := (H.rdAt 0 rfl).elem (idx_some e343).2
          obtain rfl := h345
          refine lx_e (.int .i64 x342) S trivial (by decide) rfl trivial (q_load1 rfl Try.isAgg2 (by rintro _ rfl; exact (hat346 0 _ rfl))) (fun a S => ?_)
          refine lx_q (.int .i64 x342) S trivial (by decide) (q_assign rfl) (fun a S => ?_)
          refine lx_nil ?_
          refine thenN ?_
          refine wp_seq ?_
          refine region_plain ?_
          refine lx_q p1 S trivial (by decide) (q_move rfl) (fun a S => ?_)
          refine lx_q (.int .i64 x342) S trivial (by decide) (q_move rfl) (fun a S => ?_)
          obtain ⟨x347, e348, hm⟩ := bind_some hm
          obtain ⟨c349, h350, hat351⟩ := (h1).elem (idx_some e348).2
          obtain rfl := h350
          have hlt := lt_of_idx (idx_some e348).2
          refine lx_q (ePtr p1 (x342.toNat * 1)) S trivial (by decide) (q_indexAddr rfl (h1).isSl rfl (idx_some e348).1 hlt Try.underlying29 Try.sizeOf2) (fun a S => ?_)
          refine lx_e (.int .i64 x347) S trivial (by decide) rfl trivial (q_load1 rfl Try.isAgg2 (by rintro _ rfl; exact ((hat351 0 _ rfl).ext H.ext))) (fun a S => ?_)
          refine lx_q (.int .i64 x347) S trivial (by decide) (q_assign rfl) (fun a S => ?_)
          refine lx_nil ?_
          refine thenN ?_
          refine wp_seq ?_
          refine wp_seq ?_
          refine region_plain ?_
          refine lx_q (.int .i64 x347) S trivial (by decide) (q_move rfl) (fun a S => ?_)
          refine lx_q (.bool (decide (x347 < (0 : Int)))) S trivial (by decide) (q_lss rfl rfl) (fun a S => ?_)
          refine lx_nil ?_
          refine thenN ?_
          refine cond_b S rfl (fun hc352 => ?_) (fun hc352 => ?_)
          · have hm := ite_t hc352 hm
            refine wp_seq ?_
            refine region_drawG (fun w1 => Heap w0 [] w1) (fun i => [].contains i) mixed (by kernel_rfl) (fun w354 he353 => ?_)
            have H := H.later he353
            refine ⟨H.sel [] (by decide), ?_⟩
            refine lx_q v193 S trivial (by decide) (q_move rfl) (fun a S => ?_)
            refine lx_q p0 S trivial (by decide) (q_move rfl) (fun a S => ?_)
            refine lx_q (.int .i64 x342) S trivial (by decide) (q_move rfl) (fun a S => ?_)
            obtain ⟨x355, e356, hm⟩ := bind_some hm
            obtain ⟨c357, h358, hat359⟩ := (h0).elem (idx_some e356).2
            obtain ⟨c362, c363, rfl, h364, h365⟩ := h358
            obtain rfl := h364
            obtain ⟨c366, c367, rfl, h368, h369⟩ := h365
            obtain rfl := h368
            obtain ⟨v360, rfl, h361⟩ := rd_list h369
            have hlt := lt_of_idx (idx_some e356).2
            refine lx_q (ePtr p0 (x342.toNat * 3)) S trivial (by decide) (q_indexAddr rfl (h0).isSl rfl (idx_some e356).1 hlt Try.underlying42 Try.sizeOf75) (fun a S => ?_)
            refine lx_q (pAdd (ePtr p0 (x342.toNat * 3)) 0) S trivial (by decide) (q_fieldAddr' 0 2 rfl ((hat359 0 _ rfl).isP) Try.underlying75 rfl Try.sizeOf2) (fun a S => ?_)
            refine lx_q (.int .i64 x355.1) S trivial (by decide) (q_load1 rfl Try.isAgg2 (fun w1 hC => (At.of_add (m := 0) (j := 0) ((hat359 0 _ rfl).ext hC.ext)))) (fun a S => ?_)
            refine lx_q (.int .i64 (W ((1 : Int) - x355.1))) S trivial (by decide) (q_sub rfl rfl) (fun a S => ?_)
            refine lx_q v193 S trivial (by decide) (q_assign rfl) (fun a S => ?_)
            refine lx_q (.int .i64 (-1 : Int)) S trivial (by decide) (q_assign rfl) (fun a S => ?_)
            refine lx_q (.int .i64 (W ((1 : Int) - x355.1))) S trivial (by decide) (q_assign rfl) (fun a S => ?_)
            refine lx_q (.int .i64 (0 : Int)) S trivial (by decide) (q_assign rfl) (fun a S => ?_)
            refine lx_nil ?_
            refine thenN ?_
            refine wp_ret ?_
            refine then_ret ?_
            refine inBlock_ret ?_
            refine then_ret ?_
            refine inBlock_ret ?_
            refine then_ret ?_
            obtain rfl := it_brk hm hc341
            have hm := ctl_inr hk338
            obtain rfl := Option.some.inj hm
            exact leave4 S rfl rfl rfl rfl rfl ⟨v193, rfl, H⟩
          · have hm := ite_f hc352 hm
            refine wp_skip ?_
            refine thenN ?_
            refine wp_seq ?_
            refine region_plain ?_
            refine lx_q v193 S trivial (by decide) (q_move rfl) (fun a S => ?_)
            refine lx_q (.int .i64 x347) S trivial (by decide) (q_move rfl) (fun a S => ?_)
            obtain ⟨x372, e373, hm⟩ := bind_some hm
            refine lx_call (xs := [.tmp 50, .tmp 51]) S trivial (by decide) rfl rfl Try.call62 ((spec_l11Place_ok (H.rdAt 0 rfl)  e373).mono ?_)
            rintro e w370 ⟨rfl, Hc371⟩
            have he374 := Hc371.ext
            have H := H.call0 Hc371
            refine ⟨_, rfl, trivial, fun a S => ?_⟩
            refine lx_q (.int .i64 x372) S trivial (by decide) (q_assign rfl) (fun a S => ?_)
            refine lx_nil ?_
            refine thenN ?_
            refine wp_seq ?_
            refine wp_seq ?_
            refine region_plain ?_
            refine lx_q (.int .i64 x372) S trivial (by decide) (q_move rfl) (fun a S => ?_)
            refine lx_q (.bool (decide ((0 : Int) ≤ x372))) S trivial (by decide) (q_geq rfl rfl) (fun a S => ?_)
            refine lx_nil ?_
            refine thenN ?_
            refine cond_b S rfl (fun hc375 => ?_) (fun hc375 => ?_)
            · have hm := ite_t hc375 hm
              refine wp_seq ?_
              refine region_plain ?_
              refine lx_q (.int .i64 (9 : Int)) S trivial (by decide) (q_assign rfl) (fun a S => ?_)
              refine lx_nil ?_
              refine thenN ?_
              refine wp_seq ?_
              refine wp_seq ?_
              refine region_plain ?_
              refine lx_q (.int .i64 x372) S trivial (by decide) (q_move rfl) (fun a S => ?_)
              refine lx_q (.int .i64 x372) S trivial (by decide) (q_assign rfl) (fun a S => ?_)
              refine lx_nil ?_
              refine thenN ?_
              obtain ⟨res435, hit436, hk439⟩ := bind_some hm
              obtain ⟨f437, hf438, hit436⟩ := iter_name hit436
              refine block_loop (fun a w => ∃ (x434 : Int), Slots a 80 [(10, v193), (13, (.int .i64 x372)), (14, (.int .i64 x434))] ∧ Heap w0 [oA (rList (rInt .i64)) v193 xs194] w ∧ res435 = .inl (x434)) ?_ ?_
              · rintro a w ⟨x434, S, H, rfl⟩
                have hm := ctl_inl hk439
                refine thenN ?_
                refine wp_seq ?_
                refine region_plain ?_
                refine lx_q v193 S trivial (by decide) (q_move rfl) (fun a S => ?_)
                refine lx_q (.int .i64 x372) S trivial (by decide) (q_move rfl) (fun a S => ?_)
                refine lx_q (.int .i64 x434) S trivial (by decide) (q_move rfl) (fun a S => ?_)
                refine lx_q (.int .i64 (x434.tmod (2 : Int))) S trivial (by decide) (q_rem rfl rfl (show (2 : Int) ≠ 0 from by decide)) (fun a S => ?_)
                refine lx_q v193 S trivial (by decide) (q_assign rfl) (fun a S => ?_)
                refine lx_q (.int .i64 x372) S trivial (by decide) (q_assign rfl) (fun a S => ?_)
                refine lx_q (.int .i64 (x434.tmod (2 : Int))) S trivial (by decide) (q_assign rfl) (fun a S => ?_)
                refine lx_q (.int .i64 (0 : Int)) S trivial (by decide) (q_assign rfl) (fun a S => ?_)
                refine lx_nil ?_
                refine thenN ?_
                refine wp_ret ?_
                refine then_ret ?_
                refine inBlock_ret ?_
                refine then_ret ?_
                refine inBlock_ret ?_
                refine then_ret ?_
                obtain rfl := it_brk hm hc341
                have hm := ctl_inr hk338
                obtain rfl := Option.some.inj hm
                exact leave4 S rfl rfl rfl rfl rfl ⟨v193, rfl, H⟩
              · skip
                refine loop_ghost (fun n a w => ∃ (x404 : Int) (x405 : Int), Slots a 80 [(0, p0), (10, v193), (13, (.int .i64 x372)), (14, (.int .i64 x404)), (15, (.int .i64 x405))] ∧ Heap w0 [oA (rList (rInt .i64)) v193 xs194] w ∧ iter f437 n (x404, x405) = some res435) _ ⟨(9 : Int), x372, S.sub ⟨rfl, rfl, rfl, rfl, rfl, trivial⟩, H, hit436⟩ ?_
                rintro n a w ⟨x404, x405, S, H, hit436⟩
                obtain ⟨m440, o441, rfl, hm, hc442⟩ := iter_step hit436
                rw [hf438] at hm
                refine wp_seq ?_
                refine wp_seq ?_
                refine region_plain ?_
                refine lx_q (.int .i64 x405) S trivial (by decide) (q_move rfl) (fun a S => ?_)
                refine lx_q v193 S trivial (by decide) (q_move rfl) (fun a S => ?_)
                refine lx_q (.int .i64 (xs194.length : Int)) S trivial (by decide) (q_lenSl rfl (H.isSl 0 rfl) rfl Try.underlying29) (fun a S => ?_)
                refine lx_q (.bool (decide (x405 < (xs194.length : Int)))) S trivial (by decide) (q_lss rfl rfl) (fun a S => ?_)
                refine lx_nil ?_
                refine thenN ?_
                refine cond_b S rfl (fun hc443 => ?_) (fun hc443 => ?_)
                · have hm := ite_t hc443 hm
                  refine wp_skip ?_
                  refine thenN ?_
                  refine wp_seq ?_
                  refine wp_block ?_
                  refine region_plain ?_
                  refine lx_q (.int .i64 x404) S trivial (by decide) (q_move rfl) (fun a S => ?_)
                  refine lx_q p0 S trivial (by decide) (q_move rfl) (fun a S => ?_)
                  refine lx_q v193 S trivial (by decide) (q_move rfl) (fun a S => ?_)
                  refine lx_q (.int .i64 x405) S trivial (by decide) (q_move rfl) (fun a S => ?_)
                  obtain ⟨x444, e445, hm⟩ := bind_some hm
                  have hlt := lt_of_idx (idx_some e445).2
                  refine lx_q (ePtr v193 (x405.toNat * 1)) S trivial (by decide) (q_indexAddr rfl (H.isSl 0 rfl) rfl (idx_some e445).1 hlt Try.underlying29 Try.sizeOf2) (fun a S => ?_)
                  obtain ⟨c446, h447, hat448⟩ := (H.rdAt 0 rfl).elem (idx_some e445).2
                  obtain rfl := h447
                  refine lx_e (.int .i64 x444) S trivial (by decide) rfl trivial (q_load1 rfl Try.isAgg2 (by rintro _ rfl; exact (hat448 0 _ rfl))) (fun a S => ?_)
                  obtain ⟨x449, e450, hm⟩ := bind_some hm
                  obtain ⟨c451, h452, hat453⟩ := (h0).elem (idx_some e450).2
                  obtain ⟨c456, c457, rfl, h458, h459⟩ := h452
                  obtain rfl := h458
                  obtain ⟨c460, c461, rfl, h462, h463⟩ := h459
                  obtain rfl := h462
                  obtain ⟨v454, rfl, h455⟩ := rd_list h463
                  have hlt := lt_of_idx (idx_some e450).2
                  refine lx_q (ePtr p0 (x444.toNat * 3)) S trivial (by decide) (q_indexAddr rfl (h0).isSl rfl (idx_some e450).1 hlt Try.underlying42 Try.sizeOf75) (fun a S => ?_)
                  refine lx_q (pAdd (ePtr p0 (x444.toNat * 3)) 1) S trivial (by decide) (q_fieldAddr' 1 2 rfl ((hat453 0 _ rfl).isP) Try.underlying75 rfl Try.sizeOf2) (fun a S => ?_)
                  refine lx_e (.int .i64 x449.2.1) S trivial (by decide) rfl trivial (q_load1 rfl Try.isAgg2 (by rintro _ rfl; exact (At.of_add (m := 1) (j := 0) ((hat453 1 _ rfl).ext H.ext)))) (fun a S => ?_)
                  obtain ⟨x466, e467, hm⟩ := bind_some hm
                  refine lx_call (xs := [.tmp 62, .tmp 70]) S trivial (by decide) rfl rfl Try.call63 ((spec_l00Min_ok   e467).mono ?_)
                  rintro e w464 ⟨rfl, Hc465⟩
                  have he468 := Hc465.ext
                  have H := H.call0 Hc465
                  refine ⟨_, rfl, trivial, fun a S => ?_⟩
                  refine lx_q (.int .i64 x466) S trivial (by decide) (q_assign rfl) (fun a S => ?_)
                  refine lx_nil ?_
                  refine inBlock_norm ?_
                  refine thenN ?_
                  refine region_plain ?_
                  refine lx_q (.int .i64 x405) S trivial (by decide) (q_move rfl) (fun a S => ?_)
                  refine lx_q (.int .i64 (W (x405 + (1 : Int)))) S trivial (by decide) (q_add rfl rfl) (fun a S => ?_)
                  refine lx_q (.int .i64 (W (x405 + (1 : Int)))) S trivial (by decide) (q_assign rfl) (fun a S => ?_)
                  refine lx_nil ?_
                  exact ⟨m440, Nat.lt_succ_self _, x466, (W (x405 + (1 : Int))), S.sub ⟨rfl, rfl, rfl, rfl, rfl, trivial⟩, H, it_cont hm hc442⟩
                · have hm := ite_f hc443 hm
                  refine wp_exit ?_
                  refine then_exit ?_
                  refine then_exit ?_
                  refine inBlock_exit ?_
                  obtain rfl := it_brk hm hc442
                  exact ⟨x404, S.sub ⟨rfl, rfl, rfl, trivial⟩, H, rfl⟩
            · have hm := ite_f hc375 hm
              refine wp_skip ?_
              refine thenN ?_
              refine region_plain ?_
              refine lx_q v193 S trivial (by decide) (q_move rfl) (fun a S => ?_)
              refine lx_q (.int .i64 x347) S trivial (by decide) (q_move rfl) (fun a S => ?_)
              refine lx_buildSlice (r := (rInt .i64)) (xs := [x347]) (ps := [(0, [(.int .i64 x347)])]) (cs := [(.int .i64 x347)]) (parts := [(0, .tmp 77)]) S trivial (by decide) rfl (H.put0 (A := eA) rfl) rfl Try.underlying29 Try.sizeOf2 Try.zeroValue2 (by decide) ⟨rfl, rfl, Nat.le_of_ble_eq_true rfl, trivial⟩ (by intro zs hz; exact fill_dense hz ⟨rfl, trivial⟩ rfl rfl) rfl (by decide) (fun w F hA => by cases (show F = [] from hA); exact ⟨_, _, [(.int .i64 x347)], _, rfl, rfl, ⟨rfl, rfl⟩, ⟨rfl, rfl⟩⟩) (fun v469 w470 H => ⟨trivial, fun a S => ?_⟩)
              obtain ⟨x472, e473, hm⟩ := bind_some hm
              obtain ⟨hle, hap⟩ := app_some e473
              replace hap := hap.symm
              subst hap
              have H : Heap w0 [oA (rList (rInt .i64)) v469 [x347], oA (rList (rInt .i64)) v193 xs194] w470 := H.front 0 rfl
              have H : Heap w0 [oA (rList (rInt .i64)) v193 xs194, oA (rList (rInt .i64)) v469 [x347]] w470 := H.front 1 rfl
              refine lx_appendOwn (r := (rInt .i64)) S trivial (by decide) rfl H rfl rfl Try.underlying29 Try.ti2 rfl rfl rfl (by decide) (by decide) hle (fun v474 w475 H => ⟨trivial, fun a S => ?_⟩)
              refine lx_q v474 S trivial (by decide) (q_assign rfl) (fun a S => ?_)
              refine lx_nil ?_
              refine inBlock_norm ?_
              exact ⟨m339, Nat.lt_succ_self _, (xs194 ++ [x347]), v474, S.sub ⟨rfl, rfl, rfl, trivial⟩, H, it_cont hm hc341⟩

/-- slices.Index[[]int64,int64] -/
def slices_Index__int64_int64_m (fuel : Nat) (a0 : (List Int)) (a1 : Int) : Option (Int) :=
  (iter (fun (s : (Int)) => (match s with | (x39) => (if (decide (x39 < (a0.length : Int))) = true then (idx a0 x39).bind fun x57 => (if (a1 == x57) = true then some (.inr (.inr x39)) else some (.inl ((W (x39 + (1 : Int)))))) else some (.inr (.inl ()))) : Option (((Int)) ⊕ ((Unit) ⊕ (Int))))) fuel ((0 : Int))).bind fun res48 => ctl (β := Unit) (ρ := Int) (τ := Int) res48 (fun _ => some ((-1 : Int))) (fun q => some (q))
set_option maxRecDepth 20000 in
theorem slices_Index__int64_int64_ok {w0 : World} {fuel : Nat} {p0 : Value} {a0 : (List Int)} {a1 : Int} {r : Int} (h0 : Rd (rList (rInt .i64)) w0 p0 a0) (hm : slices_Index__int64_int64_m fuel a0 a1 = some r) :
    Calls Try.prog 66 #[p0, .int .i64 a1] w0 fun e w => e = .returned (.int .i64 r) ∧ Heap w0 [] w := by
  unfold slices_Index__int64_int64_m at hm
  have H := Heap.start w0
  refine enter (args := [p0, .int .i64 a1]) Try.func66 rfl 19 rfl (Nat.le_of_ble_eq_true rfl) (fun a S => ?_)
  refine wp_seq ?_
  refine region_plain ?_
  refine lx_q (.int .i64 (0 : Int)) S trivial (by decide) (q_assign rfl) (fun a S => ?_)
  refine lx_nil ?_
  refine thenN ?_
  refine wp_seq ?_
  refine wp_seq ?_
  refine region_plain ?_
  refine lx_q p0 S trivial (by decide) (q_move rfl) (fun a S => ?_)
  refine lx_q (.int .i64 (a0.length : Int)) S trivial (by decide) (q_lenSl rfl (h0).isSl rfl Try.underlying29) (fun a S => ?_)
  refine lx_q (.int .i64 (0 : Int)) S trivial (by decide) (q_move rfl) (fun a S => ?_)
  refine lx_nil ?_
  refine thenN ?_
  obtain ⟨res48, hit49, hk52⟩ := bind_some hm
  obtain ⟨f50, hf51, hit49⟩ := iter_name hit49
  refine block_loop (fun a w => Slots a 19 [] ∧ Heap w0 [] w ∧ res48 = .inl ()) ?_ ?_
  · rintro a w ⟨S, H, rfl⟩
    have hm := ctl_inl hk52
    refine thenN ?_
    refine wp_seq ?_
    refine region_plain ?_
    refine lx_q (.int .i64 (-1 : Int)) S trivial (by decide) (q_assign rfl) (fun a S => ?_)
    refine lx_nil ?_
    refine thenN ?_
    refine wp_ret ?_
    obtain rfl := Option.some.inj hm
    exact leave1 S rfl rfl ⟨rfl, H⟩
  · skip
    refine loop_ghost (fun n a w => ∃ (x39 : Int), Slots a 19 [(0, p0), (1, (.int .i64 a1)), (7, (.int .i64 (a0.length : Int))), (8, (.int .i64 x39))] ∧ Heap w0 [] w ∧ iter f50 n (x39) = some res48) _ ⟨(0 : Int), S.sub ⟨rfl, rfl, rfl, rfl, trivial⟩, H, hit49⟩ ?_
    rintro n a w ⟨x39, S, H, hit49⟩
    obtain ⟨m53, o54, rfl, hm, hc55⟩ := iter_step hit49
    rw [hf51] at hm
    refine wp_seq ?_
    refine region_plain ?_
    refine lx_q (.bool (decide (x39 < (a0.length : Int)))) S trivial (by decide) (q_lss rfl rfl) (fun a S => ?_)
    refine lx_nil ?_
    refine thenN ?_
    refine wp_seq ?_
    refine cond_b S rfl (fun hc56 => ?_) (fun hc56 => ?_)
    · have hm := ite_t hc56 hm
      refine wp_skip ?_
      refine thenN ?_
      refine wp_seq ?_
      refine wp_block ?_
      refine wp_seq ?_
      refine region_plain ?_
      refine lx_q (.int .i64 x39) S trivial (by decide) (q_move rfl) (fun a S => ?_)
      refine lx_q (.int .i64 x39) S trivial (by decide) (q_assign rfl) (fun a S => ?_)
      refine lx_nil ?_
      refine thenN ?_
      refine wp_seq ?_
      refine region_plain ?_
      refine lx_q (.int .i64 a1) S trivial (by decide) (q_move rfl) (fun a S => ?_)
      refine lx_q p0 S trivial (by decide) (q_move rfl) (fun a S => ?_)
      refine lx_q (.int .i64 x39) S trivial (by decide) (q_move rfl) (fun a S => ?_)
      obtain ⟨x57, e58, hm⟩ := bind_some hm
      obtain ⟨c59, h60, hat61⟩ := (h0).elem (idx_some e58).2
      obtain rfl := h60
      have hlt := lt_of_idx (idx_some e58).2
      refine lx_q (ePtr p0 (x39.toNat * 1)) S trivial (by decide) (q_indexAddr rfl (h0).isSl rfl (idx_some e58).1 hlt Try.underlying29 Try.sizeOf2) (fun a S => ?_)
      refine lx_e (.int .i64 x57) S trivial (by decide) rfl trivial (q_load1 rfl Try.isAgg2 (by rintro _ rfl; exact ((hat61 0 _ rfl).ext H.ext))) (fun a S => ?_)
      refine lx_q (.bool (a1 == x57)) S trivial (by decide) (q_eql rfl rfl) (fun a S => ?_)
      refine lx_nil ?_
      refine thenN ?_
      refine cond_b S rfl (fun hc62 => ?_) (fun hc62 => ?_)
      · have hm := ite_t hc62 hm
        refine wp_seq ?_
        refine region_plain ?_
        refine lx_q (.int .i64 x39) S trivial (by decide) (q_move rfl) (fun a S => ?_)
        refine lx_q (.int .i64 x39) S trivial (by decide) (q_assign rfl) (fun a S => ?_)
        refine lx_nil ?_
        refine thenN ?_
        refine wp_ret ?_
        refine inBlock_ret ?_
        refine then_ret ?_
        refine then_ret ?_
        refine inBlock_ret ?_
        refine then_ret ?_
        refine then_ret ?_
        obtain rfl := it_brk hm hc55
        have hm := ctl_inr hk52
        obtain rfl := Option.some.inj hm
        exact leave1 S rfl rfl ⟨rfl, H⟩
      · have hm := ite_f hc62 hm
        refine wp_skip ?_
        refine inBlock_norm ?_
        refine thenN ?_
        refine region_plain ?_
        refine lx_q (.int .i64 (W (x39 + (1 : Int)))) S trivial (by decide) (q_add rfl rfl) (fun a S => ?_)
        refine lx_q (.int .i64 (W (x39 + (1 : Int)))) S trivial (by decide) (q_move rfl) (fun a S => ?_)
        refine lx_nil ?_
        exact ⟨m53, Nat.lt_succ_self _, (W (x39 + (1 : Int))), S.sub ⟨rfl, rfl, rfl, rfl, trivial⟩, H, it_cont hm hc55⟩
    · have hm := ite_f hc56 hm
      refine wp_exit ?_
      refine then_exit ?_
      refine then_exit ?_
      refine inBlock_exit ?_
      obtain rfl := it_brk hm hc55
      exact ⟨S.sub trivial, H, rfl⟩

/-- slices.Contains[[]int64,int64] -/
def slices_Contains__int64_int64_m (fuel : Nat) (a0 : (List Int)) (a1 : Int) : Option (Bool) :=
  (slices_Index__int64_int64_m fuel a0 a1).bind fun x33 => some ((decide ((0 : Int) ≤ x33)))
set_option maxRecDepth 20000 in
theorem slices_Contains__int64_int64_ok {w0 : World} {fuel : Nat} {p0 : Value} {a0 : (List Int)} {a1 : Int} {r : Bool} (h0 : Rd (rList (rInt .i64)) w0 p0 a0) (hm : slices_Contains__int64_int64_m fuel a0 a1 = some r) :
    Calls Try.prog 65 #[p0, .int .i64 a1] w0 fun e w => e = .returned (.bool r) ∧ Heap w0 [] w := by
  unfold slices_Contains__int64_int64_m at hm
  have H := Heap.start w0
  refine enter (args := [p0, .int .i64 a1]) Try.func65 rfl 9 rfl (Nat.le_of_ble_eq_true rfl) (fun a S => ?_)
  refine wp_seq ?_
  refine region_plain ?_
  refine lx_q (.bool false) S trivial (by decide) (q_assign rfl) (fun a S => ?_)
  refine lx_nil ?_
  refine thenN ?_
  refine wp_seq ?_
  refine region_plain ?_
  refine lx_q p0 S trivial (by decide) (q_move rfl) (fun a S => ?_)
  refine lx_q (.int .i64 a1) S trivial (by decide) (q_move rfl) (fun a S => ?_)
  obtain ⟨x33, e34, hm⟩ := bind_some hm
  refine lx_call (xs := [.tmp 5, .tmp 6]) S trivial (by decide) rfl rfl Try.call66 ((slices_Index__int64_int64_ok (H.arg h0)  e34).mono ?_)
  rintro e w31 ⟨rfl, Hc32⟩
  have he35 := Hc32.ext
  have H := H.call0 Hc32
  refine ⟨_, rfl, trivial, fun a S => ?_⟩
  refine lx_q (.bool (decide ((0 : Int) ≤ x33))) S trivial (by decide) (q_geq rfl rfl) (fun a S => ?_)
  refine lx_q (.bool (decide ((0 : Int) ≤ x33))) S trivial (by decide) (q_assign rfl) (fun a S => ?_)
  refine lx_nil ?_
  refine thenN ?_
  refine wp_ret ?_
  obtain rfl := Option.some.inj hm
  exact leave1 S rfl rfl ⟨rfl, H⟩
end Go.Proofs.Ytlnibadkmdmelaa
