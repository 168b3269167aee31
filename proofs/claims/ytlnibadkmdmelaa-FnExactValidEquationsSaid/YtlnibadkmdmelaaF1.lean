/- The models of some functions and their walks (printed by a program of this repo). -/
import Derived.Test.YtlnibadkmdmelaaF0
namespace Go.Proofs.Ytlnibadkmdmelaa
open Go.RowKit Go.Gx
/-- laws.Equation -/
abbrev T57 := Bool × Bool × (List Int)
abbrev R57 : Rep T57 := (rProd rBool (rProd rBool (rList (rInt .i64))))
/-- impl.Equation -/
abbrev T58 := Bool × Bool × (List Int)
abbrev R58 : Rep T58 := (rProd rBool (rProd rBool (rList (rInt .i64))))

/-- laws.szInt64S -/
def laws_szInt64S_m (fuel : Nat) (a0 : (List Int)) (a1 : Int) : Option (Int) :=
  (if (decide ((W (a1 - (a0.length : Int))) < (0 : Int))) = true then some ((-1 : Int)) else some ((W (a1 - (a0.length : Int)))))
set_option maxRecDepth 20000 in
theorem laws_szInt64S_ok {w0 : World} {fuel : Nat} {p0 : Value} {a0 : (List Int)} {a1 : Int} {r : Int} (h0 : Rd (rList (rInt .i64)) w0 p0 a0) (hm : laws_szInt64S_m fuel a0 a1 = some r) :
    Calls Try.prog 67 #[p0, .int .i64 a1] w0 fun e w => e = .returned (.int .i64 r) ∧ Heap w0 [] w := by
  unfold laws_szInt64S_m at hm
  have H := Heap.start w0
  refine enter (args := [p0, .int .i64 a1]) Try.func67 rfl 12 rfl (Nat.le_of_ble_eq_true rfl) (fun a S => ?_)
  refine wp_seq ?_
  refine region_plain ?_
  refine lx_q (.int .i64 (0 : Int)) S trivial (by decide) (q_assign rfl) (fun a S => ?_)
  refine lx_nil ?_
  refine thenN ?_
  refine wp_seq ?_
  refine region_plain ?_
  refine lx_q (.int .i64 a1) S trivial (by decide) (q_move rfl) (fun a S => ?_)
  refine lx_q p0 S trivial (by decide) (q_move rfl) (fun a S => ?_)
  refine lx_q (.int .i64 (a0.length : Int)) S trivial (by decide) (q_lenSl rfl (h0).isSl rfl Try.underlying29) (fun a S => ?_)
  refine lx_q (.int .i64 (W (a1 - (a0.length : Int)))) S trivial (by decide) (q_sub rfl rfl) (fun a S => ?_)
  refine lx_q (.int .i64 (W (a1 - (a0.length : Int)))) S trivial (by decide) (q_assign rfl) (fun a S => ?_)
  refine lx_nil ?_
  refine thenN ?_
  refine wp_seq ?_
  refine wp_seq ?_
  refine region_plain ?_
  refine lx_q (.int .i64 (W (a1 - (a0.length : Int)))) S trivial (by decide) (q_move rfl) (fun a S => ?_)
  refine lx_q (.bool (decide ((W (a1 - (a0.length : Int))) < (0 : Int)))) S trivial (by decide) (q_lss rfl rfl) (fun a S => ?_)
  refine lx_nil ?_
  refine thenN ?_
  refine cond_b S rfl (fun hc1 => ?_) (fun hc1 => ?_)
  · have hm := ite_t hc1 hm
    refine wp_seq ?_
    refine region_plain ?_
    refine lx_q (.int .i64 (-1 : Int)) S trivial (by decide) (q_assign rfl) (fun a S => ?_)
    refine lx_nil ?_
    refine thenN ?_
    refine wp_ret ?_
    refine then_ret ?_
    obtain rfl := Option.some.inj hm
    exact leave1 S rfl rfl ⟨rfl, H⟩
  · have hm := ite_f hc1 hm
    refine wp_skip ?_
    refine thenN ?_
    refine wp_seq ?_
    refine region_plain ?_
    refine lx_q (.int .i64 (W (a1 - (a0.length : Int)))) S trivial (by decide) (q_move rfl) (fun a S => ?_)
    refine lx_q (.int .i64 (W (a1 - (a0.length : Int)))) S trivial (by decide) (q_assign rfl) (fun a S => ?_)
    refine lx_nil ?_
    refine thenN ?_
    refine wp_ret ?_
    obtain rfl := Option.some.inj hm
    exact leave1 S rfl rfl ⟨rfl, H⟩

/-- laws.szEquation -/
def laws_szEquation_m (fuel : Nat) (a0 : T57) (a1 : Int) : Option (Int) :=
  (laws_szInt64S_m fuel a0.2.2 a1).bind fun x18 => (if (decide (x18 < (0 : Int))) = true then some ((-1 : Int)) else some (x18))
set_option maxRecDepth 20000 in
theorem laws_szEquation_ok {w0 : World} {fuel : Nat} {p0 : Value} {a0 : T57} {a1 : Int} {r : Int} (h0 : Rd R57 w0 p0 a0) (hm : laws_szEquation_m fuel a0 a1 = some r) :
    Calls Try.prog 37 #[p0, .int .i64 a1] w0 fun e w => e = .returned (.int .i64 r) ∧ Heap w0 [] w := by
  unfold laws_szEquation_m at hm
  have H := Heap.start w0
  obtain ⟨c1, rfl, h2⟩ := h0
  obtain ⟨c5, c6, rfl, h7, h8⟩ := h2
  obtain rfl := h7
  obtain ⟨c9, c10, rfl, h11, h12⟩ := h8
  obtain rfl := h11
  obtain ⟨v3, rfl, h4⟩ := rd_list h12
  refine enter (args := [(.agg #[(.bool a0.1), (.bool a0.2.1), v3]), .int .i64 a1]) Try.func37 rfl 12 rfl (Nat.le_of_ble_eq_true rfl) (fun a S => ?_)
  refine wp_seq ?_
  refine region_plain ?_
  refine lx_box S trivial (by decide) rfl H rfl rfl (fun b13 w14 H => ⟨trivial, fun a S => ?_⟩)
  refine lx_q (.int .i64 (0 : Int)) S trivial (by decide) (q_assign rfl) (fun a S => ?_)
  refine lx_nil ?_
  refine thenN ?_
  refine wp_seq ?_
  refine region_plain ?_
  refine lx_q (pAdd (bp b13) 2) S trivial (by decide) (q_fieldAddr' 2 29 rfl (isP_bp _) Try.underlying57 rfl Try.sizeOf29) (fun a S => ?_)
  refine lx_e v3 S trivial (by decide) rfl trivial (q_load1 rfl Try.isAgg29 (by rintro _ rfl; exact (At.of_add (m := 2) (j := 0) (boxAt (i := 0) H rfl (j := 2) rfl)))) (fun a S => ?_)
  refine lx_q (.int .i64 a1) S trivial (by decide) (q_move rfl) (fun a S => ?_)
  obtain ⟨x18, e19, hm⟩ := bind_some hm
  refine lx_call (xs := [.tmp 6, .tmp 7]) S trivial (by decide) rfl rfl Try.call67 ((laws_szInt64S_ok (H.arg h4)  e19).mono ?_)
  rintro e w16 ⟨rfl, Hc17⟩
  have he20 := Hc17.ext
  have H := H.call0 Hc17
  refine ⟨_, rfl, trivial, fun a S => ?_⟩
  refine lx_q (.int .i64 x18) S trivial (by decide) (q_assign rfl) (fun a S => ?_)
  refine lx_nil ?_
  refine thenN ?_
  refine wp_seq ?_
  refine wp_seq ?_
  refine region_plain ?_
  refine lx_q (.int .i64 x18) S trivial (by decide) (q_move rfl) (fun a S => ?_)
  refine lx_q (.bool (decide (x18 < (0 : Int)))) S trivial (by decide) (q_lss rfl rfl) (fun a S => ?_)
  refine lx_nil ?_
  refine thenN ?_
  refine cond_b S rfl (fun hc21 => ?_) (fun hc21 => ?_)
  · have hm := ite_t hc21 hm
    refine wp_seq ?_
    refine region_plain ?_
    refine lx_q (.int .i64 (-1 : Int)) S trivial (by decide) (q_assign rfl) (fun a S => ?_)
    refine lx_nil ?_
    refine thenN ?_
    refine wp_ret ?_
    refine then_ret ?_
    obtain rfl := Option.some.inj hm
    have H : Heap w0 [] w16 := H.sel [] (by decide)
    exact leave1 S rfl rfl ⟨rfl, H⟩
  · have hm := ite_f hc21 hm
    refine wp_skip ?_
    refine thenN ?_
    refine wp_seq ?_
    refine region_plain ?_
    refine lx_q (.int .i64 x18) S trivial (by decide) (q_move rfl) (fun a S => ?_)
    refine lx_q (.int .i64 x18) S trivial (by decide) (q_assign rfl) (fun a S => ?_)
    refine lx_nil ?_
    refine thenN ?_
    refine wp_ret ?_
    obtain rfl := Option.some.inj hm
    have H : Heap w0 [] w16 := H.sel [] (by decide)
    exact leave1 S rfl rfl ⟨rfl, H⟩

/-- laws.szEquationS -/
def laws_szEquationS_m (fuel : Nat) (a0 : (List T57)) (a1 : Int) : Option (Int) :=
  (if (decide ((W (a1 - (a0.length : Int))) < (0 : Int))) = true then some ((-1 : Int)) else (iter (fun (s : (Int) × (Int)) => (match s with | (x26, x27) => (if (decide (x27 < (a0.length : Int))) = true then (idx a0 x27).bind fun x62 => (laws_szEquation_m fuel (x62.1, x62.2.1, x62.2.2) x26).bind fun x79 => (if (decide (x79 < (0 : Int))) = true then some (.inr (.inr (-1 : Int))) else some (.inl (x79, (W (x27 + (1 : Int)))))) else some (.inr (.inl (x26)))) : Option (((Int) × (Int)) ⊕ ((Int) ⊕ (Int))))) fuel ((W (a1 - (a0.length : Int))), (0 : Int))).bind fun res53 => ctl (β := Int) (ρ := Int) (τ := Int) res53 (fun (x52) => some (x52)) (fun q => some (q)))
set_option maxRecDepth 20000 in
theorem laws_szEquationS_ok {w0 : World} {fuel : Nat} {p0 : Value} {a0 : (List T57)} {a1 : Int} {r : Int} (h0 : Rd (rList R57) w0 p0 a0) (hm : laws_szEquationS_m fuel a0 a1 = some r) :
    Calls Try.prog 9 #[p0, .int .i64 a1] w0 fun e w => e = .returned (.int .i64 r) ∧ Heap w0 [] w := by
  unfold laws_szEquationS_m at hm
  have H := Heap.start w0
  refine enter (args := [p0, .int .i64 a1]) Try.func9 rfl 27 rfl (Nat.le_of_ble_eq_true rfl) (fun a S => ?_)
  refine wp_seq ?_
  refine region_plain ?_
  refine lx_q (.int .i64 (0 : Int)) S trivial (by decide) (q_assign rfl) (fun a S => ?_)
  refine lx_nil ?_
  refine thenN ?_
  refine wp_seq ?_
  refine region_plain ?_
  refine lx_q (.int .i64 a1) S trivial (by decide) (q_move rfl) (fun a S => ?_)
  refine lx_q p0 S trivial (by decide) (q_move rfl) (fun a S => ?_)
  refine lx_q (.int .i64 (a0.length : Int)) S trivial (by decide) (q_lenSl rfl (h0).isSl rfl Try.underlying22) (fun a S => ?_)
  refine lx_q (.int .i64 (W (a1 - (a0.length : Int)))) S trivial (by decide) (q_sub rfl rfl) (fun a S => ?_)
  refine lx_q (.int .i64 (W (a1 - (a0.length : Int)))) S trivial (by decide) (q_assign rfl) (fun a S => ?_)
  refine lx_nil ?_
  refine thenN ?_
  refine wp_seq ?_
  refine wp_seq ?_
  refine region_plain ?_
  refine lx_q (.int .i64 (W (a1 - (a0.length : Int)))) S trivial (by decide) (q_move rfl) (fun a S => ?_)
  refine lx_q (.bool (decide ((W (a1 - (a0.length : Int))) < (0 : Int)))) S trivial (by decide) (q_lss rfl rfl) (fun a S => ?_)
  refine lx_nil ?_
  refine thenN ?_
  refine cond_b S rfl (fun hc1 => ?_) (fun hc1 => ?_)
  · have hm := ite_t hc1 hm
    refine wp_seq ?_
    refine region_plain ?_
    refine lx_q (.int .i64 (-1 : Int)) S trivial (by decide) (q_assign rfl) (fun a S => ?_)
    refine lx_nil ?_
    refine thenN ?_
    refine wp_ret ?_
    refine then_ret ?_
    obtain rfl := Option.some.inj hm
    exact leave1 S rfl rfl ⟨rfl, H⟩
  · have hm := ite_f hc1 hm
    refine wp_skip ?_
    refine thenN ?_
    refine wp_seq ?_
    refine wp_seq ?_
    refine region_plain ?_
    refine lx_q (.int .i64 (0 : Int)) S trivial (by decide) (q_assign rfl) (fun a S => ?_)
    refine lx_nil ?_
    refine thenN ?_
    obtain ⟨res53, hit54, hk57⟩ := bind_some hm
    obtain ⟨f55, hf56, hit54⟩ := iter_name hit54
    refine block_loop (fun a w => ∃ (x52 : Int), Slots a 27 [(1, (.int .i64 x52))] ∧ Heap w0 [] w ∧ res53 = .inl (x52)) ?_ ?_
    · rintro a w ⟨x52, S, H, rfl⟩
      have hm := ctl_inl hk57
      refine thenN ?_
      refine wp_seq ?_
      refine region_plain ?_
      refine lx_q (.int .i64 x52) S trivial (by decide) (q_move rfl) (fun a S => ?_)
      refine lx_q (.int .i64 x52) S trivial (by decide) (q_assign rfl) (fun a S => ?_)
      refine lx_nil ?_
      refine thenN ?_
      refine wp_ret ?_
      obtain rfl := Option.some.inj hm
      exact leave1 S rfl rfl ⟨rfl, H⟩
    · skip
      refine loop_ghost (fun n a w => ∃ (x26 : Int) (x27 : Int), Slots a 27 [(0, p0), (1, (.int .i64 x26)), (5, (.int .i64 x27))] ∧ Heap w0 [] w ∧ iter f55 n (x26, x27) = some res53) _ ⟨(W (a1 - (a0.length : Int))), (0 : Int), S.sub ⟨rfl, rfl, rfl, trivial⟩, H, hit54⟩ ?_
      rintro n a w ⟨x26, x27, S, H, hit54⟩
      obtain ⟨m58, o59, rfl, hm, hc60⟩ := iter_step hit54
      rw [hf56] at hm
      refine wp_seq ?_
      refine wp_seq ?_
      refine region_plain ?_
      refine lx_q (.int .i64 x27) S trivial (by decide) (q_move rfl) (fun a S => ?_)
      refine lx_q p0 S trivial (by decide) (q_move rfl) (fun a S => ?_)
      refine lx_q (.int .i64 (a0.length : Int)) S trivial (by decide) (q_lenSl rfl (h0).isSl rfl Try.underlying22) (fun a S => ?_)
      refine lx_q (.bool (decide (x27 < (a0.length : Int)))) S trivial (by decide) (q_lss rfl rfl) (fun a S => ?_)
      refine lx_nil ?_
      refine thenN ?_
      refine cond_b S rfl (fun hc61 => ?_) (fun hc61 => ?_)
      · have hm := ite_t hc61 hm
        refine wp_skip ?_
        refine thenN ?_
        refine wp_seq ?_
        refine wp_block ?_
        refine wp_seq ?_
        refine region_plain ?_
        refine lx_q p0 S trivial (by decide) (q_move rfl) (fun a S => ?_)
        refine lx_q (.int .i64 x27) S trivial (by decide) (q_move rfl) (fun a S => ?_)
        obtain ⟨x62, e63, hm⟩ := bind_some hm
        obtain ⟨c64, h65, hat66⟩ := (h0).elem (idx_some e63).2
        obtain ⟨c69, c70, rfl, h71, h72⟩ := h65
        obtain rfl := h71
        obtain ⟨c73, c74, rfl, h75, h76⟩ := h72
        obtain rfl := h75
        obtain ⟨v67, rfl, h68⟩ := rd_list h76
        have hlt := lt_of_idx (idx_some e63).2
        refine lx_q (ePtr p0 (x27.toNat * 3)) S trivial (by decide) (q_indexAddr rfl (h0).isSl rfl (idx_some e63).1 hlt Try.underlying22 Try.sizeOf57) (fun a S => ?_)
        refine lx_e (.agg #[(.bool x62.1), (.bool x62.2.1), v67]) S trivial (by decide) rfl trivial (q_loadA (cs := [(.bool x62.1), (.bool x62.2.1), v67]) rfl ((hat66 0 _ rfl).isP) Try.isAgg57 Try.sizeOf57 (by rintro _ rfl; exact (fun j u hu => (hat66 j u hu).ext H.ext))) (fun a S => ?_)
        refine lx_q (.int .i64 x26) S trivial (by decide) (q_move rfl) (fun a S => ?_)
        obtain ⟨x79, e80, hm⟩ := bind_some hm
        refine lx_call (xs := [.tmp 21, .tmp 22]) S trivial (by decide) rfl rfl Try.call37 ((laws_szEquation_ok ⟨[(.bool x62.1), (.bool x62.2.1), v67], rfl, ⟨[(.bool x62.1)], [(.bool x62.2.1), v67], rfl, rfl, ⟨[(.bool x62.2.1)], [v67], rfl, rfl, ((H.arg h68)).list_rd⟩⟩⟩  e80).mono ?_)
        rintro e w77 ⟨rfl, Hc78⟩
        have he81 := Hc78.ext
        have H := H.call0 Hc78
        refine ⟨_, rfl, trivial, fun a S => ?_⟩
        refine lx_q (.int .i64 x79) S trivial (by decide) (q_assign rfl) (fun a S => ?_)
        refine lx_nil ?_
        refine thenN ?_
        refine wp_seq ?_
        refine region_plain ?_
        refine lx_q (.int .i64 x79) S trivial (by decide) (q_move rfl) (fun a S => ?_)
        refine lx_q (.bool (decide (x79 < (0 : Int)))) S trivial (by decide) (q_lss rfl rfl) (fun a S => ?_)
        refine lx_nil ?_
        refine thenN ?_
        refine cond_b S rfl (fun hc82 => ?_) (fun hc82 => ?_)
        · have hm := ite_t hc82 hm
          refine wp_seq ?_
          refine region_plain ?_
          refine lx_q (.int .i64 (-1 : Int)) S trivial (by decide) (q_assign rfl) (fun a S => ?_)
          refine lx_nil ?_
          refine thenN ?_
          refine wp_ret ?_
          refine inBlock_ret ?_
          refine then_ret ?_
          refine then_ret ?_
          refine inBlock_ret ?_
          refine then_ret ?_
          refine then_ret ?_
          obtain rfl := it_brk hm hc60
          have hm := ctl_inr hk57
          obtain rfl := Option.some.inj hm
          exact leave1 S rfl rfl ⟨rfl, H⟩
        · have hm := ite_f hc82 hm
          refine wp_skip ?_
          refine inBlock_norm ?_
          refine thenN ?_
          refine region_plain ?_
          refine lx_q (.int .i64 x27) S trivial (by decide) (q_move rfl) (fun a S => ?_)
          refine lx_q (.int .i64 (W (x27 + (1 : Int)))) S trivial (by decide) (q_add rfl rfl) (fun a S => ?_)
          refine lx_q (.int .i64 (W (x27 + (1 : Int)))) S trivial (by decide) (q_assign rfl) (fun a S => ?_)
          refine lx_nil ?_
          exact ⟨m58, Nat.lt_succ_self _, x79, (W (x27 + (1 : Int))), S.sub ⟨rfl, rfl, rfl, trivial⟩, H, it_cont hm hc60⟩
      · have hm := ite_f hc61 hm
        refine wp_exit ?_
        refine then_exit ?_
        refine then_exit ?_
        refine inBlock_exit ?_
        obtain rfl := it_brk hm hc60
        exact ⟨x26, S.sub ⟨rfl, trivial⟩, H, rfl⟩

/-- laws.toInt64S -/
def laws_toInt64S_m (fuel : Nat) (a0 : (List Int)) : Option ((List Int)) :=
  (mks (a0.length : Int) (0 : Int)).bind fun x1 => (iter (fun (s : (List Int) × (Int)) => (match s with | (xs18, x19) => (if (decide (x19 < (a0.length : Int))) = true then (idx a0 x19).bind fun x41 => (idx xs18 x19).bind fun x46 => some (.inl ((xs18.set x19.toNat x41), (W (x19 + (1 : Int))))) else some (.inr (.inl (xs18)))) : Option (((List Int) × (Int)) ⊕ (((List Int)) ⊕ ((List Int)))))) fuel (x1, (0 : Int))).bind fun res32 => ctl (β := (List Int)) (ρ := (List Int)) (τ := (List Int)) res32 (fun (xs31) => some (xs31)) (fun q => some (q))
set_option maxRecDepth 20000 in
theorem laws_toInt64S_ok {w0 : World} {fuel : Nat} {p0 : Value} {a0 : (List Int)} {r : (List Int)} (h0 : Rd (rList (rInt .i64)) w0 p0 a0) (hm : laws_toInt64S_m fuel a0 = some r) :
    Calls Try.prog 35 #[p0] w0 fun e w => ∃ (v0 : Value), e = .returned (v0) ∧ Heap w0 [oA (rList (rInt .i64)) v0 r] w := by
  unfold laws_toInt64S_m at hm
  have H := Heap.start w0
  refine enter (args := [p0]) Try.func35 rfl 22 rfl (Nat.le_of_ble_eq_true rfl) (fun a S => ?_)
  refine wp_seq ?_
  refine region_plain ?_
  refine lx_q (.slice none 0 0) S trivial (by decide) (q_assign rfl) (fun a S => ?_)
  refine lx_nil ?_
  refine thenN ?_
  refine wp_seq ?_
  refine region_plain ?_
  refine lx_q p0 S trivial (by decide) (q_move rfl) (fun a S => ?_)
  refine lx_q (.int .i64 (a0.length : Int)) S trivial (by decide) (q_lenSl rfl (h0).isSl rfl Try.underlying29) (fun a S => ?_)
  obtain ⟨x1, e2, hm⟩ := bind_some hm
  obtain ⟨m3, hn, hn2, rfl⟩ := mks_some e2
  refine lx_make (r := (rInt .i64)) (z0 := (0 : Int)) (n := m3) S trivial (by decide) rfl H (by rw [← hn]; rfl) (by rw [← hn]; rfl) Try.underlying29 (Try.ti2) rfl rfl (by decide) (fun w => ⟨rfl, rfl⟩) hn2 (by decide) (fun v4 w5 H => ⟨trivial, fun a S => ?_⟩)
  refine lx_q v4 S trivial (by decide) (q_assign rfl) (fun a S => ?_)
  refine lx_nil ?_
  refine thenN ?_
  refine wp_seq ?_
  refine wp_seq ?_
  refine region_plain ?_
  refine lx_q (.int .i64 (0 : Int)) S trivial (by decide) (q_assign rfl) (fun a S => ?_)
  refine lx_nil ?_
  refine thenN ?_
  obtain ⟨res32, hit33, hk36⟩ := bind_some hm
  obtain ⟨f34, hf35, hit33⟩ := iter_name hit33
  refine block_loop (fun a w => ∃ (xs31 : List Int), Slots a 22 [(3, v4)] ∧ Heap w0 [oA (rList (rInt .i64)) v4 xs31] w ∧ res32 = .inl (xs31)) ?_ ?_
  · rintro a w ⟨xs31, S, H, rfl⟩
    have hm := ctl_inl hk36
    refine thenN ?_
    refine wp_seq ?_
    refine region_plain ?_
    refine lx_q v4 S trivial (by decide) (q_move rfl) (fun a S => ?_)
    refine lx_q v4 S trivial (by decide) (q_assign rfl) (fun a S => ?_)
    refine lx_nil ?_
    refine thenN ?_
    refine wp_ret ?_
    obtain rfl := Option.some.inj hm
    exact leave1 S rfl rfl ⟨v4, rfl, H⟩
  · skip
    refine loop_ghost (fun n a w => ∃ (xs18 : List Int) (x19 : Int), Slots a 22 [(0, p0), (3, v4), (4, (.int .i64 x19))] ∧ Heap w0 [oA (rList (rInt .i64)) v4 xs18] w ∧ iter f34 n (xs18, x19) = some res32) _ ⟨(List.replicate m3 (0 : Int)), (0 : Int), S.sub ⟨rfl, rfl, rfl, trivial⟩, H, hit33⟩ ?_
    rintro n a w ⟨xs18, x19, S, H, hit33⟩
    obtain ⟨m37, o38, rfl, hm, hc39⟩ := iter_step hit33
    rw [hf35] at hm
    refine wp_seq ?_
    refine wp_seq ?_
    refine region_plain ?_
    refine lx_q (.int .i64 x19) S trivial (by decide) (q_move rfl) (fun a S => ?_)
    refine lx_q p0 S trivial (by decide) (q_move rfl) (fun a S => ?_)
    refine lx_q (.int .i64 (a0.length : Int)) S trivial (by decide) (q_lenSl rfl (h0).isSl rfl Try.underlying29) (fun a S => ?_)
    refine lx_q (.bool (decide (x19 < (a0.length : Int)))) S trivial (by decide) (q_lss rfl rfl) (fun a S => ?_)
    refine lx_nil ?_
    refine thenN ?_
    refine cond_b S rfl (fun hc40 => ?_) (fun hc40 => ?_)
    · have hm := ite_t hc40 hm
      refine wp_skip ?_
      refine thenN ?_
      refine wp_seq ?_
      refine wp_block ?_
      refine region_plain ?_
      refine lx_q v4 S trivial (by decide) (q_move rfl) (fun a S => ?_)
      refine lx_q (.int .i64 x19) S trivial (by decide) (q_move rfl) (fun a S => ?_)
      refine lx_q p0 S trivial (by decide) (q_move rfl) (fun a S => ?_)
      refine lx_q (.int .i64 x19) S trivial (by decide) (q_move rfl) (fun a S => ?_)
      obtain ⟨x41, e42, hm⟩ := bind_some hm
      obtain ⟨c43, h44, hat45⟩ := (h0).elem (idx_some e42).2
      obtain rfl := h44
      have hlt := lt_of_idx (idx_some e42).2
      refine lx_q (ePtr p0 (x19.toNat * 1)) S trivial (by decide) (q_indexAddr rfl (h0).isSl rfl (idx_some e42).1 hlt Try.underlying29 Try.sizeOf2) (fun a S => ?_)
      refine lx_e (.int .i64 x41) S trivial (by decide) rfl trivial (q_load1 rfl Try.isAgg2 (by rintro _ rfl; exact ((hat45 0 _ rfl).ext H.ext))) (fun a S => ?_)
      obtain ⟨x46, e47, hm⟩ := bind_some hm
      have hlt := lt_of_idx (idx_some e47).2
      refine lx_q (ePtr v4 (x19.toNat * 1)) S trivial (by decide) (q_indexAddr rfl (H.isSl 0 rfl) rfl (idx_some e47).1 hlt Try.underlying29 Try.sizeOf2) (fun a S => ?_)
      refine lx_storeElem (r := (rInt .i64)) (us := [(.int .i64 x41)]) (off := 0) (e' := x41) S trivial rfl H.putE (by rw [pAdd_zero]; rfl) rfl (idx_some e47).2 rfl Try.sizeOf2 (Nat.le_of_ble_eq_true rfl) (List.forall_mem_cons.2 ⟨rfl, (fun _ h => nomatch h)⟩) (Upd.full rfl (fun w G hG => by cases (show G = [] from hG); exact ⟨rfl, rfl⟩)) (fun w48 H => ⟨trivial, fun a S => ?_⟩)
      refine lx_nil ?_
      refine inBlock_norm ?_
      refine thenN ?_
      refine region_plain ?_
      refine lx_q (.int .i64 x19) S trivial (by decide) (q_move rfl) (fun a S => ?_)
      refine lx_q (.int .i64 (W (x19 + (1 : Int)))) S trivial (by decide) (q_add rfl rfl) (fun a S => ?_)
      refine lx_q (.int .i64 (W (x19 + (1 : Int)))) S trivial (by decide) (q_assign rfl) (fun a S => ?_)
      refine lx_nil ?_
      exact ⟨m37, Nat.lt_succ_self _, (xs18.set x19.toNat x41), (W (x19 + (1 : Int))), S.sub ⟨rfl, rfl, rfl, trivial⟩, H, it_cont hm hc39⟩
    · have hm := ite_f hc40 hm
      refine wp_exit ?_
      refine then_exit ?_
      refine then_exit ?_
      refine inBlock_exit ?_
      obtain rfl := it_brk hm hc39
      exact ⟨xs18, S.sub ⟨rfl, trivial⟩, H, rfl⟩

/-- laws.toEquation -/
def laws_toEquation_m (fuel : Nat) (a0 : T57) : Option (T58) :=
  (laws_toInt64S_m fuel a0.2.2).bind fun x26 => some ((a0.1, a0.2.1, x26))
set_option maxRecDepth 20000 in
theorem laws_toEquation_ok {w0 : World} {fuel : Nat} {p0 : Value} {a0 : T57} {r : T58} (h0 : Rd R57 w0 p0 a0) (hm : laws_toEquation_m fuel a0 = some r) :
    Calls Try.prog 39 #[p0] w0 fun e w => ∃ (v0 : Value), e = .returned (.agg #[.bool r.1, .bool r.2.1, v0]) ∧ Heap w0 [oA (rList (rInt .i64)) v0 r.2.2] w := by
  unfold laws_toEquation_m at hm
  have H := Heap.start w0
  obtain ⟨c1, rfl, h2⟩ := h0
  obtain ⟨c5, c6, rfl, h7, h8⟩ := h2
  obtain rfl := h7
  obtain ⟨c9, c10, rfl, h11, h12⟩ := h8
  obtain rfl := h11
  obtain ⟨v3, rfl, h4⟩ := rd_list h12
  refine enter (args := [(.agg #[(.bool a0.1), (.bool a0.2.1), v3])]) Try.func39 rfl 15 rfl (Nat.le_of_ble_eq_true rfl) (fun a S => ?_)
  refine wp_seq ?_
  refine region_plain ?_
  refine lx_box S trivial (by decide) rfl H rfl rfl (fun b13 w14 H => ⟨trivial, fun a S => ?_⟩)
  refine lx_alloc S trivial (by decide) rfl H Try.zeroValue58 rfl (fun b16 w17 H => ⟨trivial, fun a S => ?_⟩)
  refine lx_nil ?_
  refine thenN ?_
  refine wp_seq ?_
  refine region_plain ?_
  refine lx_alloc S trivial (by decide) rfl H Try.zeroValue58 rfl (fun b19 w20 H => ⟨trivial, fun a S => ?_⟩)
  refine lx_nil ?_
  refine thenN ?_
  refine wp_seq ?_
  refine region_plain ?_
  refine lx_q (pAdd (bp b13) 0) S trivial (by decide) (q_fieldAddr' 0 4 rfl (isP_bp _) Try.underlying57 rfl Try.sizeOf4) (fun a S => ?_)
  refine lx_e (.bool a0.1) S trivial (by decide) rfl trivial (q_load1 rfl Try.isAgg4 (by rintro _ rfl; exact (At.of_add (m := 0) (j := 0) (boxAt (i := 2) H rfl (j := 0) rfl)))) (fun a S => ?_)
  refine lx_q (pAdd (bp b19) 0) S trivial (by decide) (q_fieldAddr' 0 4 rfl (isP_bp _) Try.underlying58 rfl Try.sizeOf4) (fun a S => ?_)
  refine lx_storeBox (o := 0) (i := 0) (us := [(.bool a0.1)]) (cs' := [(.bool a0.1), (.bool false), (.slice none 0 0)]) S trivial rfl H rfl rfl rfl rfl Try.sizeOf4 (Nat.le_of_ble_eq_true rfl) (List.forall_mem_cons.2 ⟨rfl, (fun _ h => nomatch h)⟩) rfl (fun w22 H => ⟨trivial, fun a S => ?_⟩)
  change Heap w0 [bA b19 [(.bool a0.1), (.bool false), (.slice none 0 0)] 58, bA b16 [(.bool false), (.bool false), (.slice none 0 0)] 58, bA b13 [(.bool a0.1), (.bool a0.2.1), v3] 57] w22 at H
  refine lx_nil ?_
  refine thenN ?_
  refine wp_seq ?_
  refine region_plain ?_
  refine lx_q (pAdd (bp b13) 1) S trivial (by decide) (q_fieldAddr' 1 4 rfl (isP_bp _) Try.underlying57 rfl Try.sizeOf4) (fun a S => ?_)
  refine lx_e (.bool a0.2.1) S trivial (by decide) rfl trivial (q_load1 rfl Try.isAgg4 (by rintro _ rfl; exact (At.of_add (m := 1) (j := 0) (boxAt (i := 2) H rfl (j := 1) rfl)))) (fun a S => ?_)
  refine lx_q (pAdd (bp b19) 1) S trivial (by decide) (q_fieldAddr' 1 4 rfl (isP_bp _) Try.underlying58 rfl Try.sizeOf4) (fun a S => ?_)
  refine lx_storeBox (o := 1) (i := 0) (us := [(.bool a0.2.1)]) (cs' := [(.bool a0.1), (.bool a0.2.1), (.slice none 0 0)]) S trivial rfl H rfl rfl rfl rfl Try.sizeOf4 (Nat.le_of_ble_eq_true rfl) (List.forall_mem_cons.2 ⟨rfl, (fun _ h => nomatch h)⟩) rfl (fun w23 H => ⟨trivial, fun a S => ?_⟩)
  change Heap w0 [bA b19 [(.bool a0.1), (.bool a0.2.1), (.slice none 0 0)] 58, bA b16 [(.bool false), (.bool false), (.slice none 0 0)] 58, bA b13 [(.bool a0.1), (.bool a0.2.1), v3] 57] w23 at H
  refine lx_nil ?_
  refine thenN ?_
  refine wp_seq ?_
  refine region_plain ?_
  refine lx_q (pAdd (bp b13) 2) S trivial (by decide) (q_fieldAddr' 2 29 rfl (isP_bp _) Try.underlying57 rfl Try.sizeOf29) (fun a S => ?_)
  refine lx_e v3 S trivial (by decide) rfl trivial (q_load1 rfl Try.isAgg29 (by rintro _ rfl; exact (At.of_add (m := 2) (j := 0) (boxAt (i := 2) H rfl (j := 2) rfl)))) (fun a S => ?_)
  obtain ⟨x26, e27, hm⟩ := bind_some hm
  refine lx_call (xs := [.tmp 11]) S trivial (by decide) rfl rfl Try.call35 ((laws_toInt64S_ok (H.arg h4) e27).mono ?_)
  rintro e w24 ⟨v28, rfl, Hc25⟩
  have he30 := Hc25.ext
  have H := H.call1 Hc25
  refine ⟨_, rfl, trivial, fun a S => ?_⟩
  refine lx_q (pAdd (bp b19) 2) S trivial (by decide) (q_fieldAddr' 2 29 rfl (isP_bp _) Try.underlying58 rfl Try.sizeOf29) (fun a S => ?_)
  refine lx_storeBox (o := 2) (i := 1) (us := [v28]) (cs' := [(.bool a0.1), (.bool a0.2.1), v28]) S trivial rfl H rfl rfl rfl (cells_sl (H.isSl 0 rfl)) Try.sizeOf29 (Nat.le_of_ble_eq_true rfl) (List.forall_mem_cons.2 ⟨one_sl (H.isSl 0 rfl), (fun _ h => nomatch h)⟩) rfl (fun w31 H => ⟨trivial, fun a S => ?_⟩)
  change Heap w0 [oA (rList (rInt .i64)) v28 x26, bA b19 [(.bool a0.1), (.bool a0.2.1), v28] 58, bA b16 [(.bool false), (.bool false), (.slice none 0 0)] 58, bA b13 [(.bool a0.1), (.bool a0.2.1), v3] 57] w31 at H
  refine lx_nil ?_
  refine thenN ?_
  refine wp_seq ?_
  refine region_plain ?_
  refine lx_e (.agg #[(.bool a0.1), (.bool a0.2.1), v28]) S trivial (by decide) rfl trivial (q_loadA (cs := [(.bool a0.1), (.bool a0.2.1), v28]) rfl (isP_bp _) Try.isAgg58 Try.sizeOf58 (by rintro _ rfl; exact (fun j u hu => boxAt (i := 1) H rfl hu))) (fun a S => ?_)
  refine lx_storeBox (o := 0) (i := 2) (us := [(.bool a0.1), (.bool a0.2.1), v28]) (cs' := [(.bool a0.1), (.bool a0.2.1), v28]) S trivial rfl H rfl rfl rfl rfl Try.sizeOf58 (Nat.le_of_ble_eq_true rfl) (List.forall_mem_cons.2 ⟨rfl, (List.forall_mem_cons.2 ⟨rfl, (List.forall_mem_cons.2 ⟨one_sl (H.isSl 0 rfl), (fun _ h => nomatch h)⟩)⟩)⟩) rfl (fun w32 H => ⟨trivial, fun a S => ?_⟩)
  change Heap w0 [oA (rList (rInt .i64)) v28 x26, bA b19 [(.bool a0.1), (.bool a0.2.1), v28] 58, bA b16 [(.bool a0.1), (.bool a0.2.1), v28] 58, bA b13 [(.bool a0.1), (.bool a0.2.1), v3] 57] w32 at H
  refine lx_nil ?_
  refine thenN ?_
  refine wp_ret ?_
  have hrv0 := RV.cellA (t := 58) (q := 2) (env := [(0, (.agg #[(.bool a0.1), (.bool a0.2.1), v3])), (1, (bp b13)), (2, (bp b16)), (3, (bp b19)), (4, (pAdd (bp b13) 0)), (5, (.bool a0.1)), (6, (pAdd (bp b19) 0)), (7, (pAdd (bp b13) 1)), (8, (.bool a0.2.1)), (9, (pAdd (bp b19) 1)), (10, (pAdd (bp b13) 2)), (11, v3), (12, v28), (13, (pAdd (bp b19) 2)), (14, (.agg #[(.bool a0.1), (.bool a0.2.1), v28]))]) H (i := 2) rfl rfl Try.isAgg58 Try.sizeOf58
  obtain rfl := Option.some.inj hm
  have H : Heap w0 [oA (rList (rInt .i64)) v28 x26] w32 := H.sel [0] (by decide)
  exact leaveR1 S rfl hrv0 ⟨v28, rfl, H⟩

/-- laws.toEquationS -/
def laws_toEquationS_m (fuel : Nat) (a0 : (List T57)) : Option ((List T58)) :=
  (mks (a0.length : Int) (false, false, [])).bind fun x1 => (iter (fun (s : (List T58) × (Int)) => (match s with | (xs35, x36) => (if (decide (x36 < (a0.length : Int))) = true then (idx a0 x36).bind fun x75 => (laws_toEquation_m fuel (x75.1, x75.2.1, x75.2.2)).bind fun x92 => (idx xs35 x36).bind fun x97 => some (.inl ((xs35.set x36.toNat (x92.1, x92.2.1, x92.2.2)), (W (x36 + (1 : Int))))) else some (.inr (.inl (xs35)))) : Option (((List T58) × (Int)) ⊕ (((List T58)) ⊕ ((List T58)))))) fuel (x1, (0 : Int))).bind fun res66 => ctl (β := (List T58)) (ρ := (List T58)) (τ := (List T58)) res66 (fun (xs65) => some (xs65)) (fun q => some (q))
set_option maxRecDepth 20000 in
theorem laws_toEquationS_ok {w0 : World} {fuel : Nat} {p0 : Value} {a0 : (List T57)} {r : (List T58)} (h0 : Rd (rList R57) w0 p0 a0) (hm : laws_toEquationS_m fuel a0 = some r) :
    Calls Try.prog 11 #[p0] w0 fun e w => ∃ (v0 : Value), e = .returned (v0) ∧ Heap w0 [oA (rList R58) v0 r] w := by
  unfold laws_toEquationS_m at hm
  have H := Heap.start w0
  refine enter (args := [p0]) Try.func11 rfl 23 rfl (Nat.le_of_ble_eq_true rfl) (fun a S => ?_)
  refine wp_seq ?_
  refine region_plain ?_
  refine lx_q (.slice none 0 0) S trivial (by decide) (q_assign rfl) (fun a S => ?_)
  refine lx_nil ?_
  refine thenN ?_
  refine wp_seq ?_
  refine region_plain ?_
  refine lx_q p0 S trivial (by decide) (q_move rfl) (fun a S => ?_)
  refine lx_q (.int .i64 (a0.length : Int)) S trivial (by decide) (q_lenSl rfl (h0).isSl rfl Try.underlying22) (fun a S => ?_)
  obtain ⟨x1, e2, hm⟩ := bind_some hm
  obtain ⟨m3, hn, hn2, rfl⟩ := mks_some e2
  refine lx_make (r := R58) (z0 := (false, false, [])) (n := m3) S trivial (by decide) rfl H (by rw [← hn]; rfl) (by rw [← hn]; rfl) Try.underlying25 (Try.ti58) rfl rfl (by decide) (fun w => ⟨_, _, [(.bool false)], [(.bool false), (.slice none 0 0)], rfl, rfl, ⟨rfl, rfl⟩, ⟨_, _, [(.bool false)], [(.slice none 0 0)], rfl, rfl, ⟨rfl, rfl⟩, (oA_list.1 drop_nil_own)⟩⟩) hn2 (by decide) (fun v4 w5 H => ⟨trivial, fun a S => ?_⟩)
  refine lx_q v4 S trivial (by decide) (q_assign rfl) (fun a S => ?_)
  refine lx_nil ?_
  refine thenN ?_
  refine wp_seq ?_
  refine wp_seq ?_
  refine region_plain ?_
  refine lx_q (.int .i64 (0 : Int)) S trivial (by decide) (q_assign rfl) (fun a S => ?_)
  refine lx_nil ?_
  refine thenN ?_
  obtain ⟨res66, hit67, hk70⟩ := bind_some hm
  obtain ⟨f68, hf69, hit67⟩ := iter_name hit67
  refine block_loop (fun a w => ∃ (xs65 : List T58), Slots a 23 [(3, v4)] ∧ Heap w0 [oA (rList R58) v4 xs65] w ∧ res66 = .inl (xs65)) ?_ ?_
  · rintro a w ⟨xs65, S, H, rfl⟩
    have hm := ctl_inl hk70
    refine thenN ?_
    refine wp_seq ?_
    refine region_plain ?_
    refine lx_q v4 S trivial (by decide) (q_move rfl) (fun a S => ?_)
    refine lx_q v4 S trivial (by decide) (q_assign rfl) (fun a S => ?_)
    refine lx_nil ?_
    refine thenN ?_
    refine wp_ret ?_
    obtain rfl := Option.some.inj hm
    exact leave1 S rfl rfl ⟨v4, rfl, H⟩
  · skip
    refine loop_ghost (fun n a w => ∃ (xs35 : List T58) (x36 : Int), Slots a 23 [(0, p0), (3, v4), (4, (.int .i64 x36))] ∧ Heap w0 [oA (rList R58) v4 xs35] w ∧ iter f68 n (xs35, x36) = some res66) _ ⟨(List.replicate m3 (false, false, [])), (0 : Int), S.sub ⟨rfl, rfl, rfl, trivial⟩, H, hit67⟩ ?_
    rintro n a w ⟨xs35, x36, S, H, hit67⟩
    obtain ⟨m71, o72, rfl, hm, hc73⟩ := iter_step hit67
    rw [hf69] at hm
    refine wp_seq ?_
    refine wp_seq ?_
    refine region_plain ?_
    refine lx_q (.int .i64 x36) S trivial (by decide) (q_move rfl) (fun a S => ?_)
    refine lx_q p0 S trivial (by decide) (q_move rfl) (fun a S => ?_)
    refine lx_q (.int .i64 (a0.length : Int)) S trivial (by decide) (q_lenSl rfl (h0).isSl rfl Try.underlying22) (fun a S => ?_)
    refine lx_q (.bool (decide (x36 < (a0.length : Int)))) S trivial (by decide) (q_lss rfl rfl) (fun a S => ?_)
    refine lx_nil ?_
    refine thenN ?_
    refine cond_b S rfl (fun hc74 => ?_) (fun hc74 => ?_)
    · have hm := ite_t hc74 hm
      refine wp_skip ?_
      refine thenN ?_
      refine wp_seq ?_
      refine wp_block ?_
      refine region_plain ?_
      refine lx_q v4 S trivial (by decide) (q_move rfl) (fun a S => ?_)
      refine lx_q (.int .i64 x36) S trivial (by decide) (q_move rfl) (fun a S => ?_)
      refine lx_q p0 S trivial (by decide) (q_move rfl) (fun a S => ?_)
      refine lx_q (.int .i64 x36) S trivial (by decide) (q_move rfl) (fun a S => ?_)
      obtain ⟨x75, e76, hm⟩ := bind_some hm
      obtain ⟨c77, h78, hat79⟩ := (h0).elem (idx_some e76).2
      obtain ⟨c82, c83, rfl, h84, h85⟩ := h78
      obtain rfl := h84
      obtain ⟨c86, c87, rfl, h88, h89⟩ := h85
      obtain rfl := h88
      obtain ⟨v80, rfl, h81⟩ := rd_list h89
      have hlt := lt_of_idx (idx_some e76).2
      refine lx_q (ePtr p0 (x36.toNat * 3)) S trivial (by decide) (q_indexAddr rfl (h0).isSl rfl (idx_some e76).1 hlt Try.underlying22 Try.sizeOf57) (fun a S => ?_)
      refine lx_e (.agg #[(.bool x75.1), (.bool x75.2.1), v80]) S trivial (by decide) rfl trivial (q_loadA (cs := [(.bool x75.1), (.bool x75.2.1), v80]) rfl ((hat79 0 _ rfl).isP) Try.isAgg57 Try.sizeOf57 (by rintro _ rfl; exact (fun j u hu => (hat79 j u hu).ext H.ext))) (fun a S => ?_)
      obtain ⟨x92, e93, hm⟩ := bind_some hm
      refine lx_call (xs := [.tmp 19]) S trivial (by decide) rfl rfl Try.call39 ((laws_toEquation_ok ⟨[(.bool x75.1), (.bool x75.2.1), v80], rfl, ⟨[(.bool x75.1)], [(.bool x75.2.1), v80], rfl, rfl, ⟨[(.bool x75.2.1)], [v80], rfl, rfl, ((H.arg h81)).list_rd⟩⟩⟩ e93).mono ?_)
      rintro e w90 ⟨v94, rfl, Hc91⟩
      have he96 := Hc91.ext
      have H := H.call1 Hc91
      refine ⟨_, rfl, trivial, fun a S => ?_⟩
      obtain ⟨x97, e98, hm⟩ := bind_some hm
      have hlt := lt_of_idx (idx_some e98).2
      refine lx_q (ePtr v4 (x36.toNat * 3)) S trivial (by decide) (q_indexAddr rfl (H.isSl 1 rfl) rfl (idx_some e98).1 hlt Try.underlying25 Try.sizeOf58) (fun a S => ?_)
      have hcl : Value.cells (.agg #[(.bool x92.1), (.bool x92.2.1), v94]) = List.toArray [(.bool x92.1), (.bool x92.2.1), v94] := rfl
      have hon : ∀ c ∈ ([(.bool x92.1), (.bool x92.2.1), v94] : List Value), c.oneCell' = true := (List.forall_mem_cons.2 ⟨rfl, (List.forall_mem_cons.2 ⟨rfl, (List.forall_mem_cons.2 ⟨one_sl (H.isSl 0 rfl), (fun _ h => nomatch h)⟩)⟩)⟩)
      have H : Heap w0 [oA (rList R58) v4 xs35, oA (rList (rInt .i64)) v94 x92.2.2] w90 := H.front 1 rfl
      refine lx_storeElem (r := R58) (us := [(.bool x92.1), (.bool x92.2.1), v94]) (off := 0) (e' := (x92.1, x92.2.1, x92.2.2)) S trivial rfl H (by rw [pAdd_zero]; rfl) rfl (idx_some e98).2 hcl Try.sizeOf58 (Nat.le_of_ble_eq_true rfl) hon (Upd.full rfl (fun w G hG => ownF ⟨_, _, [(.bool x92.1)], [(.bool x92.2.1), v94], rfl, rfl, ⟨rfl, rfl⟩, ⟨_, _, [(.bool x92.2.1)], [v94], rfl, rfl, ⟨rfl, rfl⟩, (oA_list.1 hG)⟩⟩)) (fun w99 H => ⟨trivial, fun a S => ?_⟩)
      refine lx_nil ?_
      refine inBlock_norm ?_
      refine thenN ?_
      refine region_plain ?_
      refine lx_q (.int .i64 x36) S trivial (by decide) (q_move rfl) (fun a S => ?_)
      refine lx_q (.int .i64 (W (x36 + (1 : Int)))) S trivial (by decide) (q_add rfl rfl) (fun a S => ?_)
      refine lx_q (.int .i64 (W (x36 + (1 : Int)))) S trivial (by decide) (q_assign rfl) (fun a S => ?_)
      refine lx_nil ?_
      exact ⟨m71, Nat.lt_succ_self _, (xs35.set x36.toNat (x92.1, x92.2.1, x92.2.2)), (W (x36 + (1 : Int))), S.sub ⟨rfl, rfl, rfl, trivial⟩, H, it_cont hm hc73⟩
    · have hm := ite_f hc74 hm
      refine wp_exit ?_
      refine then_exit ?_
      refine then_exit ?_
      refine inBlock_exit ?_
      obtain rfl := it_brk hm hc73
      exact ⟨xs35, S.sub ⟨rfl, trivial⟩, H, rfl⟩

/-- spec.l22Count -/
def spec_l22Count_m (fuel : Nat) (a0 : (List T58)) : Option (Int) :=
  (iter (fun (s : (Int) × (Int)) => (match s with | (x40, x41) => (if (decide (x41 < (a0.length : Int))) = true then join (κ := Int → Option (((Int) × (Int)) ⊕ ((Int) ⊕ (Int)))) (fun (x91 : Int) => some (.inl (x91, (W (x41 + (1 : Int)))))) (fun K92 => (idx a0 x41).bind fun x96 => (idx a0 (W (x41 - (1 : Int)))).bind fun x111 => (if (x96.1 != x111.1) = true then (K92 (W (x40 + (1 : Int)))) else (K92 x40))) else some (.inr (.inl (x40)))) : Option (((Int) × (Int)) ⊕ ((Int) ⊕ (Int))))) fuel ((1 : Int), (1 : Int))).bind fun res82 => ctl (β := Int) (ρ := Int) (τ := Int) res82 (fun (x81) => some (x81)) (fun q => some (q))
set_option maxRecDepth 20000 in
theorem spec_l22Count_ok {w0 : World} {fuel : Nat} {p0 : Value} {a0 : (List T58)} {r : Int} (h0 : Rd (rList R58) w0 p0 a0) (hm : spec_l22Count_m fuel a0 = some r) :
    Calls Try.prog 68 #[p0] w0 fun e w => e = .returned (.int .i64 r) ∧ Heap w0 [] w := by
  unfold spec_l22Count_m at hm
  have H := Heap.start w0
  refine enter (args := [p0]) Try.func68 rfl 26 rfl (Nat.le_of_ble_eq_true rfl) (fun a S => ?_)
  refine wp_seq ?_
  refine region_plain ?_
  refine lx_q (.int .i64 (0 : Int)) S trivial (by decide) (q_assign rfl) (fun a S => ?_)
  refine lx_nil ?_
  refine thenN ?_
  refine wp_seq ?_
  refine region_plain ?_
  refine lx_q (.int .i64 (1 : Int)) S trivial (by decide) (q_assign rfl) (fun a S => ?_)
  refine lx_nil ?_
  refine thenN ?_
  refine wp_seq ?_
  refine wp_seq ?_
  refine region_plain ?_
  refine lx_q (.int .i64 (1 : Int)) S trivial (by decide) (q_assign rfl) (fun a S => ?_)
  refine lx_nil ?_
  refine thenN ?_
  obtain ⟨res82, hit83, hk86⟩ := bind_some hm
  obtain ⟨f84, hf85, hit83⟩ := iter_name hit83
  refine block_loop (fun a w => ∃ (x81 : Int), Slots a 26 [(3, (.int .i64 x81))] ∧ Heap w0 [] w ∧ res82 = .inl (x81)) ?_ ?_
  · rintro a w ⟨x81, S, H, rfl⟩
    have hm := ctl_inl hk86
    refine thenN ?_
    refine wp_seq ?_
    refine region_plain ?_
    refine lx_q (.int .i64 x81) S trivial (by decide) (q_move rfl) (fun a S => ?_)
    refine lx_q (.int .i64 x81) S trivial (by decide) (q_assign rfl) (fun a S => ?_)
    refine lx_nil ?_
    refine thenN ?_
    refine wp_ret ?_
    obtain rfl := Option.some.inj hm
    exact leave1 S rfl rfl ⟨rfl, H⟩
  · skip
    refine loop_ghost (fun n a w => ∃ (x40 : Int) (x41 : Int), Slots a 26 [(0, p0), (3, (.int .i64 x40)), (4, (.int .i64 x41))] ∧ Heap w0 [] w ∧ iter f84 n (x40, x41) = some res82) _ ⟨(1 : Int), (1 : Int), S.sub ⟨rfl, rfl, rfl, trivial⟩, H, hit83⟩ ?_
    rintro n a w ⟨x40, x41, S, H, hit83⟩
    obtain ⟨m87, o88, rfl, hm, hc89⟩ := iter_step hit83
    rw [hf85] at hm
    refine wp_seq ?_
    refine wp_seq ?_
    refine region_plain ?_
    refine lx_q (.int .i64 x41) S trivial (by decide) (q_move rfl) (fun a S => ?_)
    refine lx_q p0 S trivial (by decide) (q_move rfl) (fun a S => ?_)
    refine lx_q (.int .i64 (a0.length : Int)) S trivial (by decide) (q_lenSl rfl (h0).isSl rfl Try.underlying25) (fun a S => ?_)
    refine lx_q (.bool (decide (x41 < (a0.length : Int)))) S trivial (by decide) (q_lss rfl rfl) (fun a S => ?_)
    refine lx_nil ?_
    refine thenN ?_
    refine cond_b S rfl (fun hc90 => ?_) (fun hc90 => ?_)
    · have hm := ite_t hc90 hm
      refine wp_skip ?_
      refine thenN ?_
      obtain ⟨K92, hK93, hm⟩ := join_elim hm
      refine seq_cut (fun a w => ∃ (x91 : Int), Slots a 26 [(0, p0), (3, (.int .i64 x91)), (4, (.int .i64 x41))] ∧ Heap w0 [] w ∧ K92 x91 = some o88) ?_ ?_
      · rintro a w ⟨x91, S, H, hm⟩
        subst hK93
        refine region_plain ?_
        refine lx_q (.int .i64 x41) S trivial (by decide) (q_move rfl) (fun a S => ?_)
        refine lx_q (.int .i64 (W (x41 + (1 : Int)))) S trivial (by decide) (q_add rfl rfl) (fun a S => ?_)
        refine lx_q (.int .i64 (W (x41 + (1 : Int)))) S trivial (by decide) (q_assign rfl) (fun a S => ?_)
        refine lx_nil ?_
        exact ⟨m87, Nat.lt_succ_self _, x91, (W (x41 + (1 : Int))), S.sub ⟨rfl, rfl, rfl, trivial⟩, H, it_cont hm hc89⟩
      · skip
        refine wp_block ?_
        refine wp_seq ?_
        refine region_drawG (fun w1 => Heap w0 [] w1) (fun i => [].contains i) mixed (by kernel_rfl) (fun w95 he94 => ?_)
        have H := H.later he94
        refine ⟨H.sel [] (by decide), ?_⟩
        refine lx_q p0 S trivial (by decide) (q_move rfl) (fun a S => ?_)
        refine lx_q (.int .i64 x41) S trivial (by decide) (q_move rfl) (fun a S => ?_)
        obtain ⟨x96, e97, hm⟩ := bind_some hm
        obtain ⟨c98, h99, hat100⟩ := (h0).elem (idx_some e97).2
        obtain ⟨c103, c104, rfl, h105, h106⟩ := h99
        obtain rfl := h105
        obtain ⟨c107, c108, rfl, h109, h110⟩ := h106
        obtain rfl := h109
        obtain ⟨v101, rfl, h102⟩ := rd_list h110
        have hlt := lt_of_idx (idx_some e97).2
        refine lx_q (ePtr p0 (x41.toNat * 3)) S trivial (by decide) (q_indexAddr rfl (h0).isSl rfl (idx_some e97).1 hlt Try.underlying25 Try.sizeOf58) (fun a S => ?_)
        refine lx_q (pAdd (ePtr p0 (x41.toNat * 3)) 0) S trivial (by decide) (q_fieldAddr' 0 4 rfl ((hat100 0 _ rfl).isP) Try.underlying58 rfl Try.sizeOf4) (fun a S => ?_)
        refine lx_q (.bool x96.1) S trivial (by decide) (q_load1 rfl Try.isAgg4 (fun w1 hC => (At.of_add (m := 0) (j := 0) ((hat100 0 _ rfl).ext hC.ext)))) (fun a S => ?_)
        refine lx_q p0 S trivial (by decide) (q_move rfl) (fun a S => ?_)
        refine lx_q (.int .i64 x41) S trivial (by decide) (q_move rfl) (fun a S => ?_)
        refine lx_q (.int .i64 (W (x41 - (1 : Int)))) S trivial (by decide) (q_sub rfl rfl) (fun a S => ?_)
        obtain ⟨x111, e112, hm⟩ := bind_some hm
        obtain ⟨c113, h114, hat115⟩ := (h0).elem (idx_some e112).2
        obtain ⟨c118, c119, rfl, h120, h121⟩ := h114
        obtain rfl := h120
        obtain ⟨c122, c123, rfl, h124, h125⟩ := h121
        obtain rfl := h124
        obtain ⟨v116, rfl, h117⟩ := rd_list h125
        have hlt := lt_of_idx (idx_some e112).2
        refine lx_q (ePtr p0 ((W (x41 - (1 : Int))).toNat * 3)) S trivial (by decide) (q_indexAddr rfl (h0).isSl rfl (idx_some e112).1 hlt Try.underlying25 Try.sizeOf58) (fun a S => ?_)
        refine lx_q (pAdd (ePtr p0 ((W (x41 - (1 : Int))).toNat * 3)) 0) S trivial (by decide) (q_fieldAddr' 0 4 rfl ((hat115 0 _ rfl).isP) Try.underlying58 rfl Try.sizeOf4) (fun a S => ?_)
        refine lx_q (.bool x111.1) S trivial (by decide) (q_load1 rfl Try.isAgg4 (fun w1 hC => (At.of_add (m := 0) (j := 0) ((hat115 0 _ rfl).ext hC.ext)))) (fun a S => ?_)
        refine lx_q (.bool (x96.1 != x111.1)) S trivial (by decide) (q_bneq rfl rfl Try.underlying4) (fun a S => ?_)
        refine lx_nil ?_
        refine thenN ?_
        refine cond_b S rfl (fun hc126 => ?_) (fun hc126 => ?_)
        · have hm := ite_t hc126 hm
          refine region_plain ?_
          refine lx_q (.int .i64 x40) S trivial (by decide) (q_move rfl) (fun a S => ?_)
          refine lx_q (.int .i64 (W (x40 + (1 : Int)))) S trivial (by decide) (q_add rfl rfl) (fun a S => ?_)
          refine lx_q (.int .i64 (W (x40 + (1 : Int)))) S trivial (by decide) (q_assign rfl) (fun a S => ?_)
          refine lx_nil ?_
          refine inBlock_norm ?_
          exact ⟨(W (x40 + (1 : Int))), S.sub ⟨rfl, rfl, rfl, trivial⟩, H, hm⟩
        · have hm := ite_f hc126 hm
          refine wp_skip ?_
          refine inBlock_norm ?_
          exact ⟨x40, S.sub ⟨rfl, rfl, rfl, trivial⟩, H, hm⟩
    · have hm := ite_f hc90 hm
      refine wp_exit ?_
      refine then_exit ?_
      refine then_exit ?_
      refine inBlock_exit ?_
      obtain rfl := it_brk hm hc89
      exact ⟨x40, S.sub ⟨rfl, trivial⟩, H, rfl⟩

/-- spec.l00In -/
def spec_l00In_m (fuel : Nat) (a0 : Int) (a1 : Int) (a2 : Int) : Option (Bool) :=
  (if (decide (a1 ≤ a0)) = true then some (decide (a0 ≤ a2)) else some false).bind fun t1 => some (t1)
set_option maxRecDepth 20000 in
theorem spec_l00In_ok {w0 : World} {fuel : Nat} {a0 : Int} {a1 : Int} {a2 : Int} {r : Bool} (hm : spec_l00In_m fuel a0 a1 a2 = some r) :
    Calls Try.prog 60 #[.int .i64 a0, .int .i64 a1, .int .i64 a2] w0 fun e w => e = .returned (.bool r) ∧ Heap w0 [] w := by
  unfold spec_l00In_m at hm
  have H := Heap.start w0
  refine enter (args := [.int .i64 a0, .int .i64 a1, .int .i64 a2]) Try.func60 rfl 15 rfl (Nat.le_of_ble_eq_true rfl) (fun a S => ?_)
  refine wp_seq ?_
  refine region_plain ?_
  refine lx_q (.bool false) S trivial (by decide) (q_assign rfl) (fun a S => ?_)
  refine lx_nil ?_
  refine thenN ?_
  refine wp_seq ?_
  refine region_plain ?_
  refine lx_q (.int .i64 a0) S trivial (by decide) (q_move rfl) (fun a S => ?_)
  refine lx_q (.int .i64 a1) S trivial (by decide) (q_move rfl) (fun a S => ?_)
  refine lx_q (.bool (decide (a1 ≤ a0))) S trivial (by decide) (q_geq rfl rfl) (fun a S => ?_)
  refine lx_q (.bool (decide (a1 ≤ a0))) S trivial (by decide) (q_move rfl) (fun a S => ?_)
  obtain ⟨t1, e2, hm⟩ := bind_some hm
  refine lx_cut 4 (fun a w => Slots a 15 [(14, (.bool t1))] ∧ Heap w0 [] w) ?_ ?_
  · by_cases hc3 : (decide (a1 ≤ a0)) = true
    · have hm := ite_t hc3 e2
      refine lx_q (.int .i64 a0) S (want_b rfl rfl hc3) (by decide) (q_move rfl) (fun a S => ?_)
      refine lx_q (.int .i64 a2) S (want_b rfl rfl hc3) (by decide) (q_move rfl) (fun a S => ?_)
      refine lx_q (.bool (decide (a0 ≤ a2))) S (want_b rfl rfl hc3) (by decide) (q_leq rfl rfl) (fun a S => ?_)
      refine lx_q (.bool (decide (a0 ≤ a2))) S trivial (by decide) (q_pickT' rfl hc3 rfl) (fun a S => ?_)
      refine lx_nil ?_
      obtain rfl := Option.some.inj hm
      exact ⟨S.sub ⟨rfl, trivial⟩, H⟩
    · have hm := ite_f (eq_false_of_ne_true hc3) e2
      have hc3 : (decide (a1 ≤ a0)) = false := eq_false_of_ne_true hc3
      refine lx_skip S rfl rfl (isB_ne hc3) (by decide) (fun a S => ?_)
      refine lx_skip S rfl rfl (isB_ne hc3) (by decide) (fun a S => ?_)
      refine lx_skip S rfl rfl (isB_ne hc3) (by decide) (fun a S => ?_)
      refine lx_q (.bool false) S trivial (by decide) (q_pickF' rfl hc3 rfl) (fun a S => ?_)
      refine lx_nil ?_
      obtain rfl := Option.some.inj hm
      exact ⟨S.sub ⟨rfl, trivial⟩, H⟩
  · rintro a w ⟨S, H⟩
    refine lx_q (.bool t1) S trivial (by decide) (q_assign rfl) (fun a S => ?_)
    refine lx_nil ?_
    refine thenN ?_
    refine wp_ret ?_
    obtain rfl := Option.some.inj hm
    exact leave1 S rfl rfl ⟨rfl, H⟩

/-- spec.l00Rises -/
def spec_l00Rises_m (fuel : Nat) (a0 : (List Int)) (a1 : Int) (a2 : Int) : Option (Bool) :=
  (iter (fun (s : (Int)) => (match s with | (x32) => (if (decide (x32 < (a0.length : Int))) = true then (idx a0 x32).bind fun x75 => (spec_l00In_m fuel x75 a1 a2).bind fun x82 => (if (!x82) = true then some true else (if (decide ((0 : Int) < x32)) = true then (idx a0 (W (x32 - (1 : Int)))).bind fun x91 => (idx a0 x32).bind fun x96 => some (decide (x96 ≤ x91)) else some false).bind fun t88 => some t88).bind fun t85 => (if t85 = true then some (.inr (.inr false)) else some (.inl ((W (x32 + (1 : Int)))))) else some (.inr (.inl ()))) : Option (((Int)) ⊕ ((Unit) ⊕ (Bool))))) fuel ((0 : Int))).bind fun res64 => ctl (β := Unit) (ρ := Bool) (τ := Bool) res64 (fun _ => some (true)) (fun q => some (q))
set_option maxRecDepth 20000 in
theorem spec_l00Rises_ok {w0 : World} {fuel : Nat} {p0 : Value} {a0 : (List Int)} {a1 : Int} {a2 : Int} {r : Bool} (h0 : Rd (rList (rInt .i64)) w0 p0 a0) (hm : spec_l00Rises_m fuel a0 a1 a2 = some r) :
    Calls Try.prog 69 #[p0, .int .i64 a1, .int .i64 a2] w0 fun e w => e = .returned (.bool r) ∧ Heap w0 [] w := by
  unfold spec_l00Rises_m at hm
  have H := Heap.start w0
  refine enter (args := [p0, .int .i64 a1, .int .i64 a2]) Try.func69 rfl 38 rfl (Nat.le_of_ble_eq_true rfl) (fun a S => ?_)
  refine wp_seq ?_
  refine region_plain ?_
  refine lx_q (.bool false) S trivial (by decide) (q_assign rfl) (fun a S => ?_)
  refine lx_nil ?_
  refine thenN ?_
  refine wp_seq ?_
  refine wp_seq ?_
  refine region_plain ?_
  refine lx_q (.int .i64 (0 : Int)) S trivial (by decide) (q_assign rfl) (fun a S => ?_)
  refine lx_nil ?_
  refine thenN ?_
  obtain ⟨res64, hit65, hk68⟩ := bind_some hm
  obtain ⟨f66, hf67, hit65⟩ := iter_name hit65
  refine block_loop (fun a w => Slots a 38 [] ∧ Heap w0 [] w ∧ res64 = .inl ()) ?_ ?_
  · rintro a w ⟨S, H, rfl⟩
    have hm := ctl_inl hk68
    refine thenN ?_
    refine wp_seq ?_
    refine region_plain ?_
    refine lx_q (.bool true) S trivial (by decide) (q_assign rfl) (fun a S => ?_)
    refine lx_nil ?_
    refine thenN ?_
    refine wp_ret ?_
    obtain rfl := Option.some.inj hm
    exact leave1 S rfl rfl ⟨rfl, H⟩
  · skip
    refine loop_ghost (fun n a w => ∃ (x32 : Int), Slots a 38 [(0, p0), (1, (.int .i64 a1)), (2, (.int .i64 a2)), (7, (.int .i64 x32))] ∧ Heap w0 [] w ∧ iter f66 n (x32) = some res64) _ ⟨(0 : Int), S.sub ⟨rfl, rfl, rfl, rfl, trivial⟩, H, hit65⟩ ?_
    rintro n a w ⟨x32, S, H, hit65⟩
    obtain ⟨m69, o70, rfl, hm, hc71⟩ := iter_step hit65
    rw [hf67] at hm
    refine wp_seq ?_
    refine wp_seq ?_
    refine region_plain ?_
    refine lx_q (.int .i64 x32) S trivial (by decide) (q_move rfl) (fun a S => ?_)
    refine lx_q p0 S trivial (by decide) (q_move rfl) (fun a S => ?_)
    refine lx_q (.int .i64 (a0.length : Int)) S trivial (by decide) (q_lenSl rfl (h0).isSl rfl Try.underlying29) (fun a S => ?_)
    refine lx_q (.bool (decide (x32 < (a0.length : Int)))) S trivial (by decide) (q_lss rfl rfl) (fun a S => ?_)
    refine lx_nil ?_
    refine thenN ?_
    refine cond_b S rfl (fun hc72 => ?_) (fun hc72 => ?_)
    · have hm := ite_t hc72 hm
      refine wp_skip ?_
      refine thenN ?_
      refine wp_seq ?_
      refine wp_block ?_
      refine wp_seq ?_
      refine region_drawG (fun w1 => Heap w0 [] w1) (fun i => [6].contains i) mixed (by kernel_rfl) (fun w74 he73 => ?_)
      have H := H.later he73
      refine ⟨H.sel [] (by decide), ?_⟩
      refine lx_q p0 S trivial (by decide) (q_move rfl) (fun a S => ?_)
      refine lx_q (.int .i64 x32) S trivial (by decide) (q_move rfl) (fun a S => ?_)
      obtain ⟨x75, e76, hm⟩ := bind_some hm
      obtain ⟨c77, h78, hat79⟩ := (h0).elem (idx_some e76).2
      obtain rfl := h78
      have hlt := lt_of_idx (idx_some e76).2
      refine lx_q (ePtr p0 (x32.toNat * 1)) S trivial (by decide) (q_indexAddr rfl (h0).isSl rfl (idx_some e76).1 hlt Try.underlying29 Try.sizeOf2) (fun a S => ?_)
      refine lx_q (.int .i64 x75) S trivial (by decide) (q_load1 rfl Try.isAgg2 (fun w1 hC => ((hat79 0 _ rfl).ext hC.ext))) (fun a S => ?_)
      refine lx_q (.int .i64 a1) S trivial (by decide) (q_move rfl) (fun a S => ?_)
      refine lx_q (.int .i64 a2) S trivial (by decide) (q_move rfl) (fun a S => ?_)
      obtain ⟨x82, e83, hm⟩ := bind_some hm
      refine lx_call (xs := [.tmp 17, .tmp 18, .tmp 19]) S trivial (by decide) rfl rfl Try.call60 ((spec_l00In_ok    e83).mono ?_)
      rintro e w80 ⟨rfl, Hc81⟩
      have he84 := Hc81.ext
      have H := H.call0 Hc81
      refine ⟨_, rfl, H.sel [] (by decide), fun a S => ?_⟩
      refine lx_q (.bool (!x82)) S trivial (by decide) (q_not rfl) (fun a S => ?_)
      refine lx_q (.bool (!x82)) S trivial (by decide) (q_move rfl) (fun a S => ?_)
      obtain ⟨t85, e86, hm⟩ := bind_some hm
      refine lx_cut 15 (fun a w => Slots a 38 [(0, p0), (1, (.int .i64 a1)), (2, (.int .i64 a2)), (7, (.int .i64 x32)), (37, (.bool t85))] ∧ Heap w0 [] w) ?_ ?_
      · by_cases hc87 : (!x82) = true
        · have hm := ite_t hc87 e86
          refine lx_skip S rfl rfl (isB_ne hc87) (by decide) (fun a S => ?_)
          refine lx_skip S rfl rfl (isB_ne hc87) (by decide) (fun a S => ?_)
          refine lx_skip S rfl rfl (isB_ne hc87) (by decide) (fun a S => ?_)
          refine lx_skip S rfl rfl rfl (by decide) (fun a S => ?_)
          refine lx_skip S rfl rfl rfl (by decide) (fun a S => ?_)
          refine lx_skip S rfl rfl rfl (by decide) (fun a S => ?_)
          refine lx_skip S rfl rfl rfl (by decide) (fun a S => ?_)
          refine lx_skip S rfl rfl rfl (by decide) (fun a S => ?_)
          refine lx_skip S rfl rfl rfl (by decide) (fun a S => ?_)
          refine lx_skip S rfl rfl rfl (by decide) (fun a S => ?_)
          refine lx_skip S rfl rfl rfl (by decide) (fun a S => ?_)
          refine lx_skip S rfl rfl rfl (by decide) (fun a S => ?_)
          refine lx_skip S rfl rfl rfl (by decide) (fun a S => ?_)
          refine lx_skip S rfl rfl (isB_ne hc87) (by decide) (fun a S => ?_)
          refine lx_q (.bool true) S trivial (by decide) (q_pickT' rfl hc87 rfl) (fun a S => ?_)
          refine lx_nil ?_
          obtain rfl := Option.some.inj hm
          exact ⟨S.sub ⟨rfl, rfl, rfl, rfl, rfl, trivial⟩, H⟩
        · have hm := ite_f (eq_false_of_ne_true hc87) e86
          have hc87 : (!x82) = false := eq_false_of_ne_true hc87
          refine lx_q (.int .i64 x32) S (want_b rfl rfl hc87) (by decide) (q_move rfl) (fun a S => ?_)
          refine lx_q (.bool (decide ((0 : Int) < x32))) S (want_b rfl rfl hc87) (by decide) (q_gtr rfl rfl) (fun a S => ?_)
          refine lx_q (.bool (decide ((0 : Int) < x32))) S (want_b rfl rfl hc87) (by decide) (q_move rfl) (fun a S => ?_)
          obtain ⟨t88, e89, hm⟩ := bind_some hm
          refine lx_cut 11 (fun a w => Slots a 38 [(0, p0), (1, (.int .i64 a1)), (2, (.int .i64 a2)), (7, (.int .i64 x32)), (22, (.bool (!x82))), (36, (.bool t88))] ∧ Heap w0 [] w) ?_ ?_
          · by_cases hc90 : (decide ((0 : Int) < x32)) = true
            · have hm := ite_t hc90 e89
              refine lx_q p0 S (want_b rfl rfl hc90) (by decide) (q_move rfl) (fun a S => ?_)
              refine lx_q (.int .i64 x32) S (want_b rfl rfl hc90) (by decide) (q_move rfl) (fun a S => ?_)
              refine lx_q (.int .i64 (W (x32 - (1 : Int)))) S (want_b rfl rfl hc90) (by decide) (q_sub rfl rfl) (fun a S => ?_)
              obtain ⟨x91, e92, hm⟩ := bind_some hm
              obtain ⟨c93, h94, hat95⟩ := (h0).elem (idx_some e92).2
              obtain rfl := h94
              have hlt := lt_of_idx (idx_some e92).2
              refine lx_q (ePtr p0 ((W (x32 - (1 : Int))).toNat * 1)) S (want_b rfl rfl hc90) (by decide) (q_indexAddr rfl (h0).isSl rfl (idx_some e92).1 hlt Try.underlying29 Try.sizeOf2) (fun a S => ?_)
              refine lx_q (.int .i64 x91) S (want_b rfl rfl hc90) (by decide) (q_load1 rfl Try.isAgg2 (fun w1 hC => ((hat95 0 _ rfl).ext hC.ext))) (fun a S => ?_)
              refine lx_q p0 S (want_b rfl rfl hc90) (by decide) (q_move rfl) (fun a S => ?_)
              refine lx_q (.int .i64 x32) S (want_b rfl rfl hc90) (by decide) (q_move rfl) (fun a S => ?_)
              obtain ⟨x96, e97, hm⟩ := bind_some hm
              obtain ⟨c98, h99, hat100⟩ := (h0).elem (idx_some e97).2
              obtain rfl := h99
              have hlt := lt_of_idx (idx_some e97).2
              refine lx_q (ePtr p0 (x32.toNat * 1)) S (want_b rfl rfl hc90) (by decide) (q_indexAddr rfl (h0).isSl rfl (idx_some e97).1 hlt Try.underlying29 Try.sizeOf2) (fun a S => ?_)
              refine lx_q (.int .i64 x96) S (want_b rfl rfl hc90) (by decide) (q_load1 rfl Try.isAgg2 (fun w1 hC => ((hat100 0 _ rfl).ext hC.ext))) (fun a S => ?_)
              refine lx_q (.bool (decide (x96 ≤ x91))) S (want_b rfl rfl hc90) (by decide) (q_geq rfl rfl) (fun a S => ?_)
              refine lx_q (.bool (decide (x96 ≤ x91))) S (want_b rfl rfl hc87) (by decide) (q_pickT' rfl hc90 rfl) (fun a S => ?_)
              refine lx_nil ?_
              obtain rfl := Option.some.inj hm
              exact ⟨S.sub ⟨rfl, rfl, rfl, rfl, rfl, rfl, trivial⟩, H⟩
            · have hm := ite_f (eq_false_of_ne_true hc90) e89
              have hc90 : (decide ((0 : Int) < x32)) = false := eq_false_of_ne_true hc90
              refine lx_skip S rfl rfl (isB_ne hc90) (by decide) (fun a S => ?_)
              refine lx_skip S rfl rfl (isB_ne hc90) (by decide) (fun a S => ?_)
              refine lx_skip S rfl rfl (isB_ne hc90) (by decide) (fun a S => ?_)
              refine lx_skip S rfl rfl (isB_ne hc90) (by decide) (fun a S => ?_)
              refine lx_skip S rfl rfl (isB_ne hc90) (by decide) (fun a S => ?_)
              refine lx_skip S rfl rfl (isB_ne hc90) (by decide) (fun a S => ?_)
              refine lx_skip S rfl rfl (isB_ne hc90) (by decide) (fun a S => ?_)
              refine lx_skip S rfl rfl (isB_ne hc90) (by decide) (fun a S => ?_)
              refine lx_skip S rfl rfl (isB_ne hc90) (by decide) (fun a S => ?_)
              refine lx_skip S rfl rfl (isB_ne hc90) (by decide) (fun a S => ?_)
              refine lx_q (.bool false) S (want_b rfl rfl hc87) (by decide) (q_pickF' rfl hc90 rfl) (fun a S => ?_)
              refine lx_nil ?_
              obtain rfl := Option.some.inj hm
              exact ⟨S.sub ⟨rfl, rfl, rfl, rfl, rfl, rfl, trivial⟩, H⟩
          · rintro a w ⟨S, H⟩
            refine lx_q (.bool t88) S trivial (by decide) (q_pickF' rfl hc87 rfl) (fun a S => ?_)
            refine lx_nil ?_
            obtain rfl := Option.some.inj hm
            exact ⟨S.sub ⟨rfl, rfl, rfl, rfl, rfl, trivial⟩, H⟩
      · rintro a w ⟨S, H⟩
        refine lx_nil ?_
        refine thenN ?_
        refine cond_b S rfl (fun hc101 => ?_) (fun hc101 => ?_)
        · have hm := ite_t hc101 hm
          refine wp_seq ?_
          refine region_plain ?_
          refine lx_q (.bool false) S trivial (by decide) (q_assign rfl) (fun a S => ?_)
          refine lx_nil ?_
          refine thenN ?_
          refine wp_ret ?_
          refine inBlock_ret ?_
          refine then_ret ?_
          refine then_ret ?_
          refine inBlock_ret ?_
          refine then_ret ?_
          refine then_ret ?_
          obtain rfl := it_brk hm hc71
          have hm := ctl_inr hk68
          obtain rfl := Option.some.inj hm
          exact leave1 S rfl rfl ⟨rfl, H⟩
        · have hm := ite_f hc101 hm
          refine wp_skip ?_
          refine inBlock_norm ?_
          refine thenN ?_
          refine region_plain ?_
          refine lx_q (.int .i64 x32) S trivial (by decide) (q_move rfl) (fun a S => ?_)
          refine lx_q (.int .i64 (W (x32 + (1 : Int)))) S trivial (by decide) (q_add rfl rfl) (fun a S => ?_)
          refine lx_q (.int .i64 (W (x32 + (1 : Int)))) S trivial (by decide) (q_assign rfl) (fun a S => ?_)
          refine lx_nil ?_
          exact ⟨m69, Nat.lt_succ_self _, (W (x32 + (1 : Int))), S.sub ⟨rfl, rfl, rfl, rfl, trivial⟩, H, it_cont hm hc71⟩
    · have hm := ite_f hc72 hm
      refine wp_exit ?_
      refine then_exit ?_
      refine then_exit ?_
      refine inBlock_exit ?_
      obtain rfl := it_brk hm hc71
      exact ⟨S.sub trivial, H, rfl⟩

/-- spec.l22Is -/
def spec_l22Is_m (fuel : Nat) (a0 : (List T58)) : Option (Bool) :=
  (if (decide ((a0.length : Int) < (1 : Int))) = true then some true else some (decide ((120 : Int) < (a0.length : Int)))).bind fun t1 => (if t1 = true then some true else (spec_l22Count_m fuel a0).bind fun x9 => some (decide ((9 : Int) < x9))).bind fun t4 => (if t4 = true then some (false) else (iter (fun (s : (Int)) => (match s with | (x36) => (if (decide (x36 < (a0.length : Int))) = true then (idx a0 x36).bind fun x69 => (spec_l00Rises_m fuel x69.2.2 (0 : Int) (W ((a0.length : Int) - (1 : Int)))).bind fun x86 => (if (!x86) = true then some (.inr (.inr false)) else some (.inl ((W (x36 + (1 : Int)))))) else some (.inr (.inl ()))) : Option (((Int)) ⊕ ((Unit) ⊕ (Bool))))) fuel ((0 : Int))).bind fun res60 => ctl (β := Unit) (ρ := Bool) (τ := Bool) res60 (fun _ => some (true)) (fun q => some (q)))
set_option maxRecDepth 20000 in
theorem spec_l22Is_ok {w0 : World} {fuel : Nat} {p0 : Value} {a0 : (List T58)} {r : Bool} (h0 : Rd (rList R58) w0 p0 a0) (hm : spec_l22Is_m fuel a0 = some r) :
    Calls Try.prog 38 #[p0] w0 fun e w => e = .returned (.bool r) ∧ Heap w0 [] w := by
  unfold spec_l22Is_m at hm
  have H := Heap.start w0
  refine enter (args := [p0]) Try.func38 rfl 33 rfl (Nat.le_of_ble_eq_true rfl) (fun a S => ?_)
  refine wp_seq ?_
  refine region_plain ?_
  refine lx_q (.bool false) S trivial (by decide) (q_assign rfl) (fun a S => ?_)
  refine lx_nil ?_
  refine thenN ?_
  refine wp_seq ?_
  refine wp_seq ?_
  refine region_plain ?_
  refine lx_q p0 S trivial (by decide) (q_move rfl) (fun a S => ?_)
  refine lx_q (.int .i64 (a0.length : Int)) S trivial (by decide) (q_lenSl rfl (h0).isSl rfl Try.underlying25) (fun a S => ?_)
  refine lx_q (.bool (decide ((a0.length : Int) < (1 : Int)))) S trivial (by decide) (q_lss rfl rfl) (fun a S => ?_)
  refine lx_q (.bool (decide ((a0.length : Int) < (1 : Int)))) S trivial (by decide) (q_move rfl) (fun a S => ?_)
  obtain ⟨t1, e2, hm⟩ := bind_some hm
  refine lx_cut 4 (fun a w => Slots a 33 [(0, p0), (11, (.bool t1))] ∧ Heap w0 [] w) ?_ ?_
  · by_cases hc3 : (decide ((a0.length : Int) < (1 : Int))) = true
    · have hm := ite_t hc3 e2
      refine lx_skip S rfl rfl (isB_ne hc3) (by decide) (fun a S => ?_)
      refine lx_skip S rfl rfl (isB_ne hc3) (by decide) (fun a S => ?_)
      refine lx_skip S rfl rfl (isB_ne hc3) (by decide) (fun a S => ?_)
      refine lx_q (.bool true) S trivial (by decide) (q_pickT' rfl hc3 rfl) (fun a S => ?_)
      refine lx_nil ?_
      obtain rfl := Option.some.inj hm
      exact ⟨S.sub ⟨rfl, rfl, trivial⟩, H⟩
    · have hm := ite_f (eq_false_of_ne_true hc3) e2
      have hc3 : (decide ((a0.length : Int) < (1 : Int))) = false := eq_false_of_ne_true hc3
      refine lx_q p0 S (want_b rfl rfl hc3) (by decide) (q_move rfl) (fun a S => ?_)
      refine lx_q (.int .i64 (a0.length : Int)) S (want_b rfl rfl hc3) (by decide) (q_lenSl rfl (h0).isSl rfl Try.underlying25) (fun a S => ?_)
      refine lx_q (.bool (decide ((120 : Int) < (a0.length : Int)))) S (want_b rfl rfl hc3) (by decide) (q_gtr rfl rfl) (fun a S => ?_)
      refine lx_q (.bool (decide ((120 : Int) < (a0.length : Int)))) S trivial (by decide) (q_pickF' rfl hc3 rfl) (fun a S => ?_)
      refine lx_nil ?_
      obtain rfl := Option.some.inj hm
      exact ⟨S.sub ⟨rfl, rfl, trivial⟩, H⟩
  · rintro a w ⟨S, H⟩
    refine lx_q (.bool t1) S trivial (by decide) (q_move rfl) (fun a S => ?_)
    obtain ⟨t4, e5, hm⟩ := bind_some hm
    refine lx_cut 4 (fun a w => Slots a 33 [(0, p0), (16, (.bool t4))] ∧ Heap w0 [] w) ?_ ?_
    · by_cases hc6 : t1 = true
      · have hm := ite_t hc6 e5
        refine lx_skip S rfl rfl (isB_ne hc6) (by decide) (fun a S => ?_)
        refine lx_skip S rfl rfl (isB_ne hc6) (by decide) (fun a S => ?_)
        refine lx_skip S rfl rfl (isB_ne hc6) (by decide) (fun a S => ?_)
        refine lx_q (.bool true) S trivial (by decide) (q_pickT' rfl hc6 rfl) (fun a S => ?_)
        refine lx_nil ?_
        obtain rfl := Option.some.inj hm
        exact ⟨S.sub ⟨rfl, rfl, trivial⟩, H⟩
      · have hm := ite_f (eq_false_of_ne_true hc6) e5
        have hc6 : t1 = false := eq_false_of_ne_true hc6
        refine lx_q p0 S (want_b rfl rfl hc6) (by decide) (q_move rfl) (fun a S => ?_)
        obtain ⟨x9, e10, hm⟩ := bind_some hm
        refine lx_call (xs := [.tmp 13]) S (want_b rfl rfl hc6) (by decide) rfl rfl Try.call68 ((spec_l22Count_ok (H.arg h0) e10).mono ?_)
        rintro e w7 ⟨rfl, Hc8⟩
        have he11 := Hc8.ext
        have H := H.call0 Hc8
        refine ⟨_, rfl, trivial, fun a S => ?_⟩
        refine lx_q (.bool (decide ((9 : Int) < x9))) S (want_b rfl rfl hc6) (by decide) (q_gtr rfl rfl) (fun a S => ?_)
        refine lx_q (.bool (decide ((9 : Int) < x9))) S trivial (by decide) (q_pickF' rfl hc6 rfl) (fun a S => ?_)
        refine lx_nil ?_
        obtain rfl := Option.some.inj hm
        exact ⟨S.sub ⟨rfl, rfl, trivial⟩, H⟩
    · rintro a w ⟨S, H⟩
      refine lx_nil ?_
      refine thenN ?_
      refine cond_b S rfl (fun hc12 => ?_) (fun hc12 => ?_)
      · have hm := ite_t hc12 hm
        refine wp_seq ?_
        refine region_plain ?_
        refine lx_q (.bool false) S trivial (by decide) (q_assign rfl) (fun a S => ?_)
        refine lx_nil ?_
        refine thenN ?_
        refine wp_ret ?_
        refine then_ret ?_
        obtain rfl := Option.some.inj hm
        exact leave1 S rfl rfl ⟨rfl, H⟩
      · have hm := ite_f hc12 hm
        refine wp_skip ?_
        refine thenN ?_
        refine wp_seq ?_
        refine wp_seq ?_
        refine region_plain ?_
        refine lx_q (.int .i64 (0 : Int)) S trivial (by decide) (q_assign rfl) (fun a S => ?_)
        refine lx_nil ?_
        refine thenN ?_
        obtain ⟨res60, hit61, hk64⟩ := bind_some hm
        obtain ⟨f62, hf63, hit61⟩ := iter_name hit61
        refine block_loop (fun a w => Slots a 33 [] ∧ Heap w0 [] w ∧ res60 = .inl ()) ?_ ?_
        · rintro a w ⟨S, H, rfl⟩
          have hm := ctl_inl hk64
          refine thenN ?_
          refine wp_seq ?_
          refine region_plain ?_
          refine lx_q (.bool true) S trivial (by decide) (q_assign rfl) (fun a S => ?_)
          refine lx_nil ?_
          refine thenN ?_
          refine wp_ret ?_
          obtain rfl := Option.some.inj hm
          exact leave1 S rfl rfl ⟨rfl, H⟩
        · skip
          refine loop_ghost (fun n a w => ∃ (x36 : Int), Slots a 33 [(0, p0), (3, (.int .i64 x36))] ∧ Heap w0 [] w ∧ iter f62 n (x36) = some res60) _ ⟨(0 : Int), S.sub ⟨rfl, rfl, trivial⟩, H, hit61⟩ ?_
          rintro n a w ⟨x36, S, H, hit61⟩
          obtain ⟨m65, o66, rfl, hm, hc67⟩ := iter_step hit61
          rw [hf63] at hm
          refine wp_seq ?_
          refine wp_seq ?_
          refine region_plain ?_
          refine lx_q (.int .i64 x36) S trivial (by decide) (q_move rfl) (fun a S => ?_)
          refine lx_q p0 S trivial (by decide) (q_move rfl) (fun a S => ?_)
          refine lx_q (.int .i64 (a0.length : Int)) S trivial (by decide) (q_lenSl rfl (h0).isSl rfl Try.underlying25) (fun a S => ?_)
          refine lx_q (.bool (decide (x36 < (a0.length : Int)))) S trivial (by decide) (q_lss rfl rfl) (fun a S => ?_)
          refine lx_nil ?_
          refine thenN ?_
          refine cond_b S rfl (fun hc68 => ?_) (fun hc68 => ?_)
          · have hm := ite_t hc68 hm
            refine wp_skip ?_
            refine thenN ?_
            refine wp_seq ?_
            refine wp_block ?_
            refine wp_seq ?_
            refine region_plain ?_
            refine lx_q p0 S trivial (by decide) (q_move rfl) (fun a S => ?_)
            refine lx_q (.int .i64 x36) S trivial (by decide) (q_move rfl) (fun a S => ?_)
            obtain ⟨x69, e70, hm⟩ := bind_some hm
            obtain ⟨c71, h72, hat73⟩ := (h0).elem (idx_some e70).2
            obtain ⟨c76, c77, rfl, h78, h79⟩ := h72
            obtain rfl := h78
            obtain ⟨c80, c81, rfl, h82, h83⟩ := h79
            obtain rfl := h82
            obtain ⟨v74, rfl, h75⟩ := rd_list h83
            have hlt := lt_of_idx (idx_some e70).2
            refine lx_q (ePtr p0 (x36.toNat * 3)) S trivial (by decide) (q_indexAddr rfl (h0).isSl rfl (idx_some e70).1 hlt Try.underlying25 Try.sizeOf58) (fun a S => ?_)
            refine lx_q (pAdd (ePtr p0 (x36.toNat * 3)) 2) S trivial (by decide) (q_fieldAddr' 2 29 rfl ((hat73 0 _ rfl).isP) Try.underlying58 rfl Try.sizeOf29) (fun a S => ?_)
            refine lx_e v74 S trivial (by decide) rfl trivial (q_load1 rfl Try.isAgg29 (by rintro _ rfl; exact (At.of_add (m := 2) (j := 0) ((hat73 2 _ rfl).ext H.ext)))) (fun a S => ?_)
            refine lx_q p0 S trivial (by decide) (q_move rfl) (fun a S => ?_)
            refine lx_q (.int .i64 (a0.length : Int)) S trivial (by decide) (q_lenSl rfl (h0).isSl rfl Try.underlying25) (fun a S => ?_)
            refine lx_q (.int .i64 (W ((a0.length : Int) - (1 : Int)))) S trivial (by decide) (q_sub rfl rfl) (fun a S => ?_)
            obtain ⟨x86, e87, hm⟩ := bind_some hm
            refine lx_call (xs := [.tmp 27, .const (.int .i64 (0)), .tmp 30]) S trivial (by decide) rfl rfl Try.call69 ((spec_l00Rises_ok (H.arg h75)   e87).mono ?_)
            rintro e w84 ⟨rfl, Hc85⟩
            have he88 := Hc85.ext
            have H := H.call0 Hc85
            refine ⟨_, rfl, trivial, fun a S => ?_⟩
            refine lx_q (.bool (!x86)) S trivial (by decide) (q_not rfl) (fun a S => ?_)
            refine lx_nil ?_
            refine thenN ?_
            refine cond_b S rfl (fun hc89 => ?_) (fun hc89 => ?_)
            · have hm := ite_t hc89 hm
              refine wp_seq ?_
              refine region_plain ?_
              refine lx_q (.bool false) S trivial (by decide) (q_assign rfl) (fun a S => ?_)
              refine lx_nil ?_
              refine thenN ?_
              refine wp_ret ?_
              refine inBlock_ret ?_
              refine then_ret ?_
              refine then_ret ?_
              refine inBlock_ret ?_
              refine then_ret ?_
              refine then_ret ?_
              obtain rfl := it_brk hm hc67
              have hm := ctl_inr hk64
              obtain rfl := Option.some.inj hm
              exact leave1 S rfl rfl ⟨rfl, H⟩
            · have hm := ite_f hc89 hm
              refine wp_skip ?_
              refine inBlock_norm ?_
              refine thenN ?_
              refine region_plain ?_
              refine lx_q (.int .i64 x36) S trivial (by decide) (q_move rfl) (fun a S => ?_)
              refine lx_q (.int .i64 (W (x36 + (1 : Int)))) S trivial (by decide) (q_add rfl rfl) (fun a S => ?_)
              refine lx_q (.int .i64 (W (x36 + (1 : Int)))) S trivial (by decide) (q_assign rfl) (fun a S => ?_)
              refine lx_nil ?_
              exact ⟨m65, Nat.lt_succ_self _, (W (x36 + (1 : Int))), S.sub ⟨rfl, rfl, trivial⟩, H, it_cont hm hc67⟩
          · have hm := ite_f hc68 hm
            refine wp_exit ?_
            refine then_exit ?_
            refine then_exit ?_
            refine inBlock_exit ?_
            obtain rfl := it_brk hm hc67
            exact ⟨S.sub trivial, H, rfl⟩

/-- spec.ValidEquations -/
def spec_ValidEquations_m (fuel : Nat) (a0 : (List T58)) : Option (Bool) :=
  (spec_l22Is_m fuel a0).bind fun x3 => some (x3)
set_option maxRecDepth 20000 in
theorem spec_ValidEquations_ok {w0 : World} {fuel : Nat} {p0 : Value} {a0 : (List T58)} {r : Bool} (h0 : Rd (rList R58) w0 p0 a0) (hm : spec_ValidEquations_m fuel a0 = some r) :
    Calls Try.prog 10 #[p0] w0 fun e w => e = .returned (.bool r) ∧ Heap w0 [] w := by
  unfold spec_ValidEquations_m at hm
  have H := Heap.start w0
  refine enter (args := [p0]) Try.func10 rfl 5 rfl (Nat.le_of_ble_eq_true rfl) (fun a S => ?_)
  refine wp_seq ?_
  refine region_plain ?_
  refine lx_q (.bool false) S trivial (by decide) (q_assign rfl) (fun a S => ?_)
  refine lx_nil ?_
  refine thenN ?_
  refine wp_seq ?_
  refine region_plain ?_
  refine lx_q p0 S trivial (by decide) (q_move rfl) (fun a S => ?_)
  obtain ⟨x3, e4, hm⟩ := bind_some hm
  refine lx_call (xs := [.tmp 3]) S trivial (by decide) rfl rfl Try.call38 ((spec_l22Is_ok (H.arg h0) e4).mono ?_)
  rintro e w1 ⟨rfl, Hc2⟩
  have he5 := Hc2.ext
  have H := H.call0 Hc2
  refine ⟨_, rfl, trivial, fun a S => ?_⟩
  refine lx_q (.bool x3) S trivial (by decide) (q_assign rfl) (fun a S => ?_)
  refine lx_nil ?_
  refine thenN ?_
  refine wp_ret ?_
  obtain rfl := Option.some.inj hm
  exact leave1 S rfl rfl ⟨rfl, H⟩

/-- impl.within -/
def impl_within_m (fuel : Nat) (a0 : Int) (a1 : Int) (a2 : Int) : Option (Bool) :=
  (if (decide (a1 ≤ a0)) = true then some (decide (a0 ≤ a2)) else some false).bind fun t1 => some (t1)
set_option maxRecDepth 20000 in
theorem impl_within_ok {w0 : World} {fuel : Nat} {a0 : Int} {a1 : Int} {a2 : Int} {r : Bool} (hm : impl_within_m fuel a0 a1 a2 = some r) :
    Calls Try.prog 40 #[.int .i64 a0, .int .i64 a1, .int .i64 a2] w0 fun e w => e = .returned (.bool r) ∧ Heap w0 [] w := by
  unfold impl_within_m at hm
  have H := Heap.start w0
  refine enter (args := [.int .i64 a0, .int .i64 a1, .int .i64 a2]) Try.func40 rfl 15 rfl (Nat.le_of_ble_eq_true rfl) (fun a S => ?_)
  refine wp_seq ?_
  refine region_plain ?_
  refine lx_q (.bool false) S trivial (by decide) (q_assign rfl) (fun a S => ?_)
  refine lx_nil ?_
  refine thenN ?_
  refine wp_seq ?_
  refine region_plain ?_
  refine lx_q (.int .i64 a0) S trivial (by decide) (q_move rfl) (fun a S => ?_)
  refine lx_q (.int .i64 a1) S trivial (by decide) (q_move rfl) (fun a S => ?_)
  refine lx_q (.bool (decide (a1 ≤ a0))) S trivial (by decide) (q_geq rfl rfl) (fun a S => ?_)
  refine lx_q (.bool (decide (a1 ≤ a0))) S trivial (by decide) (q_move rfl) (fun a S => ?_)
  obtain ⟨t1, e2, hm⟩ := bind_some hm
  refine lx_cut 4 (fun a w => Slots a 15 [(14, (.bool t1))] ∧ Heap w0 [] w) ?_ ?_
  · by_cases hc3 : (decide (a1 ≤ a0)) = true
    · have hm := ite_t hc3 e2
      refine lx_q (.int .i64 a0) S (want_b rfl rfl hc3) (by decide) (q_move rfl) (fun a S => ?_)
      refine lx_q (.int .i64 a2) S (want_b rfl rfl hc3) (by decide) (q_move rfl) (fun a S => ?_)
      refine lx_q (.bool (decide (a0 ≤ a2))) S (want_b rfl rfl hc3) (by decide) (q_leq rfl rfl) (fun a S => ?_)
      refine lx_q (.bool (decide (a0 ≤ a2))) S trivial (by decide) (q_pickT' rfl hc3 rfl) (fun a S => ?_)
      refine lx_nil ?_
      obtain rfl := Option.some.inj hm
      exact ⟨S.sub ⟨rfl, trivial⟩, H⟩
    · have hm := ite_f (eq_false_of_ne_true hc3) e2
      have hc3 : (decide (a1 ≤ a0)) = false := eq_false_of_ne_true hc3
      refine lx_skip S rfl rfl (isB_ne hc3) (by decide) (fun a S => ?_)
      refine lx_skip S rfl rfl (isB_ne hc3) (by decide) (fun a S => ?_)
      refine lx_skip S rfl rfl (isB_ne hc3) (by decide) (fun a S => ?_)
      refine lx_q (.bool false) S trivial (by decide) (q_pickF' rfl hc3 rfl) (fun a S => ?_)
      refine lx_nil ?_
      obtain rfl := Option.some.inj hm
      exact ⟨S.sub ⟨rfl, trivial⟩, H⟩
  · rintro a w ⟨S, H⟩
    refine lx_q (.bool t1) S trivial (by decide) (q_assign rfl) (fun a S => ?_)
    refine lx_nil ?_
    refine thenN ?_
    refine wp_ret ?_
    obtain rfl := Option.some.inj hm
    exact leave1 S rfl rfl ⟨rfl, H⟩

/-- impl.equationBlocks -/
def impl_equationBlocks_m (fuel : Nat) (a0 : (List T58)) : Option ((List Int)) :=
  (iter (fun (s : (List Int) × (Int) × (Int)) => (match s with | (xs60, x62, x63) => (if (decide (x63 < (a0.length : Int))) = true then (idx a0 x63).bind fun x134 => join (κ := Int → Option (((List Int) × (Int) × (Int)) ⊕ (((List Int)) ⊕ ((List Int))))) (fun (x153 : Int) => (app xs60 [x153]).bind fun x159 => some (.inl (x159, x153, (W (x63 + (1 : Int)))))) (fun K154 => (if (decide ((0 : Int) < x63)) = true then (idx a0 (W (x63 - (1 : Int)))).bind fun x169 => some (x134.1 != x169.1) else some false).bind fun t166 => (if t166 = true then (K154 (W (x62 + (1 : Int)))) else (K154 x62))) else some (.inr (.inl (xs60)))) : Option (((List Int) × (Int) × (Int)) ⊕ (((List Int)) ⊕ ((List Int)))))) fuel ([], (0 : Int), (0 : Int))).bind fun res124 => ctl (β := (List Int)) (ρ := (List Int)) (τ := (List Int)) res124 (fun (xs122) => some (xs122)) (fun q => some (q))
set_option maxRecDepth 20000 in
theorem impl_equationBlocks_ok {w0 : World} {fuel : Nat} {p0 : Value} {a0 : (List T58)} {r : (List Int)} (h0 : Rd (rList R58) w0 p0 a0) (hm : impl_equationBlocks_m fuel a0 = some r) :
    Calls Try.prog 47 #[p0] w0 fun e w => ∃ (v0 : Value), e = .returned (v0) ∧ Heap w0 [oA (rList (rInt .i64)) v0 r] w := by
  unfold impl_equationBlocks_m at hm
  have H := Heap.start w0
  refine enter (args := [p0]) Try.func47 rfl 35 rfl (Nat.le_of_ble_eq_true rfl) (fun a S => ?_)
  refine wp_seq ?_
  refine region_plain ?_
  refine lx_q (.slice none 0 0) S trivial (by decide) (q_assign rfl) (fun a S => ?_)
  refine lx_nil ?_
  refine thenN ?_
  refine wp_seq ?_
  refine region_plain ?_
  refine lx_q (.slice none 0 0) S trivial (by decide) (q_assign rfl) (fun a S => ?_)
  refine lx_nil ?_
  refine thenN ?_
  refine wp_seq ?_
  refine region_plain ?_
  refine lx_q (.int .i64 (0 : Int)) S trivial (by decide) (q_assign rfl) (fun a S => ?_)
  refine lx_nil ?_
  refine thenN ?_
  refine wp_seq ?_
  refine wp_seq ?_
  refine region_plain ?_
  refine lx_q p0 S trivial (by decide) (q_move rfl) (fun a S => ?_)
  refine lx_q (.int .i64 (a0.length : Int)) S trivial (by decide) (q_lenSl rfl (h0).isSl rfl Try.underlying25) (fun a S => ?_)
  refine lx_q (.int .i64 (0 : Int)) S trivial (by decide) (q_move rfl) (fun a S => ?_)
  refine lx_nil ?_
  refine thenN ?_
  obtain ⟨res124, hit125, hk128⟩ := bind_some hm
  obtain ⟨f126, hf127, hit125⟩ := iter_name hit125
  refine block_loop (fun a w => ∃ (xs122 : List Int) (v121 : Value), Slots a 35 [(3, v121)] ∧ Heap w0 [oA (rList (rInt .i64)) v121 xs122] w ∧ res124 = .inl (xs122)) ?_ ?_
  · rintro a w ⟨xs122, v121, S, H, rfl⟩
    have hm := ctl_inl hk128
    refine thenN ?_
    refine wp_seq ?_
    refine region_plain ?_
    refine lx_q v121 S trivial (by decide) (q_move rfl) (fun a S => ?_)
    refine lx_q v121 S trivial (by decide) (q_assign rfl) (fun a S => ?_)
    refine lx_nil ?_
    refine thenN ?_
    refine wp_ret ?_
    obtain rfl := Option.some.inj hm
    exact leave1 S rfl rfl ⟨v121, rfl, H⟩
  · skip
    have H : Heap w0 [oA (rList (rInt .i64)) (.slice none 0 0) ([] : List Int)] w0 := H.nilList (rInt .i64)
    refine loop_ghost (fun n a w => ∃ (xs60 : List Int) (x62 : Int) (x63 : Int) (v59 : Value), Slots a 35 [(0, p0), (3, v59), (4, (.int .i64 x62)), (7, p0), (8, (.int .i64 (a0.length : Int))), (9, (.int .i64 x63))] ∧ Heap w0 [oA (rList (rInt .i64)) v59 xs60] w ∧ iter f126 n (xs60, x62, x63) = some res124) _ ⟨[], (0 : Int), (0 : Int), (.slice none 0 0), S.sub ⟨rfl, rfl, rfl, rfl, rfl, rfl, trivial⟩, H, hit125⟩ ?_
    rintro n a w ⟨xs60, x62, x63, v59, S, H, hit125⟩
    obtain ⟨m130, o131, rfl, hm, hc132⟩ := iter_step hit125
    rw [hf127] at hm
    refine wp_seq ?_
    refine region_plain ?_
    refine lx_q (.bool (decide (x63 < (a0.length : Int)))) S trivial (by decide) (q_lss rfl rfl) (fun a S => ?_)
    refine lx_nil ?_
    refine thenN ?_
    refine wp_seq ?_
    refine cond_b S rfl (fun hc133 => ?_) (fun hc133 => ?_)
    · have hm := ite_t hc133 hm
      refine wp_skip ?_
      refine thenN ?_
      refine wp_seq ?_
      refine wp_block ?_
      refine wp_seq ?_
      refine region_plain ?_
      refine lx_q (.int .i64 x63) S trivial (by decide) (q_move rfl) (fun a S => ?_)
      obtain ⟨x134, e135, hm⟩ := bind_some hm
      obtain ⟨c136, h137, hat138⟩ := (h0).elem (idx_some e135).2
      obtain ⟨c141, c142, rfl, h143, h144⟩ := h137
      obtain rfl := h143
      obtain ⟨c145, c146, rfl, h147, h148⟩ := h144
      obtain rfl := h147
      obtain ⟨v139, rfl, h140⟩ := rd_list h148
      have hlt := lt_of_idx (idx_some e135).2
      refine lx_q (ePtr p0 (x63.toNat * 3)) S trivial (by decide) (q_indexAddr rfl (h0).isSl rfl (idx_some e135).1 hlt Try.underlying25 Try.sizeOf58) (fun a S => ?_)
      refine lx_e (.agg #[(.bool x134.1), (.bool x134.2.1), v139]) S trivial (by decide) rfl trivial (q_loadA (cs := [(.bool x134.1), (.bool x134.2.1), v139]) rfl ((hat138 0 _ rfl).isP) Try.isAgg58 Try.sizeOf58 (by rintro _ rfl; exact (fun j u hu => (hat138 j u hu).ext H.ext))) (fun a S => ?_)
      refine lx_alloc S trivial (by decide) rfl H Try.zeroValue58 rfl (fun b149 w150 H => ⟨trivial, fun a S => ?_⟩)
      refine lx_q (.int .i64 x63) S trivial (by decide) (q_assign rfl) (fun a S => ?_)
      refine lx_storeBox (o := 0) (i := 0) (us := [(.bool x134.1), (.bool x134.2.1), v139]) (cs' := [(.bool x134.1), (.bool x134.2.1), v139]) S trivial rfl H rfl rfl rfl rfl Try.sizeOf58 (Nat.le_of_ble_eq_true rfl) (List.forall_mem_cons.2 ⟨rfl, (List.forall_mem_cons.2 ⟨rfl, (List.forall_mem_cons.2 ⟨one_sl (h140).isSl, (fun _ h => nomatch h)⟩)⟩)⟩) rfl (fun w152 H => ⟨trivial, fun a S => ?_⟩)
      change Heap w0 [bA b149 [(.bool x134.1), (.bool x134.2.1), v139] 58, oA (rList (rInt .i64)) v59 xs60] w152 at H
      refine lx_nil ?_
      refine thenN ?_
      obtain ⟨K154, hK155, hm⟩ := join_elim hm
      refine seq_cut (fun a w => ∃ (x153 : Int), Slots a 35 [(0, p0), (3, v59), (4, (.int .i64 x153)), (7, p0), (8, (.int .i64 (a0.length : Int))), (9, (.int .i64 x63))] ∧ Heap w0 [oA (rList (rInt .i64)) v59 xs60] w ∧ K154 x153 = some o131) ?_ ?_
      · rintro a w ⟨x153, S, H, hm⟩
        subst hK155
        refine region_plain ?_
        refine lx_q v59 S trivial (by decide) (q_move rfl) (fun a S => ?_)
        refine lx_q (.int .i64 x153) S trivial (by decide) (q_move rfl) (fun a S => ?_)
        refine lx_buildSlice (r := (rInt .i64)) (xs := [x153]) (ps := [(0, [(.int .i64 x153)])]) (cs := [(.int .i64 x153)]) (parts := [(0, .tmp 30)]) S trivial (by decide) rfl (H.put0 (A := eA) rfl) rfl Try.underlying29 Try.sizeOf2 Try.zeroValue2 (by decide) ⟨rfl, rfl, Nat.le_of_ble_eq_true rfl, trivial⟩ (by intro zs hz; exact fill_dense hz ⟨rfl, trivial⟩ rfl rfl) rfl (by decide) (fun w F hA => by cases (show F = [] from hA); exact ⟨_, _, [(.int .i64 x153)], _, rfl, rfl, ⟨rfl, rfl⟩, ⟨rfl, rfl⟩⟩) (fun v156 w157 H => ⟨trivial, fun a S => ?_⟩)
        obtain ⟨x159, e160, hm⟩ := bind_some hm
        obtain ⟨hle, rfl⟩ := app_some e160
        have H : Heap w0 [oA (rList (rInt .i64)) v156 [x153], oA (rList (rInt .i64)) v59 xs60] w157 := H.front 0 rfl
        have H : Heap w0 [oA (rList (rInt .i64)) v59 xs60, oA (rList (rInt .i64)) v156 [x153]] w157 := H.front 1 rfl
        refine lx_appendOwn (r := (rInt .i64)) S trivial (by decide) rfl H rfl rfl Try.underlying29 Try.ti2 rfl rfl rfl (by decide) (by decide) hle (fun v161 w162 H => ⟨trivial, fun a S => ?_⟩)
        refine lx_q v161 S trivial (by decide) (q_assign rfl) (fun a S => ?_)
        refine lx_nil ?_
        refine inBlock_norm ?_
        refine thenN ?_
        refine region_plain ?_
        refine lx_q (.int .i64 (W (x63 + (1 : Int)))) S trivial (by decide) (q_add rfl rfl) (fun a S => ?_)
        refine lx_q (.int .i64 (W (x63 + (1 : Int)))) S trivial (by decide) (q_move rfl) (fun a S => ?_)
        refine lx_nil ?_
        exact ⟨m130, Nat.lt_succ_self _, (xs60 ++ [x153]), x153, (W (x63 + (1 : Int))), v161, S.sub ⟨rfl, rfl, rfl, rfl, rfl, rfl, trivial⟩, H, it_cont hm hc132⟩
      · skip
        refine wp_seq ?_
        refine region_drawG (fun w1 => Heap w0 [bA b149 [(.bool x134.1), (.bool x134.2.1), v139] 58] w1) (fun i => [].contains i) mixed (by kernel_rfl) (fun w165 he164 => ?_)
        have H := H.later he164
        refine ⟨H.sel [0] (by decide), ?_⟩
        refine lx_q (.int .i64 x63) S trivial (by decide) (q_move rfl) (fun a S => ?_)
        refine lx_q (.bool (decide ((0 : Int) < x63))) S trivial (by decide) (q_gtr rfl rfl) (fun a S => ?_)
        refine lx_q (.bool (decide ((0 : Int) < x63))) S trivial (by decide) (q_move rfl) (fun a S => ?_)
        obtain ⟨t166, e167, hm⟩ := bind_some hm
        refine lx_cut 10 (fun a w => Slots a 35 [(0, p0), (3, v59), (4, (.int .i64 x62)), (7, p0), (8, (.int .i64 (a0.length : Int))), (9, (.int .i64 x63)), (26, (.bool t166))] ∧ Heap w0 [oA (rList (rInt .i64)) v59 xs60] w) ?_ ?_
        · by_cases hc168 : (decide ((0 : Int) < x63)) = true
          · have hm := ite_t hc168 e167
            refine lx_q (pAdd (bp b149) 0) S (want_b rfl rfl hc168) (by decide) (q_fieldAddr' 0 4 rfl (isP_bp _) Try.underlying58 rfl Try.sizeOf4) (fun a S => ?_)
            refine lx_q (.bool x134.1) S (want_b rfl rfl hc168) (by decide) (q_load1 rfl Try.isAgg4 (fun w1 hC => (At.of_add (m := 0) (j := 0) (boxAt (i := 0) hC rfl (j := 0) rfl)))) (fun a S => ?_)
            refine lx_q p0 S (want_b rfl rfl hc168) (by decide) (q_move rfl) (fun a S => ?_)
            refine lx_q (.int .i64 x63) S (want_b rfl rfl hc168) (by decide) (q_move rfl) (fun a S => ?_)
            refine lx_q (.int .i64 (W (x63 - (1 : Int)))) S (want_b rfl rfl hc168) (by decide) (q_sub rfl rfl) (fun a S => ?_)
            obtain ⟨x169, e170, hm⟩ := bind_some hm
            obtain ⟨c171, h172, hat173⟩ := (h0).elem (idx_some e170).2
            obtain ⟨c176, c177, rfl, h178, h179⟩ := h172
            obtain rfl := h178
            obtain ⟨c180, c181, rfl, h182, h183⟩ := h179
            obtain rfl := h182
            obtain ⟨v174, rfl, h175⟩ := rd_list h183
            have hlt := lt_of_idx (idx_some e170).2
            refine lx_q (ePtr p0 ((W (x63 - (1 : Int))).toNat * 3)) S (want_b rfl rfl hc168) (by decide) (q_indexAddr rfl (h0).isSl rfl (idx_some e170).1 hlt Try.underlying25 Try.sizeOf58) (fun a S => ?_)
            refine lx_q (pAdd (ePtr p0 ((W (x63 - (1 : Int))).toNat * 3)) 0) S (want_b rfl rfl hc168) (by decide) (q_fieldAddr' 0 4 rfl ((hat173 0 _ rfl).isP) Try.underlying58 rfl Try.sizeOf4) (fun a S => ?_)
            refine lx_q (.bool x169.1) S (want_b rfl rfl hc168) (by decide) (q_load1 rfl Try.isAgg4 (fun w1 hC => (At.of_add (m := 0) (j := 0) ((hat173 0 _ rfl).ext hC.ext)))) (fun a S => ?_)
            refine lx_q (.bool (x134.1 != x169.1)) S (want_b rfl rfl hc168) (by decide) (q_bneq rfl rfl Try.underlying4) (fun a S => ?_)
            refine lx_q (.bool (x134.1 != x169.1)) S trivial (by decide) (q_pickT' rfl hc168 rfl) (fun a S => ?_)
            refine lx_nil ?_
            obtain rfl := Option.some.inj hm
            have H := H.sel [1] (by decide)
            exact ⟨S.sub ⟨rfl, rfl, rfl, rfl, rfl, rfl, rfl, trivial⟩, H⟩
          · have hm := ite_f (eq_false_of_ne_true hc168) e167
            have hc168 : (decide ((0 : Int) < x63)) = false := eq_false_of_ne_true hc168
            refine lx_skip S rfl rfl (isB_ne hc168) (by decide) (fun a S => ?_)
            refine lx_skip S rfl rfl (isB_ne hc168) (by decide) (fun a S => ?_)
            refine lx_skip S rfl rfl (isB_ne hc168) (by decide) (fun a S => ?_)
            refine lx_skip S rfl rfl (isB_ne hc168) (by decide) (fun a S => ?_)
            refine lx_skip S rfl rfl (isB_ne hc168) (by decide) (fun a S => ?_)
            refine lx_skip S rfl rfl (isB_ne hc168) (by decide) (fun a S => ?_)
            refine lx_skip S rfl rfl (isB_ne hc168) (by decide) (fun a S => ?_)
            refine lx_skip S rfl rfl (isB_ne hc168) (by decide) (fun a S => ?_)
            refine lx_skip S rfl rfl (isB_ne hc168) (by decide) (fun a S => ?_)
            refine lx_q (.bool false) S trivial (by decide) (q_pickF' rfl hc168 rfl) (fun a S => ?_)
            refine lx_nil ?_
            obtain rfl := Option.some.inj hm
            have H := H.sel [1] (by decide)
            exact ⟨S.sub ⟨rfl, rfl, rfl, rfl, rfl, rfl, rfl, trivial⟩, H⟩
        · rintro a w ⟨S, H⟩
          refine lx_nil ?_
          refine thenN ?_
          refine cond_b S rfl (fun hc184 => ?_) (fun hc184 => ?_)
          · have hm := ite_t hc184 hm
            refine region_plain ?_
            refine lx_q (.int .i64 x62) S trivial (by decide) (q_move rfl) (fun a S => ?_)
            refine lx_q (.int .i64 (W (x62 + (1 : Int)))) S trivial (by decide) (q_add rfl rfl) (fun a S => ?_)
            refine lx_q (.int .i64 (W (x62 + (1 : Int)))) S trivial (by decide) (q_assign rfl) (fun a S => ?_)
            refine lx_nil ?_
            exact ⟨(W (x62 + (1 : Int))), S.sub ⟨rfl, rfl, rfl, rfl, rfl, rfl, trivial⟩, H, hm⟩
          · have hm := ite_f hc184 hm
            refine wp_skip ?_
            exact ⟨x62, S.sub ⟨rfl, rfl, rfl, rfl, rfl, rfl, trivial⟩, H, hm⟩
    · have hm := ite_f hc133 hm
      refine wp_exit ?_
      refine then_exit ?_
      refine then_exit ?_
      refine inBlock_exit ?_
      obtain rfl := it_brk hm hc132
      exact ⟨xs60, v59, S.sub ⟨rfl, trivial⟩, H, rfl⟩

/-- impl.last[int64] -/
def impl_last_int64_m (fuel : Nat) (a0 : (List Int)) : Option (Int) :=
  (idx a0 (W ((a0.length : Int) - (1 : Int)))).bind fun x1 => some (x1)
set_option maxRecDepth 20000 in
theorem impl_last_int64_ok {w0 : World} {fuel : Nat} {p0 : Value} {a0 : (List Int)} {r : Int} (h0 : Rd (rList (rInt .i64)) w0 p0 a0) (hm : impl_last_int64_m fuel a0 = some r) :
    Calls Try.prog 70 #[p0] w0 fun e w => e = .returned (.int .i64 r) ∧ Heap w0 [] w := by
  unfold impl_last_int64_m at hm
  have H := Heap.start w0
  refine enter (args := [p0]) Try.func70 rfl 9 rfl (Nat.le_of_ble_eq_true rfl) (fun a S => ?_)
  refine wp_seq ?_
  refine region_plain ?_
  refine lx_q (.int .i64 (0 : Int)) S trivial (by decide) (q_assign rfl) (fun a S => ?_)
  refine lx_nil ?_
  refine thenN ?_
  refine wp_seq ?_
  refine region_plain ?_
  refine lx_q p0 S trivial (by decide) (q_move rfl) (fun a S => ?_)
  refine lx_q p0 S trivial (by decide) (q_move rfl) (fun a S => ?_)
  refine lx_q (.int .i64 (a0.length : Int)) S trivial (by decide) (q_lenSl rfl (h0).isSl rfl Try.underlying29) (fun a S => ?_)
  refine lx_q (.int .i64 (W ((a0.length : Int) - (1 : Int)))) S trivial (by decide) (q_sub rfl rfl) (fun a S => ?_)
  obtain ⟨x1, e2, hm⟩ := bind_some hm
  obtain ⟨c3, h4, hat5⟩ := (h0).elem (idx_some e2).2
  obtain rfl := h4
  have hlt := lt_of_idx (idx_some e2).2
  refine lx_q (ePtr p0 ((W ((a0.length : Int) - (1 : Int))).toNat * 1)) S trivial (by decide) (q_indexAddr rfl (h0).isSl rfl (idx_some e2).1 hlt Try.underlying29 Try.sizeOf2) (fun a S => ?_)
  refine lx_e (.int .i64 x1) S trivial (by decide) rfl trivial (q_load1 rfl Try.isAgg2 (by rintro _ rfl; exact ((hat5 0 _ rfl).ext H.ext))) (fun a S => ?_)
  refine lx_q (.int .i64 x1) S trivial (by decide) (q_assign rfl) (fun a S => ?_)
  refine lx_nil ?_
  refine thenN ?_
  refine wp_ret ?_
  obtain rfl := Option.some.inj hm
  exact leave1 S rfl rfl ⟨rfl, H⟩

/-- impl.blocksFit -/
def impl_blocksFit_m (fuel : Nat) (a0 : (List T58)) : Option (Bool) :=
  (impl_equationBlocks_m fuel a0).bind fun x3 => (impl_last_int64_m fuel x3).bind fun x10 => some ((decide (x10 < (9 : Int))))
set_option maxRecDepth 20000 in
theorem impl_blocksFit_ok {w0 : World} {fuel : Nat} {p0 : Value} {a0 : (List T58)} {r : Bool} (h0 : Rd (rList R58) w0 p0 a0) (hm : impl_blocksFit_m fuel a0 = some r) :
    Calls Try.prog 41 #[p0] w0 fun e w => e = .returned (.bool r) ∧ Heap w0 [] w := by
  unfold impl_blocksFit_m at hm
  have H := Heap.start w0
  refine enter (args := [p0]) Try.func41 rfl 7 rfl (Nat.le_of_ble_eq_true rfl) (fun a S => ?_)
  refine wp_seq ?_
  refine region_plain ?_
  refine lx_q (.bool false) S trivial (by decide) (q_assign rfl) (fun a S => ?_)
  refine lx_nil ?_
  refine thenN ?_
  refine wp_seq ?_
  refine region_plain ?_
  refine lx_q p0 S trivial (by decide) (q_move rfl) (fun a S => ?_)
  obtain ⟨x3, e4, hm⟩ := bind_some hm
  refine lx_call (xs := [.tmp 3]) S trivial (by decide) rfl rfl Try.call47 ((impl_equationBlocks_ok (H.arg h0) e4).mono ?_)
  rintro e w1 ⟨v5, rfl, Hc2⟩
  have he7 := Hc2.ext
  have H := H.call1 Hc2
  refine ⟨_, rfl, trivial, fun a S => ?_⟩
  obtain ⟨x10, e11, hm⟩ := bind_some hm
  refine lx_call (xs := [.tmp 4]) S trivial (by decide) rfl rfl Try.call70 ((impl_last_int64_ok (H.rdAt 0 rfl) e11).mono ?_)
  rintro e w8 ⟨rfl, Hc9⟩
  have he12 := Hc9.ext
  have H := H.call0 Hc9
  refine ⟨_, rfl, trivial, fun a S => ?_⟩
  refine lx_q (.bool (decide (x10 < (9 : Int)))) S trivial (by decide) (q_lss rfl rfl) (fun a S => ?_)
  refine lx_q (.bool (decide (x10 < (9 : Int)))) S trivial (by decide) (q_assign rfl) (fun a S => ?_)
  refine lx_nil ?_
  refine thenN ?_
  refine wp_ret ?_
  obtain rfl := Option.some.inj hm
  have H : Heap w0 [] w8 := H.sel [] (by decide)
  exact leave1 S rfl rfl ⟨rfl, H⟩

/-- impl.index -/
def impl_index_m (fuel : Nat) (a0 : Int) (a1 : Int) : Option (Bool) :=
  (impl_within_m fuel a0 (0 : Int) (W (a1 - (1 : Int)))).bind fun x3 => some (x3)
set_option maxRecDepth 20000 in
theorem impl_index_ok {w0 : World} {fuel : Nat} {a0 : Int} {a1 : Int} {r : Bool} (hm : impl_index_m fuel a0 a1 = some r) :
    Calls Try.prog 64 #[.int .i64 a0, .int .i64 a1] w0 fun e w => e = .returned (.bool r) ∧ Heap w0 [] w := by
  unfold impl_index_m at hm
  have H := Heap.start w0
  refine enter (args := [.int .i64 a0, .int .i64 a1]) Try.func64 rfl 9 rfl (Nat.le_of_ble_eq_true rfl) (fun a S => ?_)
  refine wp_seq ?_
  refine region_plain ?_
  refine lx_q (.bool false) S trivial (by decide) (q_assign rfl) (fun a S => ?_)
  refine lx_nil ?_
  refine thenN ?_
  refine wp_seq ?_
  refine region_plain ?_
  refine lx_q (.int .i64 a0) S trivial (by decide) (q_move rfl) (fun a S => ?_)
  refine lx_q (.int .i64 a1) S trivial (by decide) (q_move rfl) (fun a S => ?_)
  refine lx_q (.int .i64 (W (a1 - (1 : Int)))) S trivial (by decide) (q_sub rfl rfl) (fun a S => ?_)
  obtain ⟨x3, e4, hm⟩ := bind_some hm
  refine lx_call (xs := [.tmp 5, .const (.int .i64 (0)), .tmp 7]) S trivial (by decide) rfl rfl Try.call40 ((impl_within_ok    e4).mono ?_)
  rintro e w1 ⟨rfl, Hc2⟩
  have he5 := Hc2.ext
  have H := H.call0 Hc2
  refine ⟨_, rfl, trivial, fun a S => ?_⟩
  refine lx_q (.bool x3) S trivial (by decide) (q_assign rfl) (fun a S => ?_)
  refine lx_nil ?_
  refine thenN ?_
  refine wp_ret ?_
  obtain rfl := Option.some.inj hm
  exact leave1 S rfl rfl ⟨rfl, H⟩

/-- impl.increasing -/
def impl_increasing_m (fuel : Nat) (a0 : (List Int)) (a1 : Int) : Option (Bool) :=
  (iter (fun (s : (Int)) => (match s with | (x25) => (if (decide (x25 < (a0.length : Int))) = true then (idx a0 x25).bind fun x59 => (impl_index_m fuel x59 a1).bind fun x66 => (if (!x66) = true then some true else (if (decide ((0 : Int) < x25)) = true then (idx a0 (W (x25 - (1 : Int)))).bind fun x75 => some (decide (x59 ≤ x75)) else some false).bind fun t72 => some t72).bind fun t69 => (if t69 = true then some (.inr (.inr false)) else some (.inl ((W (x25 + (1 : Int)))))) else some (.inr (.inl ()))) : Option (((Int)) ⊕ ((Unit) ⊕ (Bool))))) fuel ((0 : Int))).bind fun res50 => ctl (β := Unit) (ρ := Bool) (τ := Bool) res50 (fun _ => some (true)) (fun q => some (q))
set_option maxRecDepth 20000 in
theorem impl_increasing_ok {w0 : World} {fuel : Nat} {p0 : Value} {a0 : (List Int)} {a1 : Int} {r : Bool} (h0 : Rd (rList (rInt .i64)) w0 p0 a0) (hm : impl_increasing_m fuel a0 a1 = some r) :
    Calls Try.prog 44 #[p0, .int .i64 a1] w0 fun e w => e = .returned (.bool r) ∧ Heap w0 [] w := by
  unfold impl_increasing_m at hm
  have H := Heap.start w0
  refine enter (args := [p0, .int .i64 a1]) Try.func44 rfl 32 rfl (Nat.le_of_ble_eq_true rfl) (fun a S => ?_)
  refine wp_seq ?_
  refine region_plain ?_
  refine lx_q (.bool false) S trivial (by decide) (q_assign rfl) (fun a S => ?_)
  refine lx_nil ?_
  refine thenN ?_
  refine wp_seq ?_
  refine wp_seq ?_
  refine region_plain ?_
  refine lx_q p0 S trivial (by decide) (q_move rfl) (fun a S => ?_)
  refine lx_q (.int .i64 (a0.length : Int)) S trivial (by decide) (q_lenSl rfl (h0).isSl rfl Try.underlying29) (fun a S => ?_)
  refine lx_q (.int .i64 (0 : Int)) S trivial (by decide) (q_move rfl) (fun a S => ?_)
  refine lx_nil ?_
  refine thenN ?_
  obtain ⟨res50, hit51, hk54⟩ := bind_some hm
  obtain ⟨f52, hf53, hit51⟩ := iter_name hit51
  refine block_loop (fun a w => Slots a 32 [] ∧ Heap w0 [] w ∧ res50 = .inl ()) ?_ ?_
  · rintro a w ⟨S, H, rfl⟩
    have hm := ctl_inl hk54
    refine thenN ?_
    refine wp_seq ?_
    refine region_plain ?_
    refine lx_q (.bool true) S trivial (by decide) (q_assign rfl) (fun a S => ?_)
    refine lx_nil ?_
    refine thenN ?_
    refine wp_ret ?_
    obtain rfl := Option.some.inj hm
    exact leave1 S rfl rfl ⟨rfl, H⟩
  · skip
    refine loop_ghost (fun n a w => ∃ (x25 : Int), Slots a 32 [(0, p0), (1, (.int .i64 a1)), (7, p0), (8, (.int .i64 (a0.length : Int))), (9, (.int .i64 x25))] ∧ Heap w0 [] w ∧ iter f52 n (x25) = some res50) _ ⟨(0 : Int), S.sub ⟨rfl, rfl, rfl, rfl, rfl, trivial⟩, H, hit51⟩ ?_
    rintro n a w ⟨x25, S, H, hit51⟩
    obtain ⟨m55, o56, rfl, hm, hc57⟩ := iter_step hit51
    rw [hf53] at hm
    refine wp_seq ?_
    refine region_plain ?_
    refine lx_q (.bool (decide (x25 < (a0.length : Int)))) S trivial (by decide) (q_lss rfl rfl) (fun a S => ?_)
    refine lx_nil ?_
    refine thenN ?_
    refine wp_seq ?_
    refine cond_b S rfl (fun hc58 => ?_) (fun hc58 => ?_)
    · have hm := ite_t hc58 hm
      refine wp_skip ?_
      refine thenN ?_
      refine wp_seq ?_
      refine wp_block ?_
      refine wp_seq ?_
      refine region_plain ?_
      refine lx_q (.int .i64 x25) S trivial (by decide) (q_move rfl) (fun a S => ?_)
      obtain ⟨x59, e60, hm⟩ := bind_some hm
      obtain ⟨c61, h62, hat63⟩ := (h0).elem (idx_some e60).2
      obtain rfl := h62
      have hlt := lt_of_idx (idx_some e60).2
      refine lx_q (ePtr p0 (x25.toNat * 1)) S trivial (by decide) (q_indexAddr rfl (h0).isSl rfl (idx_some e60).1 hlt Try.underlying29 Try.sizeOf2) (fun a S => ?_)
      refine lx_e (.int .i64 x59) S trivial (by decide) rfl trivial (q_load1 rfl Try.isAgg2 (by rintro _ rfl; exact ((hat63 0 _ rfl).ext H.ext))) (fun a S => ?_)
      refine lx_q (.int .i64 x25) S trivial (by decide) (q_assign rfl) (fun a S => ?_)
      refine lx_q (.int .i64 x59) S trivial (by decide) (q_assign rfl) (fun a S => ?_)
      refine lx_nil ?_
      refine thenN ?_
      refine wp_seq ?_
      refine region_plain ?_
      refine lx_q (.int .i64 x59) S trivial (by decide) (q_move rfl) (fun a S => ?_)
      refine lx_q (.int .i64 a1) S trivial (by decide) (q_move rfl) (fun a S => ?_)
      obtain ⟨x66, e67, hm⟩ := bind_some hm
      refine lx_call (xs := [.tmp 14, .tmp 15]) S trivial (by decide) rfl rfl Try.call64 ((impl_index_ok   e67).mono ?_)
      rintro e w64 ⟨rfl, Hc65⟩
      have he68 := Hc65.ext
      have H := H.call0 Hc65
      refine ⟨_, rfl, trivial, fun a S => ?_⟩
      refine lx_q (.bool (!x66)) S trivial (by decide) (q_not rfl) (fun a S => ?_)
      refine lx_q (.bool (!x66)) S trivial (by decide) (q_move rfl) (fun a S => ?_)
      obtain ⟨t69, e70, hm⟩ := bind_some hm
      refine lx_cut 12 (fun a w => Slots a 32 [(0, p0), (1, (.int .i64 a1)), (7, p0), (8, (.int .i64 (a0.length : Int))), (9, (.int .i64 x25)), (30, (.bool t69))] ∧ Heap w0 [] w) ?_ ?_
      · by_cases hc71 : (!x66) = true
        · have hm := ite_t hc71 e70
          refine lx_skip S rfl rfl (isB_ne hc71) (by decide) (fun a S => ?_)
          refine lx_skip S rfl rfl (isB_ne hc71) (by decide) (fun a S => ?_)
          refine lx_skip S rfl rfl (isB_ne hc71) (by decide) (fun a S => ?_)
          refine lx_skip S rfl rfl rfl (by decide) (fun a S => ?_)
          refine lx_skip S rfl rfl rfl (by decide) (fun a S => ?_)
          refine lx_skip S rfl rfl rfl (by decide) (fun a S => ?_)
          refine lx_skip S rfl rfl rfl (by decide) (fun a S => ?_)
          refine lx_skip S rfl rfl rfl (by decide) (fun a S => ?_)
          refine lx_skip S rfl rfl rfl (by decide) (fun a S => ?_)
          refine lx_skip S rfl rfl rfl (by decide) (fun a S => ?_)
          refine lx_skip S rfl rfl (isB_ne hc71) (by decide) (fun a S => ?_)
          refine lx_q (.bool true) S trivial (by decide) (q_pickT' rfl hc71 rfl) (fun a S => ?_)
          refine lx_nil ?_
          obtain rfl := Option.some.inj hm
          exact ⟨S.sub ⟨rfl, rfl, rfl, rfl, rfl, rfl, trivial⟩, H⟩
        · have hm := ite_f (eq_false_of_ne_true hc71) e70
          have hc71 : (!x66) = false := eq_false_of_ne_true hc71
          refine lx_q (.int .i64 x25) S (want_b rfl rfl hc71) (by decide) (q_move rfl) (fun a S => ?_)
          refine lx_q (.bool (decide ((0 : Int) < x25))) S (want_b rfl rfl hc71) (by decide) (q_gtr rfl rfl) (fun a S => ?_)
          refine lx_q (.bool (decide ((0 : Int) < x25))) S (want_b rfl rfl hc71) (by decide) (q_move rfl) (fun a S => ?_)
          obtain ⟨t72, e73, hm⟩ := bind_some hm
          refine lx_cut 8 (fun a w => Slots a 32 [(0, p0), (1, (.int .i64 a1)), (7, p0), (8, (.int .i64 (a0.length : Int))), (9, (.int .i64 x25)), (18, (.bool (!x66))), (29, (.bool t72))] ∧ Heap w0 [] w) ?_ ?_
          · by_cases hc74 : (decide ((0 : Int) < x25)) = true
            · have hm := ite_t hc74 e73
              refine lx_q (.int .i64 x59) S (want_b rfl rfl hc74) (by decide) (q_move rfl) (fun a S => ?_)
              refine lx_q p0 S (want_b rfl rfl hc74) (by decide) (q_move rfl) (fun a S => ?_)
              refine lx_q (.int .i64 x25) S (want_b rfl rfl hc74) (by decide) (q_move rfl) (fun a S => ?_)
              refine lx_q (.int .i64 (W (x25 - (1 : Int)))) S (want_b rfl rfl hc74) (by decide) (q_sub rfl rfl) (fun a S => ?_)
              obtain ⟨x75, e76, hm⟩ := bind_some hm
              obtain ⟨c77, h78, hat79⟩ := (h0).elem (idx_some e76).2
              obtain rfl := h78
              have hlt := lt_of_idx (idx_some e76).2
              refine lx_q (ePtr p0 ((W (x25 - (1 : Int))).toNat * 1)) S (want_b rfl rfl hc74) (by decide) (q_indexAddr rfl (h0).isSl rfl (idx_some e76).1 hlt Try.underlying29 Try.sizeOf2) (fun a S => ?_)
              refine lx_e (.int .i64 x75) S (want_b rfl rfl hc74) (by decide) rfl trivial (q_load1 rfl Try.isAgg2 (by rintro _ rfl; exact ((hat79 0 _ rfl).ext H.ext))) (fun a S => ?_)
              refine lx_q (.bool (decide (x59 ≤ x75))) S (want_b rfl rfl hc74) (by decide) (q_leq rfl rfl) (fun a S => ?_)
              refine lx_q (.bool (decide (x59 ≤ x75))) S (want_b rfl rfl hc71) (by decide) (q_pickT' rfl hc74 rfl) (fun a S => ?_)
              refine lx_nil ?_
              obtain rfl := Option.some.inj hm
              exact ⟨S.sub ⟨rfl, rfl, rfl, rfl, rfl, rfl, rfl, trivial⟩, H⟩
            · have hm := ite_f (eq_false_of_ne_true hc74) e73
              have hc74 : (decide ((0 : Int) < x25)) = false := eq_false_of_ne_true hc74
              refine lx_skip S rfl rfl (isB_ne hc74) (by decide) (fun a S => ?_)
              refine lx_skip S rfl rfl (isB_ne hc74) (by decide) (fun a S => ?_)
              refine lx_skip S rfl rfl (isB_ne hc74) (by decide) (fun a S => ?_)
              refine lx_skip S rfl rfl (isB_ne hc74) (by decide) (fun a S => ?_)
              refine lx_skip S rfl rfl (isB_ne hc74) (by decide) (fun a S => ?_)
              refine lx_skip S rfl rfl (isB_ne hc74) (by decide) (fun a S => ?_)
              refine lx_skip S rfl rfl (isB_ne hc74) (by decide) (fun a S => ?_)
              refine lx_q (.bool false) S (want_b rfl rfl hc71) (by decide) (q_pickF' rfl hc74 rfl) (fun a S => ?_)
              refine lx_nil ?_
              obtain rfl := Option.some.inj hm
              exact ⟨S.sub ⟨rfl, rfl, rfl, rfl, rfl, rfl, rfl, trivial⟩, H⟩
          · rintro a w ⟨S, H⟩
            refine lx_q (.bool t72) S trivial (by decide) (q_pickF' rfl hc71 rfl) (fun a S => ?_)
            refine lx_nil ?_
            obtain rfl := Option.some.inj hm
            exact ⟨S.sub ⟨rfl, rfl, rfl, rfl, rfl, rfl, trivial⟩, H⟩
      · rintro a w ⟨S, H⟩
        refine lx_nil ?_
        refine thenN ?_
        refine cond_b S rfl (fun hc80 => ?_) (fun hc80 => ?_)
        · have hm := ite_t hc80 hm
          refine wp_seq ?_
          refine region_plain ?_
          refine lx_q (.bool false) S trivial (by decide) (q_assign rfl) (fun a S => ?_)
          refine lx_nil ?_
          refine thenN ?_
          refine wp_ret ?_
          refine inBlock_ret ?_
          refine then_ret ?_
          refine then_ret ?_
          refine inBlock_ret ?_
          refine then_ret ?_
          refine then_ret ?_
          obtain rfl := it_brk hm hc57
          have hm := ctl_inr hk54
          obtain rfl := Option.some.inj hm
          exact leave1 S rfl rfl ⟨rfl, H⟩
        · have hm := ite_f hc80 hm
          refine wp_skip ?_
          refine inBlock_norm ?_
          refine thenN ?_
          refine region_plain ?_
          refine lx_q (.int .i64 (W (x25 + (1 : Int)))) S trivial (by decide) (q_add rfl rfl) (fun a S => ?_)
          refine lx_q (.int .i64 (W (x25 + (1 : Int)))) S trivial (by decide) (q_move rfl) (fun a S => ?_)
          refine lx_nil ?_
          exact ⟨m55, Nat.lt_succ_self _, (W (x25 + (1 : Int))), S.sub ⟨rfl, rfl, rfl, rfl, rfl, trivial⟩, H, it_cont hm hc57⟩
    · have hm := ite_f hc58 hm
      refine wp_exit ?_
      refine then_exit ?_
      refine then_exit ?_
      refine inBlock_exit ?_
      obtain rfl := it_brk hm hc57
      exact ⟨S.sub trivial, H, rfl⟩

/-- impl.ValidEquations$1 -/
def impl_ValidEquations_1_m (fuel : Nat) (a0 : T58) (a1 : (List T58)) : Option (Bool) :=
  (impl_increasing_m fuel a0.2.2 (a1.length : Int)).bind fun x23 => some ((!x23))
set_option maxRecDepth 20000 in
theorem impl_ValidEquations_1_ok {w0 : World} {fuel : Nat} {p0 p1 : Value} {a0 : T58} {a1 : (List T58)} {r : Bool} (h0 : Rd R58 w0 p0 a0) (h1 : Rd (rPtr (rList R58)) w0 p1 a1) (hm : impl_ValidEquations_1_m fuel a0 a1 = some r) :
    Calls Try.prog 43 #[p0, p1] w0 fun e w => e = .returned (.bool r) ∧ Heap w0 [] w := by
  unfold impl_ValidEquations_1_m at hm
  have H := Heap.start w0
  obtain ⟨c1, rfl, h2⟩ := h0
  obtain ⟨c5, c6, rfl, h7, h8⟩ := h2
  obtain rfl := h7
  obtain ⟨c9, c10, rfl, h11, h12⟩ := h8
  obtain rfl := h11
  obtain ⟨v3, rfl, h4⟩ := rd_list h12
  obtain ⟨c13, h14, hat15⟩ := h1.ptr
  obtain ⟨v16, rfl, h17⟩ := rd_list h14
  refine enter (args := [(.agg #[(.bool a0.1), (.bool a0.2.1), v3]), p1]) Try.func43 rfl 10 rfl (Nat.le_of_ble_eq_true rfl) (fun a S => ?_)
  refine wp_seq ?_
  refine region_plain ?_
  refine lx_box S trivial (by decide) rfl H rfl rfl (fun b18 w19 H => ⟨trivial, fun a S => ?_⟩)
  refine lx_q (.bool false) S trivial (by decide) (q_assign rfl) (fun a S => ?_)
  refine lx_nil ?_
  refine thenN ?_
  refine wp_seq ?_
  refine region_plain ?_
  refine lx_q (pAdd (bp b18) 2) S trivial (by decide) (q_fieldAddr' 2 29 rfl (isP_bp _) Try.underlying58 rfl Try.sizeOf29) (fun a S => ?_)
  refine lx_e v3 S trivial (by decide) rfl trivial (q_load1 rfl Try.isAgg29 (by rintro _ rfl; exact (At.of_add (m := 2) (j := 0) (boxAt (i := 0) H rfl (j := 2) rfl)))) (fun a S => ?_)
  refine lx_e v16 S trivial (by decide) rfl trivial (q_load1 rfl Try.isAgg25 (by rintro _ rfl; exact ((hat15 0 _ rfl).ext H.ext))) (fun a S => ?_)
  refine lx_q (.int .i64 (a1.length : Int)) S trivial (by decide) (q_lenSl rfl (h17).isSl rfl Try.underlying25) (fun a S => ?_)
  obtain ⟨x23, e24, hm⟩ := bind_some hm
  refine lx_call (xs := [.tmp 5, .tmp 7]) S trivial (by decide) rfl rfl Try.call44 ((impl_increasing_ok (H.arg h4)  e24).mono ?_)
  rintro e w21 ⟨rfl, Hc22⟩
  have he25 := Hc22.ext
  have H := H.call0 Hc22
  refine ⟨_, rfl, trivial, fun a S => ?_⟩
  refine lx_q (.bool (!x23)) S trivial (by decide) (q_not rfl) (fun a S => ?_)
  refine lx_q (.bool (!x23)) S trivial (by decide) (q_assign rfl) (fun a S => ?_)
  refine lx_nil ?_
  refine thenN ?_
  refine wp_ret ?_
  obtain rfl := Option.some.inj hm
  have H : Heap w0 [] w21 := H.sel [] (by decide)
  exact leave1 S rfl rfl ⟨rfl, H⟩

/-- slices.IndexFunc[[]impl.Equation,impl.Equation] -/
def slices_IndexFunc__impl_Equation_impl_Equation_m (fuel : Nat) (a0 : (List T58)) (a1 : (T58 → Option Bool)) : Option (Int) :=
  (iter (fun (s : (Int)) => (match s with | (x26) => (if (decide (x26 < (a0.length : Int))) = true then (idx a0 x26).bind fun x61 => (a1 (x61.1, x61.2.1, x61.2.2)).bind fun x80 => (if x80 = true then some (.inr (.inr x26)) else some (.inl ((W (x26 + (1 : Int)))))) else some (.inr (.inl ()))) : Option (((Int)) ⊕ ((Unit) ⊕ (Int))))) fuel ((0 : Int))).bind fun res52 => ctl (β := Unit) (ρ := Int) (τ := Int) res52 (fun _ => some ((-1 : Int))) (fun q => some (q))
set_option maxRecDepth 20000 in
theorem slices_IndexFunc__impl_Equation_impl_Equation_ok {w0 : World} {fuel : Nat} {p0 : Value} {a0 : (List T58)} {a1 : (T58 → Option Bool)} {f1 : Nat} {fs1 cp1 : List Value} {r : Int} (h0 : Rd (rList R58) w0 p0 a0) (hcf1 : ∀ args w, (callFunc f1 args).run Try.prog w = .ok (.enter f1 args) w) (hf1 : ∀ {w : World} {x0_ : T58} {v0_ : Value} {y : Bool}, Ext w0 w → Rd R58 w v0_ x0_ → a1 x0_ = some y → Calls Try.prog f1 (fs1 ++ [v0_] ++ cp1).toArray w fun e w' => e = .returned (.bool y) ∧ Heap w [] w') (hm : slices_IndexFunc__impl_Equation_impl_Equation_m fuel a0 a1 = some r) :
    Calls Try.prog 71 #[p0, .func (.func f1) fs1.toArray cp1.toArray] w0 fun e w => e = .returned (.int .i64 r) ∧ Heap w0 [] w := by
  unfold slices_IndexFunc__impl_Equation_impl_Equation_m at hm
  have H := Heap.start w0
  refine enter (args := [p0, .func (.func f1) fs1.toArray cp1.toArray]) Try.func71 rfl 19 rfl (Nat.le_of_ble_eq_true rfl) (fun a S => ?_)
  refine wp_seq ?_
  refine region_plain ?_
  refine lx_q (.int .i64 (0 : Int)) S trivial (by decide) (q_assign rfl) (fun a S => ?_)
  refine lx_nil ?_
  refine thenN ?_
  refine wp_seq ?_
  refine wp_seq ?_
  refine region_plain ?_
  refine lx_q p0 S trivial (by decide) (q_move rfl) (fun a S => ?_)
  refine lx_q (.int .i64 (a0.length : Int)) S trivial (by decide) (q_lenSl rfl (h0).isSl rfl Try.underlying25) (fun a S => ?_)
  refine lx_q (.int .i64 (0 : Int)) S trivial (by decide) (q_move rfl) (fun a S => ?_)
  refine lx_nil ?_
  refine thenN ?_
  obtain ⟨res52, hit53, hk56⟩ := bind_some hm
  obtain ⟨f54, hf55, hit53⟩ := iter_name hit53
  refine block_loop (fun a w => Slots a 19 [] ∧ Heap w0 [] w ∧ res52 = .inl ()) ?_ ?_
  · rintro a w ⟨S, H, rfl⟩
    have hm := ctl_inl hk56
    refine thenN ?_
    refine wp_seq ?_
    refine region_plain ?_
    refine lx_q (.int .i64 (-1 : Int)) S trivial (by decide) (q_assign rfl) (fun a S => ?_)
    refine lx_nil ?_
    refine thenN ?_
    refine wp_ret ?_
    obtain rfl := Option.some.inj hm
    exact leave1 S rfl rfl ⟨rfl, H⟩
  · skip
    refine loop_ghost (fun n a w => ∃ (x26 : Int), Slots a 19 [(0, p0), (1, (.func (.func f1) fs1.toArray cp1.toArray)), (7, (.int .i64 (a0.length : Int))), (8, (.int .i64 x26))] ∧ Heap w0 [] w ∧ iter f54 n (x26) = some res52) _ ⟨(0 : Int), S.sub ⟨rfl, rfl, rfl, rfl, trivial⟩, H, hit53⟩ ?_
    rintro n a w ⟨x26, S, H, hit53⟩
    obtain ⟨m57, o58, rfl, hm, hc59⟩ := iter_step hit53
    rw [hf55] at hm
    refine wp_seq ?_
    refine region_plain ?_
    refine lx_q (.bool (decide (x26 < (a0.length : Int)))) S trivial (by decide) (q_lss rfl rfl) (fun a S => ?_)
    refine lx_nil ?_
    refine thenN ?_
    refine wp_seq ?_
    refine cond_b S rfl (fun hc60 => ?_) (fun hc60 => ?_)
    · have hm := ite_t hc60 hm
      refine wp_skip ?_
      refine thenN ?_
      refine wp_seq ?_
      refine wp_block ?_
      refine wp_seq ?_
      refine region_plain ?_
      refine lx_q (.int .i64 x26) S trivial (by decide) (q_move rfl) (fun a S => ?_)
      refine lx_q (.int .i64 x26) S trivial (by decide) (q_assign rfl) (fun a S => ?_)
      refine lx_nil ?_
      refine thenN ?_
      refine wp_seq ?_
      refine region_plain ?_
      refine lx_q (.func (.func f1) fs1.toArray cp1.toArray) S trivial (by decide) (q_move rfl) (fun a S => ?_)
      refine lx_q p0 S trivial (by decide) (q_move rfl) (fun a S => ?_)
      refine lx_q (.int .i64 x26) S trivial (by decide) (q_move rfl) (fun a S => ?_)
      obtain ⟨x61, e62, hm⟩ := bind_some hm
      obtain ⟨c63, h64, hat65⟩ := (h0).elem (idx_some e62).2
      obtain ⟨c68, c69, rfl, h70, h71⟩ := h64
      obtain rfl := h70
      obtain ⟨c72, c73, rfl, h74, h75⟩ := h71
      obtain rfl := h74
      obtain ⟨v66, rfl, h67⟩ := rd_list h75
      have hlt := lt_of_idx (idx_some e62).2
      refine lx_q (ePtr p0 (x26.toNat * 3)) S trivial (by decide) (q_indexAddr rfl (h0).isSl rfl (idx_some e62).1 hlt Try.underlying25 Try.sizeOf58) (fun a S => ?_)
      refine lx_e (.agg #[(.bool x61.1), (.bool x61.2.1), v66]) S trivial (by decide) rfl trivial (q_loadA (cs := [(.bool x61.1), (.bool x61.2.1), v66]) rfl ((hat65 0 _ rfl).isP) Try.isAgg58 Try.sizeOf58 (by rintro _ rfl; exact (fun j u hu => (hat65 j u hu).ext H.ext))) (fun a S => ?_)
      obtain ⟨x80, e81, hm⟩ := bind_some hm
      refine lx_callV (f := f1) (first := fs1) (cap := cp1) (xs := [.tmp 15]) S trivial (by decide) rfl rfl rfl hcf1 ((hf1 H.ext ⟨[(.bool x61.1), (.bool x61.2.1), v66], rfl, ⟨[(.bool x61.1)], [(.bool x61.2.1), v66], rfl, rfl, ⟨[(.bool x61.2.1)], [v66], rfl, rfl, ((H.arg h67)).list_rd⟩⟩⟩ e81).mono ?_)
      rintro e w78 ⟨rfl, Hc79⟩
      have he82 := Hc79.ext
      have H := H.call0 Hc79
      refine ⟨_, rfl, trivial, fun a S => ?_⟩
      refine lx_nil ?_
      refine thenN ?_
      refine cond_b S rfl (fun hc83 => ?_) (fun hc83 => ?_)
      · have hm := ite_t hc83 hm
        refine wp_seq ?_
        refine region_plain ?_
        refine lx_q (.int .i64 x26) S trivial (by decide) (q_move rfl) (fun a S => ?_)
        refine lx_q (.int .i64 x26) S trivial (by decide) (q_assign rfl) (fun a S => ?_)
        refine lx_nil ?_
        refine thenN ?_
        refine wp_ret ?_
        refine inBlock_ret ?_
        refine then_ret ?_
        refine then_ret ?_
        refine inBlock_ret ?_
        refine then_ret ?_
        refine then_ret ?_
        obtain rfl := it_brk hm hc59
        have hm := ctl_inr hk56
        obtain rfl := Option.some.inj hm
        exact leave1 S rfl rfl ⟨rfl, H⟩
      · have hm := ite_f hc83 hm
        refine wp_skip ?_
        refine inBlock_norm ?_
        refine thenN ?_
        refine region_plain ?_
        refine lx_q (.int .i64 (W (x26 + (1 : Int)))) S trivial (by decide) (q_add rfl rfl) (fun a S => ?_)
        refine lx_q (.int .i64 (W (x26 + (1 : Int)))) S trivial (by decide) (q_move rfl) (fun a S => ?_)
        refine lx_nil ?_
        exact ⟨m57, Nat.lt_succ_self _, (W (x26 + (1 : Int))), S.sub ⟨rfl, rfl, rfl, rfl, trivial⟩, H, it_cont hm hc59⟩
    · have hm := ite_f hc60 hm
      refine wp_exit ?_
      refine then_exit ?_
      refine then_exit ?_
      refine inBlock_exit ?_
      obtain rfl := it_brk hm hc59
      exact ⟨S.sub trivial, H, rfl⟩

/-- slices.ContainsFunc[[]impl.Equation,impl.Equation] -/
def slices_ContainsFunc__impl_Equation_impl_Equation_m (fuel : Nat) (a0 : (List T58)) (a1 : (T58 → Option Bool)) : Option (Bool) :=
  (slices_IndexFunc__impl_Equation_impl_Equation_m fuel a0 a1).bind fun x3 => some ((decide ((0 : Int) ≤ x3)))
set_option maxRecDepth 20000 in
theorem slices_ContainsFunc__impl_Equation_impl_Equation_ok {w0 : World} {fuel : Nat} {p0 : Value} {a0 : (List T58)} {a1 : (T58 → Option Bool)} {f1 : Nat} {fs1 cp1 : List Value} {r : Bool} (h0 : Rd (rList R58) w0 p0 a0) (hcf1 : ∀ args w, (callFunc f1 args).run Try.prog w = .ok (.enter f1 args) w) (hf1 : ∀ {w : World} {x0_ : T58} {v0_ : Value} {y : Bool}, Ext w0 w → Rd R58 w v0_ x0_ → a1 x0_ = some y → Calls Try.prog f1 (fs1 ++ [v0_] ++ cp1).toArray w fun e w' => e = .returned (.bool y) ∧ Heap w [] w') (hm : slices_ContainsFunc__impl_Equation_impl_Equation_m fuel a0 a1 = some r) :
    Calls Try.prog 42 #[p0, .func (.func f1) fs1.toArray cp1.toArray] w0 fun e w => e = .returned (.bool r) ∧ Heap w0 [] w := by
  unfold slices_ContainsFunc__impl_Equation_impl_Equation_m at hm
  have H := Heap.start w0
  refine enter (args := [p0, .func (.func f1) fs1.toArray cp1.toArray]) Try.func42 rfl 9 rfl (Nat.le_of_ble_eq_true rfl) (fun a S => ?_)
  refine wp_seq ?_
  refine region_plain ?_
  refine lx_q (.bool false) S trivial (by decide) (q_assign rfl) (fun a S => ?_)
  refine lx_nil ?_
  refine thenN ?_
  refine wp_seq ?_
  refine region_plain ?_
  refine lx_q p0 S trivial (by decide) (q_move rfl) (fun a S => ?_)
  refine lx_q (.func (.func f1) fs1.toArray cp1.toArray) S trivial (by decide) (q_move rfl) (fun a S => ?_)
  obtain ⟨x3, e4, hm⟩ := bind_some hm
  refine lx_call (xs := [.tmp 5, .tmp 6]) S trivial (by decide) rfl rfl Try.call71 ((slices_IndexFunc__impl_Equation_impl_Equation_ok (f1 := f1) (fs1 := fs1) (cp1 := cp1) (a1 := a1) (H.arg h0) hcf1 (fun he h0_ hm => hf1 (H.ext.trans he) h0_ hm) e4).mono ?_)
  rintro e w1 ⟨rfl, Hc2⟩
  have he5 := Hc2.ext
  have H := H.call0 Hc2
  refine ⟨_, rfl, trivial, fun a S => ?_⟩
  refine lx_q (.bool (decide ((0 : Int) ≤ x3))) S trivial (by decide) (q_geq rfl rfl) (fun a S => ?_)
  refine lx_q (.bool (decide ((0 : Int) ≤ x3))) S trivial (by decide) (q_assign rfl) (fun a S => ?_)
  refine lx_nil ?_
  refine thenN ?_
  refine wp_ret ?_
  obtain rfl := Option.some.inj hm
  exact leave1 S rfl rfl ⟨rfl, H⟩

/-- impl.ValidEquations -/
def impl_ValidEquations_m (fuel : Nat) (a0 : (List T58)) : Option (Bool) :=
  (impl_within_m fuel (a0.length : Int) (1 : Int) (120 : Int)).bind fun x6 => (if (!x6) = true then some true else (impl_blocksFit_m fuel a0).bind fun x14 => some (!x14)).bind fun t9 => (if t9 = true then some (false) else (slices_ContainsFunc__impl_Equation_impl_Equation_m fuel a0 (fun (z0 : T58) => impl_ValidEquations_1_m fuel z0 a0)).bind fun x20 => some ((!x20)))
set_option maxRecDepth 20000 in
theorem impl_ValidEquations_ok {w0 : World} {fuel : Nat} {p0 : Value} {a0 : (List T58)} {r : Bool} (h0 : Rd (rList R58) w0 p0 a0) (hm : impl_ValidEquations_m fuel a0 = some r) :
    Calls Try.prog 12 #[p0] w0 fun e w => e = .returned (.bool r) ∧ Heap w0 [] w := by
  unfold impl_ValidEquations_m at hm
  have H := Heap.start w0
  refine enter (args := [p0]) Try.func12 rfl 16 rfl (Nat.le_of_ble_eq_true rfl) (fun a S => ?_)
  refine wp_seq ?_
  refine region_plain ?_
  refine lx_box S trivial (by decide) rfl H rfl (cells_sl (h0).isSl) (fun b1 w2 H => ⟨trivial, fun a S => ?_⟩)
  refine lx_q (.bool false) S trivial (by decide) (q_assign rfl) (fun a S => ?_)
  refine lx_nil ?_
  refine thenN ?_
  refine wp_seq ?_
  refine wp_seq ?_
  refine region_plain ?_
  refine lx_e p0 S trivial (by decide) rfl trivial (q_load1 rfl Try.isAgg25 (by rintro _ rfl; exact (boxAt (i := 0) H rfl (j := 0) rfl))) (fun a S => ?_)
  refine lx_q (.int .i64 (a0.length : Int)) S trivial (by decide) (q_lenSl rfl (h0).isSl rfl Try.underlying25) (fun a S => ?_)
  obtain ⟨x6, e7, hm⟩ := bind_some hm
  refine lx_call (xs := [.tmp 4, .const (.int .i64 (1)), .const (.int .i64 (120))]) S trivial (by decide) rfl rfl Try.call40 ((impl_within_ok    e7).mono ?_)
  rintro e w4 ⟨rfl, Hc5⟩
  have he8 := Hc5.ext
  have H := H.call0 Hc5
  refine ⟨_, rfl, trivial, fun a S => ?_⟩
  refine lx_q (.bool (!x6)) S trivial (by decide) (q_not rfl) (fun a S => ?_)
  refine lx_q (.bool (!x6)) S trivial (by decide) (q_move rfl) (fun a S => ?_)
  obtain ⟨t9, e10, hm⟩ := bind_some hm
  refine lx_cut 4 (fun a w => Slots a 16 [(1, (bp b1)), (11, (.bool t9))] ∧ Heap w0 [bA b1 [p0] 25] w) ?_ ?_
  · by_cases hc11 : (!x6) = true
    · have hm := ite_t hc11 e10
      refine lx_skip S rfl rfl (isB_ne hc11) (by decide) (fun a S => ?_)
      refine lx_skip S rfl rfl (isB_ne hc11) (by decide) (fun a S => ?_)
      refine lx_skip S rfl rfl (isB_ne hc11) (by decide) (fun a S => ?_)
      refine lx_q (.bool true) S trivial (by decide) (q_pickT' rfl hc11 rfl) (fun a S => ?_)
      refine lx_nil ?_
      obtain rfl := Option.some.inj hm
      exact ⟨S.sub ⟨rfl, rfl, trivial⟩, H⟩
    · have hm := ite_f (eq_false_of_ne_true hc11) e10
      have hc11 : (!x6) = false := eq_false_of_ne_true hc11
      refine lx_e p0 S (want_b rfl rfl hc11) (by decide) rfl trivial (q_load1 rfl Try.isAgg25 (by rintro _ rfl; exact (boxAt (i := 0) H rfl (j := 0) rfl))) (fun a S => ?_)
      obtain ⟨x14, e15, hm⟩ := bind_some hm
      refine lx_call (xs := [.tmp 8]) S (want_b rfl rfl hc11) (by decide) rfl rfl Try.call41 ((impl_blocksFit_ok (H.arg h0) e15).mono ?_)
      rintro e w12 ⟨rfl, Hc13⟩
      have he16 := Hc13.ext
      have H := H.call0 Hc13
      refine ⟨_, rfl, trivial, fun a S => ?_⟩
      refine lx_q (.bool (!x14)) S (want_b rfl rfl hc11) (by decide) (q_not rfl) (fun a S => ?_)
      refine lx_q (.bool (!x14)) S trivial (by decide) (q_pickF' rfl hc11 rfl) (fun a S => ?_)
      refine lx_nil ?_
      obtain rfl := Option.some.inj hm
      exact ⟨S.sub ⟨rfl, rfl, trivial⟩, H⟩
  · rintro a w ⟨S, H⟩
    refine lx_nil ?_
    refine thenN ?_
    refine cond_b S rfl (fun hc17 => ?_) (fun hc17 => ?_)
    · have hm := ite_t hc17 hm
      refine wp_seq ?_
      refine region_plain ?_
      refine lx_q (.bool false) S trivial (by decide) (q_assign rfl) (fun a S => ?_)
      refine lx_nil ?_
      refine thenN ?_
      refine wp_ret ?_
      refine then_ret ?_
      obtain rfl := Option.some.inj hm
      have H : Heap w0 [] w := H.sel [] (by decide)
      exact leave1 S rfl rfl ⟨rfl, H⟩
    · have hm := ite_f hc17 hm
      refine wp_skip ?_
      refine thenN ?_
      refine wp_seq ?_
      refine region_plain ?_
      refine lx_e p0 S trivial (by decide) rfl trivial (q_load1 rfl Try.isAgg25 (by rintro _ rfl; exact (boxAt (i := 0) H rfl (j := 0) rfl))) (fun a S => ?_)
      refine lx_q (.func (.func 43) #[] #[(bp b1)]) S trivial (by decide) (q_makeFunc (xs := []) (ys := [.tmp 1]) rfl rfl) (fun a S => ?_)
      obtain ⟨x20, e21, hm⟩ := bind_some hm
      have hcap22 : Rd (rPtr (rList R58)) w (bp b1) a0 := (rdPtr_box H 0 rfl ((H.arg h0)).list_rd)
      refine lx_call (xs := [.tmp 12, .tmp 13]) S trivial (by decide) rfl rfl Try.call42 ((slices_ContainsFunc__impl_Equation_impl_Equation_ok (f1 := 43) (fs1 := []) (cp1 := [(bp b1)]) (a1 := (fun (z0 : T58) => impl_ValidEquations_1_m fuel z0 a0)) (H.arg h0) Try.call43 (fun he h0_ hm => impl_ValidEquations_1_ok h0_ (hcap22.ext he) hm) e21).mono ?_)
      rintro e w18 ⟨rfl, Hc19⟩
      have he23 := Hc19.ext
      have H := H.call0 Hc19
      refine ⟨_, rfl, trivial, fun a S => ?_⟩
      refine lx_q (.bool (!x20)) S trivial (by decide) (q_not rfl) (fun a S => ?_)
      refine lx_q (.bool (!x20)) S trivial (by decide) (q_assign rfl) (fun a S => ?_)
      refine lx_nil ?_
      refine thenN ?_
      refine wp_ret ?_
      obtain rfl := Option.some.inj hm
      have H : Heap w0 [] w18 := H.sel [] (by decide)
      exact leave1 S rfl rfl ⟨rfl, H⟩

/-- laws.eqInt64S -/
def laws_eqInt64S_m (fuel : Nat) (a0 : (List Int)) (a1 : (List Int)) : Option (Bool) :=
  (if ((a0.length : Int) != (a1.length : Int)) = true then some (false) else (iter (fun (s : (Int)) => (match s with | (x17) => (if (decide (x17 < (a0.length : Int))) = true then (idx a0 x17).bind fun x44 => (idx a1 x17).bind fun x49 => (if (x44 != x49) = true then some (.inr (.inr false)) else some (.inl ((W (x17 + (1 : Int)))))) else some (.inr (.inl ()))) : Option (((Int)) ⊕ ((Unit) ⊕ (Bool))))) fuel ((0 : Int))).bind fun res33 => ctl (β := Unit) (ρ := Bool) (τ := Bool) res33 (fun _ => some (true)) (fun q => some (q)))
set_option maxRecDepth 20000 in
theorem laws_eqInt64S_ok {w0 : World} {fuel : Nat} {p0 p1 : Value} {a0 : (List Int)} {a1 : (List Int)} {r : Bool} (h0 : Rd (rList (rInt .i64)) w0 p0 a0) (h1 : Rd (rList (rInt .i64)) w0 p1 a1) (hm : laws_eqInt64S_m fuel a0 a1 = some r) :
    Calls Try.prog 16 #[p0, p1] w0 fun e w => e = .returned (.bool r) ∧ Heap w0 [] w := by
  unfold laws_eqInt64S_m at hm
  have H := Heap.start w0
  refine enter (args := [p0, p1]) Try.func16 rfl 26 rfl (Nat.le_of_ble_eq_true rfl) (fun a S => ?_)
  refine wp_seq ?_
  refine region_plain ?_
  refine lx_q (.bool false) S trivial (by decide) (q_assign rfl) (fun a S => ?_)
  refine lx_nil ?_
  refine thenN ?_
  refine wp_seq ?_
  refine wp_seq ?_
  refine region_plain ?_
  refine lx_q p0 S trivial (by decide) (q_move rfl) (fun a S => ?_)
  refine lx_q (.int .i64 (a0.length : Int)) S trivial (by decide) (q_lenSl rfl (h0).isSl rfl Try.underlying29) (fun a S => ?_)
  refine lx_q p1 S trivial (by decide) (q_move rfl) (fun a S => ?_)
  refine lx_q (.int .i64 (a1.length : Int)) S trivial (by decide) (q_lenSl rfl (h1).isSl rfl Try.underlying29) (fun a S => ?_)
  refine lx_q (.bool ((a0.length : Int) != (a1.length : Int))) S trivial (by decide) (q_neq rfl rfl) (fun a S => ?_)
  refine lx_nil ?_
  refine thenN ?_
  refine cond_b S rfl (fun hc1 => ?_) (fun hc1 => ?_)
  · have hm := ite_t hc1 hm
    refine wp_seq ?_
    refine region_plain ?_
    refine lx_q (.bool false) S trivial (by decide) (q_assign rfl) (fun a S => ?_)
    refine lx_nil ?_
    refine thenN ?_
    refine wp_ret ?_
    refine then_ret ?_
    obtain rfl := Option.some.inj hm
    exact leave1 S rfl rfl ⟨rfl, H⟩
  · have hm := ite_f hc1 hm
    refine wp_skip ?_
    refine thenN ?_
    refine wp_seq ?_
    refine wp_seq ?_
    refine region_plain ?_
    refine lx_q (.int .i64 (0 : Int)) S trivial (by decide) (q_assign rfl) (fun a S => ?_)
    refine lx_nil ?_
    refine thenN ?_
    obtain ⟨res33, hit34, hk37⟩ := bind_some hm
    obtain ⟨f35, hf36, hit34⟩ := iter_name hit34
    refine block_loop (fun a w => Slots a 26 [] ∧ Heap w0 [] w ∧ res33 = .inl ()) ?_ ?_
    · rintro a w ⟨S, H, rfl⟩
      have hm := ctl_inl hk37
      refine thenN ?_
      refine wp_seq ?_
      refine region_plain ?_
      refine lx_q (.bool true) S trivial (by decide) (q_assign rfl) (fun a S => ?_)
      refine lx_nil ?_
      refine thenN ?_
      refine wp_ret ?_
      obtain rfl := Option.some.inj hm
      exact leave1 S rfl rfl ⟨rfl, H⟩
    · skip
      refine loop_ghost (fun n a w => ∃ (x17 : Int), Slots a 26 [(0, p0), (1, p1), (5, (.int .i64 x17))] ∧ Heap w0 [] w ∧ iter f35 n (x17) = some res33) _ ⟨(0 : Int), S.sub ⟨rfl, rfl, rfl, trivial⟩, H, hit34⟩ ?_
      rintro n a w ⟨x17, S, H, hit34⟩
      obtain ⟨m38, o39, rfl, hm, hc40⟩ := iter_step hit34
      rw [hf36] at hm
      refine wp_seq ?_
      refine wp_seq ?_
      refine region_plain ?_
      refine lx_q (.int .i64 x17) S trivial (by decide) (q_move rfl) (fun a S => ?_)
      refine lx_q p0 S trivial (by decide) (q_move rfl) (fun a S => ?_)
      refine lx_q (.int .i64 (a0.length : Int)) S trivial (by decide) (q_lenSl rfl (h0).isSl rfl Try.underlying29) (fun a S => ?_)
      refine lx_q (.bool (decide (x17 < (a0.length : Int)))) S trivial (by decide) (q_lss rfl rfl) (fun a S => ?_)
      refine lx_nil ?_
      refine thenN ?_
      refine cond_b S rfl (fun hc41 => ?_) (fun hc41 => ?_)
      · have hm := ite_t hc41 hm
        refine wp_skip ?_
        refine thenN ?_
        refine wp_seq ?_
        refine wp_block ?_
        refine wp_seq ?_
        refine region_drawG (fun w1 => Heap w0 [] w1) (fun i => [].contains i) mixed (by kernel_rfl) (fun w43 he42 => ?_)
        have H := H.later he42
        refine ⟨H.sel [] (by decide), ?_⟩
        refine lx_q p0 S trivial (by decide) (q_move rfl) (fun a S => ?_)
        refine lx_q (.int .i64 x17) S trivial (by decide) (q_move rfl) (fun a S => ?_)
        obtain ⟨x44, e45, hm⟩ := bind_some hm
        obtain ⟨c46, h47, hat48⟩ := (h0).elem (idx_some e45).2
        obtain rfl := h47
        have hlt := lt_of_idx (idx_some e45).2
        refine lx_q (ePtr p0 (x17.toNat * 1)) S trivial (by decide) (q_indexAddr rfl (h0).isSl rfl (idx_some e45).1 hlt Try.underlying29 Try.sizeOf2) (fun a S => ?_)
        refine lx_q (.int .i64 x44) S trivial (by decide) (q_load1 rfl Try.isAgg2 (fun w1 hC => ((hat48 0 _ rfl).ext hC.ext))) (fun a S => ?_)
        refine lx_q p1 S trivial (by decide) (q_move rfl) (fun a S => ?_)
        refine lx_q (.int .i64 x17) S trivial (by decide) (q_move rfl) (fun a S => ?_)
        obtain ⟨x49, e50, hm⟩ := bind_some hm
        obtain ⟨c51, h52, hat53⟩ := (h1).elem (idx_some e50).2
        obtain rfl := h52
        have hlt := lt_of_idx (idx_some e50).2
        refine lx_q (ePtr p1 (x17.toNat * 1)) S trivial (by decide) (q_indexAddr rfl (h1).isSl rfl (idx_some e50).1 hlt Try.underlying29 Try.sizeOf2) (fun a S => ?_)
        refine lx_q (.int .i64 x49) S trivial (by decide) (q_load1 rfl Try.isAgg2 (fun w1 hC => ((hat53 0 _ rfl).ext hC.ext))) (fun a S => ?_)
        refine lx_q (.bool (x44 != x49)) S trivial (by decide) (q_neq rfl rfl) (fun a S => ?_)
        refine lx_nil ?_
        refine thenN ?_
        refine cond_b S rfl (fun hc54 => ?_) (fun hc54 => ?_)
        · have hm := ite_t hc54 hm
          refine wp_seq ?_
          refine region_plain ?_
          refine lx_q (.bool false) S trivial (by decide) (q_assign rfl) (fun a S => ?_)
          refine lx_nil ?_
          refine thenN ?_
          refine wp_ret ?_
          refine inBlock_ret ?_
          refine then_ret ?_
          refine then_ret ?_
          refine inBlock_ret ?_
          refine then_ret ?_
          refine then_ret ?_
          obtain rfl := it_brk hm hc40
          have hm := ctl_inr hk37
          obtain rfl := Option.some.inj hm
          exact leave1 S rfl rfl ⟨rfl, H⟩
        · have hm := ite_f hc54 hm
          refine wp_skip ?_
          refine inBlock_norm ?_
          refine thenN ?_
          refine region_plain ?_
          refine lx_q (.int .i64 x17) S trivial (by decide) (q_move rfl) (fun a S => ?_)
          refine lx_q (.int .i64 (W (x17 + (1 : Int)))) S trivial (by decide) (q_add rfl rfl) (fun a S => ?_)
          refine lx_q (.int .i64 (W (x17 + (1 : Int)))) S trivial (by decide) (q_assign rfl) (fun a S => ?_)
          refine lx_nil ?_
          exact ⟨m38, Nat.lt_succ_self _, (W (x17 + (1 : Int))), S.sub ⟨rfl, rfl, rfl, trivial⟩, H, it_cont hm hc40⟩
      · have hm := ite_f hc41 hm
        refine wp_exit ?_
        refine then_exit ?_
        refine then_exit ?_
        refine inBlock_exit ?_
        obtain rfl := it_brk hm hc40
        exact ⟨S.sub trivial, H, rfl⟩

/-- laws.eqEquation -/
def laws_eqEquation_m (fuel : Nat) (a0 : T58) (a1 : T58) : Option (Bool) :=
  (if (a0.1 != a1.1) = true then some (false) else (if (a0.2.1 != a1.2.1) = true then some (false) else (laws_eqInt64S_m fuel a0.2.2 a1.2.2).bind fun x35 => (if (!x35) = true then some (false) else some (true))))
set_option maxRecDepth 20000 in
theorem laws_eqEquation_ok {w0 : World} {fuel : Nat} {p0 p1 : Value} {a0 : T58} {a1 : T58} {r : Bool} (h0 : Rd R58 w0 p0 a0) (h1 : Rd R58 w0 p1 a1) (hm : laws_eqEquation_m fuel a0 a1 = some r) :
    Calls Try.prog 45 #[p0, p1] w0 fun e w => e = .returned (.bool r) ∧ Heap w0 [] w := by
  unfold laws_eqEquation_m at hm
  have H := Heap.start w0
  obtain ⟨c1, rfl, h2⟩ := h0
  obtain ⟨c5, c6, rfl, h7, h8⟩ := h2
  obtain rfl := h7
  obtain ⟨c9, c10, rfl, h11, h12⟩ := h8
  obtain rfl := h11
  obtain ⟨v3, rfl, h4⟩ := rd_list h12
  obtain ⟨c13, rfl, h14⟩ := h1
  obtain ⟨c17, c18, rfl, h19, h20⟩ := h14
  obtain rfl := h19
  obtain ⟨c21, c22, rfl, h23, h24⟩ := h20
  obtain rfl := h23
  obtain ⟨v15, rfl, h16⟩ := rd_list h24
  refine enter (args := [(.agg #[(.bool a0.1), (.bool a0.2.1), v3]), (.agg #[(.bool a1.1), (.bool a1.2.1), v15])]) Try.func45 rfl 21 rfl (Nat.le_of_ble_eq_true rfl) (fun a S => ?_)
  refine wp_seq ?_
  refine region_plain ?_
  refine lx_box S trivial (by decide) rfl H rfl rfl (fun b25 w26 H => ⟨trivial, fun a S => ?_⟩)
  refine lx_box S trivial (by decide) rfl H rfl rfl (fun b28 w29 H => ⟨trivial, fun a S => ?_⟩)
  refine lx_q (.bool false) S trivial (by decide) (q_assign rfl) (fun a S => ?_)
  refine lx_nil ?_
  refine thenN ?_
  refine wp_seq ?_
  refine wp_seq ?_
  refine region_plain ?_
  refine lx_q (pAdd (bp b25) 0) S trivial (by decide) (q_fieldAddr' 0 4 rfl (isP_bp _) Try.underlying58 rfl Try.sizeOf4) (fun a S => ?_)
  refine lx_e (.bool a0.1) S trivial (by decide) rfl trivial (q_load1 rfl Try.isAgg4 (by rintro _ rfl; exact (At.of_add (m := 0) (j := 0) (boxAt (i := 1) H rfl (j := 0) rfl)))) (fun a S => ?_)
  refine lx_q (pAdd (bp b28) 0) S trivial (by decide) (q_fieldAddr' 0 4 rfl (isP_bp _) Try.underlying58 rfl Try.sizeOf4) (fun a S => ?_)
  refine lx_e (.bool a1.1) S trivial (by decide) rfl trivial (q_load1 rfl Try.isAgg4 (by rintro _ rfl; exact (At.of_add (m := 0) (j := 0) (boxAt (i := 0) H rfl (j := 0) rfl)))) (fun a S => ?_)
  refine lx_q (.bool (a0.1 != a1.1)) S trivial (by decide) (q_bneq rfl rfl Try.underlying4) (fun a S => ?_)
  refine lx_nil ?_
  refine thenN ?_
  refine cond_b S rfl (fun hc31 => ?_) (fun hc31 => ?_)
  · have hm := ite_t hc31 hm
    refine wp_seq ?_
    refine region_plain ?_
    refine lx_q (.bool false) S trivial (by decide) (q_assign rfl) (fun a S => ?_)
    refine lx_nil ?_
    refine thenN ?_
    refine wp_ret ?_
    refine then_ret ?_
    obtain rfl := Option.some.inj hm
    have H : Heap w0 [] w29 := H.sel [] (by decide)
    exact leave1 S rfl rfl ⟨rfl, H⟩
  · have hm := ite_f hc31 hm
    refine wp_skip ?_
    refine thenN ?_
    refine wp_seq ?_
    refine wp_seq ?_
    refine region_plain ?_
    refine lx_q (pAdd (bp b25) 1) S trivial (by decide) (q_fieldAddr' 1 4 rfl (isP_bp _) Try.underlying58 rfl Try.sizeOf4) (fun a S => ?_)
    refine lx_e (.bool a0.2.1) S trivial (by decide) rfl trivial (q_load1 rfl Try.isAgg4 (by rintro _ rfl; exact (At.of_add (m := 1) (j := 0) (boxAt (i := 1) H rfl (j := 1) rfl)))) (fun a S => ?_)
    refine lx_q (pAdd (bp b28) 1) S trivial (by decide) (q_fieldAddr' 1 4 rfl (isP_bp _) Try.underlying58 rfl Try.sizeOf4) (fun a S => ?_)
    refine lx_e (.bool a1.2.1) S trivial (by decide) rfl trivial (q_load1 rfl Try.isAgg4 (by rintro _ rfl; exact (At.of_add (m := 1) (j := 0) (boxAt (i := 0) H rfl (j := 1) rfl)))) (fun a S => ?_)
    refine lx_q (.bool (a0.2.1 != a1.2.1)) S trivial (by decide) (q_bneq rfl rfl Try.underlying4) (fun a S => ?_)
    refine lx_nil ?_
    refine thenN ?_
    refine cond_b S rfl (fun hc32 => ?_) (fun hc32 => ?_)
    · have hm := ite_t hc32 hm
      refine wp_seq ?_
      refine region_plain ?_
      refine lx_q (.bool false) S trivial (by decide) (q_assign rfl) (fun a S => ?_)
      refine lx_nil ?_
      refine thenN ?_
      refine wp_ret ?_
      refine then_ret ?_
      obtain rfl := Option.some.inj hm
      have H : Heap w0 [] w29 := H.sel [] (by decide)
      exact leave1 S rfl rfl ⟨rfl, H⟩
    · have hm := ite_f hc32 hm
      refine wp_skip ?_
      refine thenN ?_
      refine wp_seq ?_
      refine wp_seq ?_
      refine region_plain ?_
      refine lx_q (pAdd (bp b25) 2) S trivial (by decide) (q_fieldAddr' 2 29 rfl (isP_bp _) Try.underlying58 rfl Try.sizeOf29) (fun a S => ?_)
      refine lx_e v3 S trivial (by decide) rfl trivial (q_load1 rfl Try.isAgg29 (by rintro _ rfl; exact (At.of_add (m := 2) (j := 0) (boxAt (i := 1) H rfl (j := 2) rfl)))) (fun a S => ?_)
      refine lx_q (pAdd (bp b28) 2) S trivial (by decide) (q_fieldAddr' 2 29 rfl (isP_bp _) Try.underlying58 rfl Try.sizeOf29) (fun a S => ?_)
      refine lx_e v15 S trivial (by decide) rfl trivial (q_load1 rfl Try.isAgg29 (by rintro _ rfl; exact (At.of_add (m := 2) (j := 0) (boxAt (i := 0) H rfl (j := 2) rfl)))) (fun a S => ?_)
      obtain ⟨x35, e36, hm⟩ := bind_some hm
      refine lx_call (xs := [.tmp 16, .tmp 18]) S trivial (by decide) rfl rfl Try.call16 ((laws_eqInt64S_ok (H.arg h4) (H.arg h16) e36).mono ?_)
      rintro e w33 ⟨rfl, Hc34⟩
      have he37 := Hc34.ext
      have H := H.call0 Hc34
      refine ⟨_, rfl, trivial, fun a S => ?_⟩
      refine lx_q (.bool (!x35)) S trivial (by decide) (q_not rfl) (fun a S => ?_)
      refine lx_nil ?_
      refine thenN ?_
      refine cond_b S rfl (fun hc38 => ?_) (fun hc38 => ?_)
      · have hm := ite_t hc38 hm
        refine wp_seq ?_
        refine region_plain ?_
        refine lx_q (.bool false) S trivial (by decide) (q_assign rfl) (fun a S => ?_)
        refine lx_nil ?_
        refine thenN ?_
        refine wp_ret ?_
        refine then_ret ?_
        obtain rfl := Option.some.inj hm
        have H : Heap w0 [] w33 := H.sel [] (by decide)
        exact leave1 S rfl rfl ⟨rfl, H⟩
      · have hm := ite_f hc38 hm
        refine wp_skip ?_
        refine thenN ?_
        refine wp_seq ?_
        refine region_plain ?_
        refine lx_q (.bool true) S trivial (by decide) (q_assign rfl) (fun a S => ?_)
        refine lx_nil ?_
        refine thenN ?_
        refine wp_ret ?_
        obtain rfl := Option.some.inj hm
        have H : Heap w0 [] w33 := H.sel [] (by decide)
        exact leave1 S rfl rfl ⟨rfl, H⟩

/-- laws.eqEquationS -/
def laws_eqEquationS_m (fuel : Nat) (a0 : (List T58)) (a1 : (List T58)) : Option (Bool) :=
  (if ((a0.length : Int) != (a1.length : Int)) = true then some (false) else (iter (fun (s : (Int)) => (match s with | (x42) => (if (decide (x42 < (a0.length : Int))) = true then (idx a0 x42).bind fun x94 => (idx a1 x42).bind fun x109 => (laws_eqEquation_m fuel (x94.1, x94.2.1, x94.2.2) (x109.1, x109.2.1, x109.2.2)).bind fun x126 => (if (!x126) = true then some (.inr (.inr false)) else some (.inl ((W (x42 + (1 : Int)))))) else some (.inr (.inl ()))) : Option (((Int)) ⊕ ((Unit) ⊕ (Bool))))) fuel ((0 : Int))).bind fun res83 => ctl (β := Unit) (ρ := Bool) (τ := Bool) res83 (fun _ => some (true)) (fun q => some (q)))
set_option maxRecDepth 20000 in
theorem laws_eqEquationS_ok {w0 : World} {fuel : Nat} {p0 p1 : Value} {a0 : (List T58)} {a1 : (List T58)} {r : Bool} (h0 : Rd (rList R58) w0 p0 a0) (h1 : Rd (rList R58) w0 p1 a1) (hm : laws_eqEquationS_m fuel a0 a1 = some r) :
    Calls Try.prog 13 #[p0, p1] w0 fun e w => e = .returned (.bool r) ∧ Heap w0 [] w := by
  unfold laws_eqEquationS_m at hm
  have H := Heap.start w0
  refine enter (args := [p0, p1]) Try.func13 rfl 27 rfl (Nat.le_of_ble_eq_true rfl) (fun a S => ?_)
  refine wp_seq ?_
  refine region_plain ?_
  refine lx_q (.bool false) S trivial (by decide) (q_assign rfl) (fun a S => ?_)
  refine lx_nil ?_
  refine thenN ?_
  refine wp_seq ?_
  refine wp_seq ?_
  refine region_plain ?_
  refine lx_q p0 S trivial (by decide) (q_move rfl) (fun a S => ?_)
  refine lx_q (.int .i64 (a0.length : Int)) S trivial (by decide) (q_lenSl rfl (h0).isSl rfl Try.underlying25) (fun a S => ?_)
  refine lx_q p1 S trivial (by decide) (q_move rfl) (fun a S => ?_)
  refine lx_q (.int .i64 (a1.length : Int)) S trivial (by decide) (q_lenSl rfl (h1).isSl rfl Try.underlying25) (fun a S => ?_)
  refine lx_q (.bool ((a0.length : Int) != (a1.length : Int))) S trivial (by decide) (q_neq rfl rfl) (fun a S => ?_)
  refine lx_nil ?_
  refine thenN ?_
  refine cond_b S rfl (fun hc1 => ?_) (fun hc1 => ?_)
  · have hm := ite_t hc1 hm
    refine wp_seq ?_
    refine region_plain ?_
    refine lx_q (.bool false) S trivial (by decide) (q_assign rfl) (fun a S => ?_)
    refine lx_nil ?_
    refine thenN ?_
    refine wp_ret ?_
    refine then_ret ?_
    obtain rfl := Option.some.inj hm
    exact leave1 S rfl rfl ⟨rfl, H⟩
  · have hm := ite_f hc1 hm
    refine wp_skip ?_
    refine thenN ?_
    refine wp_seq ?_
    refine wp_seq ?_
    refine region_plain ?_
    refine lx_q (.int .i64 (0 : Int)) S trivial (by decide) (q_assign rfl) (fun a S => ?_)
    refine lx_nil ?_
    refine thenN ?_
    obtain ⟨res83, hit84, hk87⟩ := bind_some hm
    obtain ⟨f85, hf86, hit84⟩ := iter_name hit84
    refine block_loop (fun a w => Slots a 27 [] ∧ Heap w0 [] w ∧ res83 = .inl ()) ?_ ?_
    · rintro a w ⟨S, H, rfl⟩
      have hm := ctl_inl hk87
      refine thenN ?_
      refine wp_seq ?_
      refine region_plain ?_
      refine lx_q (.bool true) S trivial (by decide) (q_assign rfl) (fun a S => ?_)
      refine lx_nil ?_
      refine thenN ?_
      refine wp_ret ?_
      obtain rfl := Option.some.inj hm
      exact leave1 S rfl rfl ⟨rfl, H⟩
    · skip
      refine loop_ghost (fun n a w => ∃ (x42 : Int), Slots a 27 [(0, p0), (1, p1), (5, (.int .i64 x42))] ∧ Heap w0 [] w ∧ iter f85 n (x42) = some res83) _ ⟨(0 : Int), S.sub ⟨rfl, rfl, rfl, trivial⟩, H, hit84⟩ ?_
      rintro n a w ⟨x42, S, H, hit84⟩
      obtain ⟨m88, o89, rfl, hm, hc90⟩ := iter_step hit84
      rw [hf86] at hm
      refine wp_seq ?_
      refine wp_seq ?_
      refine region_plain ?_
      refine lx_q (.int .i64 x42) S trivial (by decide) (q_move rfl) (fun a S => ?_)
      refine lx_q p0 S trivial (by decide) (q_move rfl) (fun a S => ?_)
      refine lx_q (.int .i64 (a0.length : Int)) S trivial (by decide) (q_lenSl rfl (h0).isSl rfl Try.underlying25) (fun a S => ?_)
      refine lx_q (.bool (decide (x42 < (a0.length : Int)))) S trivial (by decide) (q_lss rfl rfl) (fun a S => ?_)
      refine lx_nil ?_
      refine thenN ?_
      refine cond_b S rfl (fun hc91 => ?_) (fun hc91 => ?_)
      · have hm := ite_t hc91 hm
        refine wp_skip ?_
        refine thenN ?_
        refine wp_seq ?_
        refine wp_block ?_
        refine wp_seq ?_
        refine region_drawG (fun w1 => Heap w0 [] w1) (fun i => [8].contains i) mixed (by kernel_rfl) (fun w93 he92 => ?_)
        have H := H.later he92
        refine ⟨H.sel [] (by decide), ?_⟩
        refine lx_q p0 S trivial (by decide) (q_move rfl) (fun a S => ?_)
        refine lx_q (.int .i64 x42) S trivial (by decide) (q_move rfl) (fun a S => ?_)
        obtain ⟨x94, e95, hm⟩ := bind_some hm
        obtain ⟨c96, h97, hat98⟩ := (h0).elem (idx_some e95).2
        obtain ⟨c101, c102, rfl, h103, h104⟩ := h97
        obtain rfl := h103
        obtain ⟨c105, c106, rfl, h107, h108⟩ := h104
        obtain rfl := h107
        obtain ⟨v99, rfl, h100⟩ := rd_list h108
        have hlt := lt_of_idx (idx_some e95).2
        refine lx_q (ePtr p0 (x42.toNat * 3)) S trivial (by decide) (q_indexAddr rfl (h0).isSl rfl (idx_some e95).1 hlt Try.underlying25 Try.sizeOf58) (fun a S => ?_)
        refine lx_q (.agg #[(.bool x94.1), (.bool x94.2.1), v99]) S trivial (by decide) (q_loadA (cs := [(.bool x94.1), (.bool x94.2.1), v99]) rfl ((hat98 0 _ rfl).isP) Try.isAgg58 Try.sizeOf58 (fun w1 hC => (fun j u hu => (hat98 j u hu).ext hC.ext))) (fun a S => ?_)
        refine lx_q p1 S trivial (by decide) (q_move rfl) (fun a S => ?_)
        refine lx_q (.int .i64 x42) S trivial (by decide) (q_move rfl) (fun a S => ?_)
        obtain ⟨x109, e110, hm⟩ := bind_some hm
        obtain ⟨c111, h112, hat113⟩ := (h1).elem (idx_some e110).2
        obtain ⟨c116, c117, rfl, h118, h119⟩ := h112
        obtain rfl := h118
        obtain ⟨c120, c121, rfl, h122, h123⟩ := h119
        obtain rfl := h122
        obtain ⟨v114, rfl, h115⟩ := rd_list h123
        have hlt := lt_of_idx (idx_some e110).2
        refine lx_q (ePtr p1 (x42.toNat * 3)) S trivial (by decide) (q_indexAddr rfl (h1).isSl rfl (idx_some e110).1 hlt Try.underlying25 Try.sizeOf58) (fun a S => ?_)
        refine lx_q (.agg #[(.bool x109.1), (.bool x109.2.1), v114]) S trivial (by decide) (q_loadA (cs := [(.bool x109.1), (.bool x109.2.1), v114]) rfl ((hat113 0 _ rfl).isP) Try.isAgg58 Try.sizeOf58 (fun w1 hC => (fun j u hu => (hat113 j u hu).ext hC.ext))) (fun a S => ?_)
        obtain ⟨x126, e127, hm⟩ := bind_some hm
        refine lx_call (xs := [.tmp 20, .tmp 24]) S trivial (by decide) rfl rfl Try.call45 ((laws_eqEquation_ok ⟨[(.bool x94.1), (.bool x94.2.1), v99], rfl, ⟨[(.bool x94.1)], [(.bool x94.2.1), v99], rfl, rfl, ⟨[(.bool x94.2.1)], [v99], rfl, rfl, ((H.arg h100)).list_rd⟩⟩⟩ ⟨[(.bool x109.1), (.bool x109.2.1), v114], rfl, ⟨[(.bool x109.1)], [(.bool x109.2.1), v114], rfl, rfl, ⟨[(.bool x109.2.1)], [v114], rfl, rfl, ((H.arg h115)).list_rd⟩⟩⟩ e127).mono ?_)
        rintro e w124 ⟨rfl, Hc125⟩
        have he128 := Hc125.ext
        have H := H.call0 Hc125
        refine ⟨_, rfl, H.sel [] (by decide), fun a S => ?_⟩
        refine lx_q (.bool (!x126)) S trivial (by decide) (q_not rfl) (fun a S => ?_)
        refine lx_nil ?_
        refine thenN ?_
        refine cond_b S rfl (fun hc129 => ?_) (fun hc129 => ?_)
        · have hm := ite_t hc129 hm
          refine wp_seq ?_
          refine region_plain ?_
          refine lx_q (.bool false) S trivial (by decide) (q_assign rfl) (fun a S => ?_)
          refine lx_nil ?_
          refine thenN ?_
          refine wp_ret ?_
          refine inBlock_ret ?_
          refine then_ret ?_
          refine then_ret ?_
          refine inBlock_ret ?_
          refine then_ret ?_
          refine then_ret ?_
          obtain rfl := it_brk hm hc90
          have hm := ctl_inr hk87
          obtain rfl := Option.some.inj hm
          exact leave1 S rfl rfl ⟨rfl, H⟩
        · have hm := ite_f hc129 hm
          refine wp_skip ?_
          refine inBlock_norm ?_
          refine thenN ?_
          refine region_plain ?_
          refine lx_q (.int .i64 x42) S trivial (by decide) (q_move rfl) (fun a S => ?_)
          refine lx_q (.int .i64 (W (x42 + (1 : Int)))) S trivial (by decide) (q_add rfl rfl) (fun a S => ?_)
          refine lx_q (.int .i64 (W (x42 + (1 : Int)))) S trivial (by decide) (q_assign rfl) (fun a S => ?_)
          refine lx_nil ?_
          exact ⟨m88, Nat.lt_succ_self _, (W (x42 + (1 : Int))), S.sub ⟨rfl, rfl, rfl, trivial⟩, H, it_cont hm hc90⟩
      · have hm := ite_f hc91 hm
        refine wp_exit ?_
        refine then_exit ?_
        refine then_exit ?_
        refine inBlock_exit ?_
        obtain rfl := it_brk hm hc90
        exact ⟨S.sub trivial, H, rfl⟩

/-- laws.FnExactValidEquations -/
def laws_FnExactValidEquations_m (fuel : Nat) (a0 : (List T57)) : Option (Bool) :=
  (laws_szEquationS_m fuel a0 (1048576 : Int)).bind fun x3 => (if (decide (x3 < (0 : Int))) = true then some (true) else (laws_toEquationS_m fuel a0).bind fun x9 => (spec_ValidEquations_m fuel x9).bind fun x16 => (laws_toEquationS_m fuel a0).bind fun x21 => (impl_ValidEquations_m fuel x21).bind fun x28 => (if (x28 != x16) = true then some (false) else (laws_toEquationS_m fuel a0).bind fun x34 => (laws_eqEquationS_m fuel x21 x34).bind fun x41 => (if (!x41) = true then some (false) else some (true))))
set_option maxRecDepth 20000 in
theorem laws_FnExactValidEquations_ok {w0 : World} {fuel : Nat} {p0 : Value} {a0 : (List T57)} {r : Bool} (h0 : Rd (rList R57) w0 p0 a0) (hm : laws_FnExactValidEquations_m fuel a0 = some r) :
    Calls Try.prog 3 #[p0] w0 fun e w => e = .returned (.bool r) ∧ Heap w0 [] w := by
  unfold laws_FnExactValidEquations_m at hm
  have H := Heap.start w0
  refine enter (args := [p0]) Try.func3 rfl 27 rfl (Nat.le_of_ble_eq_true rfl) (fun a S => ?_)
  refine wp_seq ?_
  refine region_plain ?_
  refine lx_q (.bool false) S trivial (by decide) (q_assign rfl) (fun a S => ?_)
  refine lx_nil ?_
  refine thenN ?_
  refine wp_seq ?_
  refine region_plain ?_
  refine lx_q (.int .i64 (1048576 : Int)) S trivial (by decide) (q_assign rfl) (fun a S => ?_)
  refine lx_nil ?_
  refine thenN ?_
  refine wp_seq ?_
  refine region_plain ?_
  refine lx_q p0 S trivial (by decide) (q_move rfl) (fun a S => ?_)
  refine lx_q (.int .i64 (1048576 : Int)) S trivial (by decide) (q_move rfl) (fun a S => ?_)
  obtain ⟨x3, e4, hm⟩ := bind_some hm
  refine lx_call (xs := [.tmp 7, .tmp 8]) S trivial (by decide) rfl rfl Try.call9 ((laws_szEquationS_ok (H.arg h0)  e4).mono ?_)
  rintro e w1 ⟨rfl, Hc2⟩
  have he5 := Hc2.ext
  have H := H.call0 Hc2
  refine ⟨_, rfl, trivial, fun a S => ?_⟩
  refine lx_q (.int .i64 x3) S trivial (by decide) (q_assign rfl) (fun a S => ?_)
  refine lx_nil ?_
  refine thenN ?_
  refine wp_seq ?_
  refine wp_seq ?_
  refine region_plain ?_
  refine lx_q (.int .i64 x3) S trivial (by decide) (q_move rfl) (fun a S => ?_)
  refine lx_q (.bool (decide (x3 < (0 : Int)))) S trivial (by decide) (q_lss rfl rfl) (fun a S => ?_)
  refine lx_nil ?_
  refine thenN ?_
  refine cond_b S rfl (fun hc6 => ?_) (fun hc6 => ?_)
  · have hm := ite_t hc6 hm
    refine wp_seq ?_
    refine region_plain ?_
    refine lx_q (.bool true) S trivial (by decide) (q_assign rfl) (fun a S => ?_)
    refine lx_nil ?_
    refine thenN ?_
    refine wp_ret ?_
    refine then_ret ?_
    obtain rfl := Option.some.inj hm
    exact leave1 S rfl rfl ⟨rfl, H⟩
  · have hm := ite_f hc6 hm
    refine wp_skip ?_
    refine thenN ?_
    refine wp_seq ?_
    refine region_plain ?_
    refine lx_q p0 S trivial (by decide) (q_move rfl) (fun a S => ?_)
    obtain ⟨x9, e10, hm⟩ := bind_some hm
    refine lx_call (xs := [.tmp 12]) S trivial (by decide) rfl rfl Try.call11 ((laws_toEquationS_ok (H.arg h0) e10).mono ?_)
    rintro e w7 ⟨v11, rfl, Hc8⟩
    have he13 := Hc8.ext
    have H := H.call1 Hc8
    refine ⟨_, rfl, trivial, fun a S => ?_⟩
    obtain ⟨x16, e17, hm⟩ := bind_some hm
    refine lx_call (xs := [.tmp 13]) S trivial (by decide) rfl rfl Try.call10 ((spec_ValidEquations_ok (H.rdAt 0 rfl) e17).mono ?_)
    rintro e w14 ⟨rfl, Hc15⟩
    have he18 := Hc15.ext
    have H := H.call0 Hc15
    refine ⟨_, rfl, trivial, fun a S => ?_⟩
    refine lx_q (.bool x16) S trivial (by decide) (q_assign rfl) (fun a S => ?_)
    refine lx_nil ?_
    refine thenN ?_
    refine wp_seq ?_
    refine region_plain ?_
    refine lx_q p0 S trivial (by decide) (q_move rfl) (fun a S => ?_)
    obtain ⟨x21, e22, hm⟩ := bind_some hm
    refine lx_call (xs := [.tmp 15]) S trivial (by decide) rfl rfl Try.call11 ((laws_toEquationS_ok (H.arg h0) e22).mono ?_)
    rintro e w19 ⟨v23, rfl, Hc20⟩
    have he25 := Hc20.ext
    have H := H.call1 Hc20
    refine ⟨_, rfl, trivial, fun a S => ?_⟩
    refine lx_q v23 S trivial (by decide) (q_assign rfl) (fun a S => ?_)
    refine lx_nil ?_
    refine thenN ?_
    refine wp_seq ?_
    refine region_plain ?_
    refine lx_q v23 S trivial (by decide) (q_move rfl) (fun a S => ?_)
    obtain ⟨x28, e29, hm⟩ := bind_some hm
    refine lx_call (xs := [.tmp 17]) S trivial (by decide) rfl rfl Try.call12 ((impl_ValidEquations_ok (H.rdAt 0 rfl) e29).mono ?_)
    rintro e w26 ⟨rfl, Hc27⟩
    have he30 := Hc27.ext
    have H := H.call0 Hc27
    refine ⟨_, rfl, trivial, fun a S => ?_⟩
    refine lx_q (.bool x28) S trivial (by decide) (q_assign rfl) (fun a S => ?_)
    refine lx_nil ?_
    refine thenN ?_
    refine wp_seq ?_
    refine wp_seq ?_
    refine region_plain ?_
    refine lx_q (.bool x28) S trivial (by decide) (q_move rfl) (fun a S => ?_)
    refine lx_q (.bool x16) S trivial (by decide) (q_move rfl) (fun a S => ?_)
    refine lx_q (.bool (x28 != x16)) S trivial (by decide) (q_bneq rfl rfl Try.underlying4) (fun a S => ?_)
    refine lx_nil ?_
    refine thenN ?_
    refine cond_b S rfl (fun hc31 => ?_) (fun hc31 => ?_)
    · have hm := ite_t hc31 hm
      refine wp_seq ?_
      refine region_plain ?_
      refine lx_q (.bool false) S trivial (by decide) (q_assign rfl) (fun a S => ?_)
      refine lx_nil ?_
      refine thenN ?_
      refine wp_ret ?_
      refine then_ret ?_
      obtain rfl := Option.some.inj hm
      have H : Heap w0 [] w26 := H.sel [] (by decide)
      exact leave1 S rfl rfl ⟨rfl, H⟩
    · have hm := ite_f hc31 hm
      refine wp_skip ?_
      refine thenN ?_
      refine wp_seq ?_
      refine wp_seq ?_
      refine region_plain ?_
      refine lx_q v23 S trivial (by decide) (q_move rfl) (fun a S => ?_)
      refine lx_q p0 S trivial (by decide) (q_move rfl) (fun a S => ?_)
      obtain ⟨x34, e35, hm⟩ := bind_some hm
      refine lx_call (xs := [.tmp 23]) S trivial (by decide) rfl rfl Try.call11 ((laws_toEquationS_ok (H.arg h0) e35).mono ?_)
      rintro e w32 ⟨v36, rfl, Hc33⟩
      have he38 := Hc33.ext
      have H := H.call1 Hc33
      refine ⟨_, rfl, trivial, fun a S => ?_⟩
      obtain ⟨x41, e42, hm⟩ := bind_some hm
      refine lx_call (xs := [.tmp 22, .tmp 24]) S trivial (by decide) rfl rfl Try.call13 ((laws_eqEquationS_ok (H.rdAt 1 rfl) (H.rdAt 0 rfl) e42).mono ?_)
      rintro e w39 ⟨rfl, Hc40⟩
      have he43 := Hc40.ext
      have H := H.call0 Hc40
      refine ⟨_, rfl, trivial, fun a S => ?_⟩
      refine lx_q (.bool (!x41)) S trivial (by decide) (q_not rfl) (fun a S => ?_)
      refine lx_nil ?_
      refine thenN ?_
      refine cond_b S rfl (fun hc44 => ?_) (fun hc44 => ?_)
      · have hm := ite_t hc44 hm
        refine wp_seq ?_
        refine region_plain ?_
        refine lx_q (.bool false) S trivial (by decide) (q_assign rfl) (fun a S => ?_)
        refine lx_nil ?_
        refine thenN ?_
        refine wp_ret ?_
        refine then_ret ?_
        obtain rfl := Option.some.inj hm
        have H : Heap w0 [] w39 := H.sel [] (by decide)
        exact leave1 S rfl rfl ⟨rfl, H⟩
      · have hm := ite_f hc44 hm
        refine wp_skip ?_
        refine thenN ?_
        refine wp_seq ?_
        refine region_plain ?_
        refine lx_q (.bool true) S trivial (by decide) (q_assign rfl) (fun a S => ?_)
        refine lx_nil ?_
        refine thenN ?_
        refine wp_ret ?_
        obtain rfl := Option.some.inj hm
        have H : Heap w0 [] w39 := H.sel [] (by decide)
        exact leave1 S rfl rfl ⟨rfl, H⟩
end Go.Proofs.Ytlnibadkmdmelaa
