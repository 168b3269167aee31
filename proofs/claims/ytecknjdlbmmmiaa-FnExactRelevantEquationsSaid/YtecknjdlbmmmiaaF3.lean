/- The models of some functions and their walks (printed by a program of this repo). -/
import Derived.Test.YtecknjdlbmmmiaaF0
import Derived.Test.YtecknjdlbmmmiaaF1
import Derived.Test.YtecknjdlbmmmiaaF2
import Derived.Test.YtecknjdlbmmmiaaGxT
namespace Go.Proofs.Ytecknjdlbmmmiaa
open Go.RowKit Go.Gx

/-- impl.ValidGame -/
def impl_ValidGame_m (fuel : Nat) (a0 : (List Timpl_Vertex)) : Option (Bool) :=
  (impl_within_m fuel (a0.length : Int) (1 : Int) (120 : Int)).bind fun x36 => (if (!x36) = true then some (false) else (slices_ContainsFunc__impl_Vertex_impl_Vertex_m fuel a0 (fun (z0 : Timpl_Vertex) => impl_ValidGame_1_m fuel z0 a0)).bind fun x42 => some ((!x42)))
set_option maxRecDepth 20000 in
theorem impl_ValidGame_ok {w0 : World} {fuel : Nat} {p0 : Value} {a0 : (List Timpl_Vertex)} {r : Bool} (h0 : Rd (rList Rimpl_Vertex) w0 p0 a0) (hm : impl_ValidGame_m fuel a0 = some r) :
    Calls Try.prog 59 #[p0] w0 fun e w => e = .returned (.bool r) ∧ Heap w0 [] w := by
  unfold impl_ValidGame_m at hm
  have H := Heap.start w0
  refine enter (args := [p0]) Try.func59 rfl 11 rfl (Nat.le_of_ble_eq_true rfl) (fun a S => ?_)
  refine wp_seq ?_
  refine region_plain ?_
  refine lx_box S trivial (by decide) rfl H rfl (cells_sl (h0).isSl) (fun b31 w32 H => ⟨trivial, fun a S => ?_⟩)
  refine lx_q (.bool false) S trivial (by decide) (q_assign rfl) (fun a S => ?_)
  refine lx_nil ?_
  refine thenN ?_
  refine wp_seq ?_
  refine wp_seq ?_
  refine region_plain ?_
  refine lx_e p0 S trivial (by decide) rfl trivial (q_load1 rfl Try.isAgg26 (by rintro _ rfl; exact (boxAt (i := 0) H rfl (j := 0) rfl))) (fun a S => ?_)
  refine lx_q (.int .i64 (a0.length : Int)) S trivial (by decide) (q_lenSl rfl (h0).isSl rfl Try.underlying26) (fun a S => ?_)
  obtain ⟨x36, e37, hm⟩ := bind_some hm
  refine lx_call (xs := [.tmp 4, .const (.int .i64 (1)), .const (.int .i64 (120))]) S trivial (by decide) rfl rfl Try.call112 ((impl_within_ok    e37).mono ?_)
  rintro e w34 ⟨rfl, Hc35⟩
  have he38 := Hc35.ext
  have H := H.call0 Hc35
  refine ⟨_, rfl, trivial, fun a S => ?_⟩
  refine lx_q (.bool (!x36)) S trivial (by decide) (q_not rfl) (fun a S => ?_)
  refine lx_nil ?_
  refine thenN ?_
  refine cond_b S rfl (fun hc39 => ?_) (fun hc39 => ?_)
  · have hm := ite_t hc39 hm
    refine wp_seq ?_
    refine region_plain ?_
    refine lx_q (.bool false) S trivial (by decide) (q_assign rfl) (fun a S => ?_)
    refine lx_nil ?_
    refine thenN ?_
    refine wp_ret ?_
    refine then_ret ?_
    obtain rfl := Option.some.inj hm
    have H : Heap w0 [] w34 := H.sel [] (by decide)
    exact leave1 S rfl rfl ⟨rfl, H⟩
  · have hm := ite_f hc39 hm
    refine wp_skip ?_
    refine thenN ?_
    refine wp_seq ?_
    refine region_plain ?_
    refine lx_e p0 S trivial (by decide) rfl trivial (q_load1 rfl Try.isAgg26 (by rintro _ rfl; exact (boxAt (i := 0) H rfl (j := 0) rfl))) (fun a S => ?_)
    refine lx_q (.func (.func 114) #[] #[(bp b31)]) S trivial (by decide) (q_makeFunc (xs := []) (ys := [.tmp 1]) rfl rfl) (fun a S => ?_)
    obtain ⟨x42, e43, hm⟩ := bind_some hm
    have hcap44 : Rd (rPtr (rList Rimpl_Vertex)) w34 (bp b31) a0 := (rdPtr_box H 0 rfl ((H.arg h0)).list_rd)
    refine lx_call (xs := [.tmp 7, .tmp 8]) S trivial (by decide) rfl rfl Try.call113 ((slices_ContainsFunc__impl_Vertex_impl_Vertex_ok (f1 := 114) (fs1 := ([] : List Value)) (cp1 := ([(bp b31)] : List Value)) (a1 := (fun (z0 : Timpl_Vertex) => impl_ValidGame_1_m fuel z0 a0)) (H.arg h0) Try.call114 (fun he h0_ hm => impl_ValidGame_1_ok h0_ (hcap44.ext he) hm) e43).mono ?_)
    rintro e w40 ⟨rfl, Hc41⟩
    have he45 := Hc41.ext
    have H := H.call0 Hc41
    refine ⟨_, rfl, trivial, fun a S => ?_⟩
    refine lx_q (.bool (!x42)) S trivial (by decide) (q_not rfl) (fun a S => ?_)
    refine lx_q (.bool (!x42)) S trivial (by decide) (q_assign rfl) (fun a S => ?_)
    refine lx_nil ?_
    refine thenN ?_
    refine wp_ret ?_
    obtain rfl := Option.some.inj hm
    have H : Heap w0 [] w40 := H.sel [] (by decide)
    exact leave1 S rfl rfl ⟨rfl, H⟩

/-- impl.playerOk -/
def impl_playerOk_m (fuel : Nat) (a0 : Int) : Option (Bool) :=
  (impl_within_m fuel a0 (0 : Int) (1 : Int)).bind fun x33 => some (x33)
set_option maxRecDepth 20000 in
theorem impl_playerOk_ok {w0 : World} {fuel : Nat} {a0 : Int} {r : Bool} (hm : impl_playerOk_m fuel a0 = some r) :
    Calls Try.prog 60 #[.int .i64 a0] w0 fun e w => e = .returned (.bool r) ∧ Heap w0 [] w := by
  unfold impl_playerOk_m at hm
  have H := Heap.start w0
  refine enter (args := [.int .i64 a0]) Try.func60 rfl 5 rfl (Nat.le_of_ble_eq_true rfl) (fun a S => ?_)
  refine wp_seq ?_
  refine region_plain ?_
  refine lx_q (.bool false) S trivial (by decide) (q_assign rfl) (fun a S => ?_)
  refine lx_nil ?_
  refine thenN ?_
  refine wp_seq ?_
  refine region_plain ?_
  refine lx_q (.int .i64 a0) S trivial (by decide) (q_move rfl) (fun a S => ?_)
  obtain ⟨x33, e34, hm⟩ := bind_some hm
  refine lx_call (xs := [.tmp 3, .const (.int .i64 (0)), .const (.int .i64 (1))]) S trivial (by decide) rfl rfl Try.call112 ((impl_within_ok    e34).mono ?_)
  rintro e w31 ⟨rfl, Hc32⟩
  have he35 := Hc32.ext
  have H := H.call0 Hc32
  refine ⟨_, rfl, trivial, fun a S => ?_⟩
  refine lx_q (.bool x33) S trivial (by decide) (q_assign rfl) (fun a S => ?_)
  refine lx_nil ?_
  refine thenN ?_
  refine wp_ret ?_
  obtain rfl := Option.some.inj hm
  exact leave1 S rfl rfl ⟨rfl, H⟩

/-- slices.Index[[]int64,int64] -/
def slices_Index__int64_int64_m (fuel : Nat) (a0 : (List Int)) (a1 : Int) : Option (Int) :=
  (iter (fun (s : (Int)) => (match s with | (x39) => (if (decide (x39 < (a0.length : Int))) = true then (idx a0 x39).bind fun x57 => (if (a1 == x57) = true then some (.inr (.inr x39)) else some (.inl ((W (x39 + (1 : Int)))))) else some (.inr (.inl ()))) : Option (((Int)) ⊕ ((Unit) ⊕ (Int))))) fuel ((0 : Int))).bind fun res48 => ctl (β := Unit) (ρ := Int) (τ := Int) res48 (fun _ => some ((-1 : Int))) (fun q => some (q))
set_option maxRecDepth 20000 in
theorem slices_Index__int64_int64_ok {w0 : World} {fuel : Nat} {p0 : Value} {a0 : (List Int)} {a1 : Int} {r : Int} (h0 : Rd (rList (rInt .i64)) w0 p0 a0) (hm : slices_Index__int64_int64_m fuel a0 a1 = some r) :
    Calls Try.prog 116 #[p0, .int .i64 a1] w0 fun e w => e = .returned (.int .i64 r) ∧ Heap w0 [] w := by
  unfold slices_Index__int64_int64_m at hm
  have H := Heap.start w0
  refine enter (args := [p0, .int .i64 a1]) Try.func116 rfl 19 rfl (Nat.le_of_ble_eq_true rfl) (fun a S => ?_)
  refine wp_seq ?_
  refine region_plain ?_
  refine lx_q (.int .i64 (0 : Int)) S trivial (by decide) (q_assign rfl) (fun a S => ?_)
  refine lx_nil ?_
  refine thenN ?_
  refine wp_seq ?_
  refine wp_seq ?_
  refine region_plain ?_
  refine lx_q p0 S trivial (by decide) (q_move rfl) (fun a S => ?_)
  refine lx_q (.int .i64 (a0.length : Int)) S trivial (by decide) (q_lenSl rfl (h0).isSl rfl Try.underlying23) (fun a S => ?_)
  refine lx_q (.int .i64 (0 : Int)) S trivial (by decide) (q_move rfl) (fun a S => ?_)
  refine lx_nil ?_
  refine thenN ?_
  obtain ⟨res48, hit49, hk52⟩ := bind_some hm
  obtain ⟨f50, hf51, hit49⟩ := iter_name hit49
  refine block_loop (fun a w => Slots a 19 [] ∧ Heap w0 [] w ∧ res48 = .inl ()) ?_ ?_
  · rintro a w ⟨S, H, rfl⟩
    have hm := ctl_inl hk52
    refine thenN ?_
    refine wp_seq ?_
    refine region_plain ?_
    refine lx_q (.int .i64 (-1 : Int)) S trivial (by decide) (q_assign rfl) (fun a S => ?_)
    refine lx_nil ?_
    refine thenN ?_
    refine wp_ret ?_
    obtain rfl := Option.some.inj hm
    exact leave1 S rfl rfl ⟨rfl, H⟩
  · skip
    refine loop_ghost (fun n a w => ∃ (x39 : Int), Slots a 19 [(0, p0), (1, (.int .i64 a1)), (7, (.int .i64 (a0.length : Int))), (8, (.int .i64 x39))] ∧ Heap w0 [] w ∧ iter f50 n (x39) = some res48) _ ⟨(0 : Int), S.sub ⟨rfl, rfl, rfl, rfl, trivial⟩, H, hit49⟩ ?_
    rintro n a w ⟨x39, S, H, hit49⟩
    obtain ⟨m53, o54, rfl, hm, hc55⟩ := iter_step hit49
    rw [hf51] at hm
    refine wp_seq ?_
    refine region_plain ?_
    refine lx_q (.bool (decide (x39 < (a0.length : Int)))) S trivial (by decide) (q_lss rfl rfl) (fun a S => ?_)
    refine lx_nil ?_
    refine thenN ?_
    refine wp_seq ?_
    refine cond_b S rfl (fun hc56 => ?_) (fun hc56 => ?_)
    · have hm := ite_t hc56 hm
      refine wp_skip ?_
      refine thenN ?_
      refine wp_seq ?_
      refine wp_block ?_
      refine wp_seq ?_
      refine region_plain ?_
      refine lx_q (.int .i64 x39) S trivial (by decide) (q_move rfl) (fun a S => ?_)
      refine lx_q (.int .i64 x39) S trivial (by decide) (q_assign rfl) (fun a S => ?_)
      refine lx_nil ?_
      refine thenN ?_
      refine wp_seq ?_
      refine region_plain ?_
      refine lx_q (.int .i64 a1) S trivial (by decide) (q_move rfl) (fun a S => ?_)
      refine lx_q p0 S trivial (by decide) (q_move rfl) (fun a S => ?_)
      refine lx_q (.int .i64 x39) S trivial (by decide) (q_move rfl) (fun a S => ?_)
      obtain ⟨x57, e58, hm⟩ := bind_some hm
      obtain ⟨c59, h60, hat61⟩ := (h0).elem (idx_some e58).2
      obtain rfl := h60
      have hlt := lt_of_idx (idx_some e58).2
      refine lx_q (ePtr p0 (x39.toNat * 1)) S trivial (by decide) (q_indexAddr rfl (h0).isSl rfl (idx_some e58).1 hlt Try.underlying23 Try.sizeOf2) (fun a S => ?_)
      refine lx_e (.int .i64 x57) S trivial (by decide) rfl trivial (q_load1 rfl Try.isAgg2 (by rintro _ rfl; exact ((hat61 0 _ rfl).ext H.ext))) (fun a S => ?_)
      refine lx_q (.bool (a1 == x57)) S trivial (by decide) (q_eql rfl rfl) (fun a S => ?_)
      refine lx_nil ?_
      refine thenN ?_
      refine cond_b S rfl (fun hc62 => ?_) (fun hc62 => ?_)
      · have hm := ite_t hc62 hm
        refine wp_seq ?_
        refine region_plain ?_
        refine lx_q (.int .i64 x39) S trivial (by decide) (q_move rfl) (fun a S => ?_)
        refine lx_q (.int .i64 x39) S trivial (by decide) (q_assign rfl) (fun a S => ?_)
        refine lx_nil ?_
        refine thenN ?_
        refine wp_ret ?_
        refine inBlock_ret ?_
        refine then_ret ?_
        refine then_ret ?_
        refine inBlock_ret ?_
        refine then_ret ?_
        refine then_ret ?_
        obtain rfl := it_brk hm hc55
        have hm := ctl_inr hk52
        obtain rfl := Option.some.inj hm
        exact leave1 S rfl rfl ⟨rfl, H⟩
      · have hm := ite_f hc62 hm
        refine wp_skip ?_
        refine inBlock_norm ?_
        refine thenN ?_
        refine region_plain ?_
        refine lx_q (.int .i64 (W (x39 + (1 : Int)))) S trivial (by decide) (q_add rfl rfl) (fun a S => ?_)
        refine lx_q (.int .i64 (W (x39 + (1 : Int)))) S trivial (by decide) (q_move rfl) (fun a S => ?_)
        refine lx_nil ?_
        exact ⟨m53, Nat.lt_succ_self _, (W (x39 + (1 : Int))), S.sub ⟨rfl, rfl, rfl, rfl, trivial⟩, H, it_cont hm hc55⟩
    · have hm := ite_f hc56 hm
      refine wp_exit ?_
      refine then_exit ?_
      refine then_exit ?_
      refine inBlock_exit ?_
      obtain rfl := it_brk hm hc55
      exact ⟨S.sub trivial, H, rfl⟩

/-- slices.Contains[[]int64,int64] -/
def slices_Contains__int64_int64_m (fuel : Nat) (a0 : (List Int)) (a1 : Int) : Option (Bool) :=
  (slices_Index__int64_int64_m fuel a0 a1).bind fun x33 => some ((decide ((0 : Int) ≤ x33)))
set_option maxRecDepth 20000 in
theorem slices_Contains__int64_int64_ok {w0 : World} {fuel : Nat} {p0 : Value} {a0 : (List Int)} {a1 : Int} {r : Bool} (h0 : Rd (rList (rInt .i64)) w0 p0 a0) (hm : slices_Contains__int64_int64_m fuel a0 a1 = some r) :
    Calls Try.prog 62 #[p0, .int .i64 a1] w0 fun e w => e = .returned (.bool r) ∧ Heap w0 [] w := by
  unfold slices_Contains__int64_int64_m at hm
  have H := Heap.start w0
  refine enter (args := [p0, .int .i64 a1]) Try.func62 rfl 9 rfl (Nat.le_of_ble_eq_true rfl) (fun a S => ?_)
  refine wp_seq ?_
  refine region_plain ?_
  refine lx_q (.bool false) S trivial (by decide) (q_assign rfl) (fun a S => ?_)
  refine lx_nil ?_
  refine thenN ?_
  refine wp_seq ?_
  refine region_plain ?_
  refine lx_q p0 S trivial (by decide) (q_move rfl) (fun a S => ?_)
  refine lx_q (.int .i64 a1) S trivial (by decide) (q_move rfl) (fun a S => ?_)
  obtain ⟨x33, e34, hm⟩ := bind_some hm
  refine lx_call (xs := [.tmp 5, .tmp 6]) S trivial (by decide) rfl rfl Try.call116 ((slices_Index__int64_int64_ok (H.arg h0)  e34).mono ?_)
  rintro e w31 ⟨rfl, Hc32⟩
  have he35 := Hc32.ext
  have H := H.call0 Hc32
  refine ⟨_, rfl, trivial, fun a S => ?_⟩
  refine lx_q (.bool (decide ((0 : Int) ≤ x33))) S trivial (by decide) (q_geq rfl rfl) (fun a S => ?_)
  refine lx_q (.bool (decide ((0 : Int) ≤ x33))) S trivial (by decide) (q_assign rfl) (fun a S => ?_)
  refine lx_nil ?_
  refine thenN ?_
  refine wp_ret ?_
  obtain rfl := Option.some.inj hm
  exact leave1 S rfl rfl ⟨rfl, H⟩

/-- impl.IsWinningStrategy$1 -/
def impl_IsWinningStrategy_1_m (fuel : Nat) (a0 : Int) (a1 : (List Int)) : Option (Bool) :=
  (slices_Contains__int64_int64_m fuel a1 a0).bind fun x38 => some ((!x38))
set_option maxRecDepth 20000 in
theorem impl_IsWinningStrategy_1_ok {w0 : World} {fuel : Nat} {p1 : Value} {a0 : Int} {a1 : (List Int)} {r : Bool} (h1 : Rd (rPtr (rList (rInt .i64))) w0 p1 a1) (hm : impl_IsWinningStrategy_1_m fuel a0 a1 = some r) :
    Calls Try.prog 64 #[.int .i64 a0, p1] w0 fun e w => e = .returned (.bool r) ∧ Heap w0 [] w := by
  unfold impl_IsWinningStrategy_1_m at hm
  have H := Heap.start w0
  obtain ⟨c31, h32, hat33⟩ := h1.ptr
  obtain ⟨v34, rfl, h35⟩ := rd_list h32
  refine enter (args := [.int .i64 a0, p1]) Try.func64 rfl 8 rfl (Nat.le_of_ble_eq_true rfl) (fun a S => ?_)
  refine wp_seq ?_
  refine region_plain ?_
  refine lx_q (.bool false) S trivial (by decide) (q_assign rfl) (fun a S => ?_)
  refine lx_nil ?_
  refine thenN ?_
  refine wp_seq ?_
  refine region_plain ?_
  refine lx_e v34 S trivial (by decide) rfl trivial (q_load1 rfl Try.isAgg23 (by rintro _ rfl; exact ((hat33 0 _ rfl).ext H.ext))) (fun a S => ?_)
  refine lx_q (.int .i64 a0) S trivial (by decide) (q_move rfl) (fun a S => ?_)
  obtain ⟨x38, e39, hm⟩ := bind_some hm
  refine lx_call (xs := [.tmp 4, .tmp 5]) S trivial (by decide) rfl rfl Try.call62 ((slices_Contains__int64_int64_ok (H.arg h35)  e39).mono ?_)
  rintro e w36 ⟨rfl, Hc37⟩
  have he40 := Hc37.ext
  have H := H.call0 Hc37
  refine ⟨_, rfl, trivial, fun a S => ?_⟩
  refine lx_q (.bool (!x38)) S trivial (by decide) (q_not rfl) (fun a S => ?_)
  refine lx_q (.bool (!x38)) S trivial (by decide) (q_assign rfl) (fun a S => ?_)
  refine lx_nil ?_
  refine thenN ?_
  refine wp_ret ?_
  obtain rfl := Option.some.inj hm
  exact leave1 S rfl rfl ⟨rfl, H⟩

/-- slices.IndexFunc[[]int64,int64] -/
def slices_IndexFunc__int64_int64_m (fuel : Nat) (a0 : (List Int)) (a1 : (Int → Option Bool)) : Option (Int) :=
  (iter (fun (s : (Int)) => (match s with | (x46) => (if (decide (x46 < (a0.length : Int))) = true then (idx a0 x46).bind fun x71 => (a1 x71).bind fun x80 => (if x80 = true then some (.inr (.inr x46)) else some (.inl ((W (x46 + (1 : Int)))))) else some (.inr (.inl ()))) : Option (((Int)) ⊕ ((Unit) ⊕ (Int))))) fuel ((0 : Int))).bind fun res62 => ctl (β := Unit) (ρ := Int) (τ := Int) res62 (fun _ => some ((-1 : Int))) (fun q => some (q))
set_option maxRecDepth 20000 in
theorem slices_IndexFunc__int64_int64_ok {w0 : World} {fuel : Nat} {p0 : Value} {a0 : (List Int)} {a1 : (Int → Option Bool)} {f1 : Nat} {fs1 cp1 : List Value} {r : Int} (h0 : Rd (rList (rInt .i64)) w0 p0 a0) (hcf1 : ∀ args w, (callFunc f1 args).run Try.prog w = .ok (.enter f1 args) w) (hf1 : ∀ {w : World} {x0_ : Int} {y : Bool}, Ext w0 w → a1 x0_ = some y → Calls Try.prog f1 (fs1 ++ ([.int .i64 x0_] : List Value) ++ cp1).toArray w fun e w' => e = .returned (.bool y) ∧ Heap w [] w') (hm : slices_IndexFunc__int64_int64_m fuel a0 a1 = some r) :
    Calls Try.prog 117 #[p0, .func (.func f1) fs1.toArray cp1.toArray] w0 fun e w => e = .returned (.int .i64 r) ∧ Heap w0 [] w := by
  unfold slices_IndexFunc__int64_int64_m at hm
  have H := Heap.start w0
  refine enter (args := [p0, .func (.func f1) fs1.toArray cp1.toArray]) Try.func117 rfl 19 rfl (Nat.le_of_ble_eq_true rfl) (fun a S => ?_)
  refine wp_seq ?_
  refine region_plain ?_
  refine lx_q (.int .i64 (0 : Int)) S trivial (by decide) (q_assign rfl) (fun a S => ?_)
  refine lx_nil ?_
  refine thenN ?_
  refine wp_seq ?_
  refine wp_seq ?_
  refine region_plain ?_
  refine lx_q p0 S trivial (by decide) (q_move rfl) (fun a S => ?_)
  refine lx_q (.int .i64 (a0.length : Int)) S trivial (by decide) (q_lenSl rfl (h0).isSl rfl Try.underlying23) (fun a S => ?_)
  refine lx_q (.int .i64 (0 : Int)) S trivial (by decide) (q_move rfl) (fun a S => ?_)
  refine lx_nil ?_
  refine thenN ?_
  obtain ⟨res62, hit63, hk66⟩ := bind_some hm
  obtain ⟨f64, hf65, hit63⟩ := iter_name hit63
  refine block_loop (fun a w => Slots a 19 [] ∧ Heap w0 [] w ∧ res62 = .inl ()) ?_ ?_
  · rintro a w ⟨S, H, rfl⟩
    have hm := ctl_inl hk66
    refine thenN ?_
    refine wp_seq ?_
    refine region_plain ?_
    refine lx_q (.int .i64 (-1 : Int)) S trivial (by decide) (q_assign rfl) (fun a S => ?_)
    refine lx_nil ?_
    refine thenN ?_
    refine wp_ret ?_
    obtain rfl := Option.some.inj hm
    exact leave1 S rfl rfl ⟨rfl, H⟩
  · skip
    refine loop_ghost (fun n a w => ∃ (x46 : Int), Slots a 19 [(0, p0), (1, (.func (.func f1) fs1.toArray cp1.toArray)), (7, (.int .i64 (a0.length : Int))), (8, (.int .i64 x46))] ∧ Heap w0 [] w ∧ iter f64 n (x46) = some res62) _ ⟨(0 : Int), S.sub ⟨rfl, rfl, rfl, rfl, trivial⟩, H, hit63⟩ ?_
    rintro n a w ⟨x46, S, H, hit63⟩
    obtain ⟨m67, o68, rfl, hm, hc69⟩ := iter_step hit63
    rw [hf65] at hm
    refine wp_seq ?_
    refine region_plain ?_
    refine lx_q (.bool (decide (x46 < (a0.length : Int)))) S trivial (by decide) (q_lss rfl rfl) (fun a S => ?_)
    refine lx_nil ?_
    refine thenN ?_
    refine wp_seq ?_
    refine cond_b S rfl (fun hc70 => ?_) (fun hc70 => ?_)
    · have hm := ite_t hc70 hm
      refine wp_skip ?_
      refine thenN ?_
      refine wp_seq ?_
      refine wp_block ?_
      refine wp_seq ?_
      refine region_plain ?_
      refine lx_q (.int .i64 x46) S trivial (by decide) (q_move rfl) (fun a S => ?_)
      refine lx_q (.int .i64 x46) S trivial (by decide) (q_assign rfl) (fun a S => ?_)
      refine lx_nil ?_
      refine thenN ?_
      refine wp_seq ?_
      refine region_plain ?_
      refine lx_q (.func (.func f1) fs1.toArray cp1.toArray) S trivial (by decide) (q_move rfl) (fun a S => ?_)
      refine lx_q p0 S trivial (by decide) (q_move rfl) (fun a S => ?_)
      refine lx_q (.int .i64 x46) S trivial (by decide) (q_move rfl) (fun a S => ?_)
      obtain ⟨x71, e72, hm⟩ := bind_some hm
      obtain ⟨c73, h74, hat75⟩ := (h0).elem (idx_some e72).2
      obtain rfl := h74
      have hlt := lt_of_idx (idx_some e72).2
      refine lx_q (ePtr p0 (x46.toNat * 1)) S trivial (by decide) (q_indexAddr rfl (h0).isSl rfl (idx_some e72).1 hlt Try.underlying23 Try.sizeOf2) (fun a S => ?_)
      refine lx_e (.int .i64 x71) S trivial (by decide) rfl trivial (q_load1 rfl Try.isAgg2 (by rintro _ rfl; exact ((hat75 0 _ rfl).ext H.ext))) (fun a S => ?_)
      obtain ⟨x80, e81, hm⟩ := bind_some hm
      refine lx_callV (f := f1) (first := fs1) (cap := cp1) (xs := [.tmp 15]) S trivial (by decide) rfl rfl rfl hcf1 ((hf1 H.ext  e81).mono ?_)
      rintro e w78 ⟨rfl, Hc79⟩
      have he82 := Hc79.ext
      have H := H.call0 Hc79
      refine ⟨_, rfl, trivial, fun a S => ?_⟩
      refine lx_nil ?_
      refine thenN ?_
      refine cond_b S rfl (fun hc83 => ?_) (fun hc83 => ?_)
      · have hm := ite_t hc83 hm
        refine wp_seq ?_
        refine region_plain ?_
        refine lx_q (.int .i64 x46) S trivial (by decide) (q_move rfl) (fun a S => ?_)
        refine lx_q (.int .i64 x46) S trivial (by decide) (q_assign rfl) (fun a S => ?_)
        refine lx_nil ?_
        refine thenN ?_
        refine wp_ret ?_
        refine inBlock_ret ?_
        refine then_ret ?_
        refine then_ret ?_
        refine inBlock_ret ?_
        refine then_ret ?_
        refine then_ret ?_
        obtain rfl := it_brk hm hc69
        have hm := ctl_inr hk66
        obtain rfl := Option.some.inj hm
        exact leave1 S rfl rfl ⟨rfl, H⟩
      · have hm := ite_f hc83 hm
        refine wp_skip ?_
        refine inBlock_norm ?_
        refine thenN ?_
        refine region_plain ?_
        refine lx_q (.int .i64 (W (x46 + (1 : Int)))) S trivial (by decide) (q_add rfl rfl) (fun a S => ?_)
        refine lx_q (.int .i64 (W (x46 + (1 : Int)))) S trivial (by decide) (q_move rfl) (fun a S => ?_)
        refine lx_nil ?_
        exact ⟨m67, Nat.lt_succ_self _, (W (x46 + (1 : Int))), S.sub ⟨rfl, rfl, rfl, rfl, trivial⟩, H, it_cont hm hc69⟩
    · have hm := ite_f hc70 hm
      refine wp_exit ?_
      refine then_exit ?_
      refine then_exit ?_
      refine inBlock_exit ?_
      obtain rfl := it_brk hm hc69
      exact ⟨S.sub trivial, H, rfl⟩

/-- slices.ContainsFunc[[]int64,int64] -/
def slices_ContainsFunc__int64_int64_m (fuel : Nat) (a0 : (List Int)) (a1 : (Int → Option Bool)) : Option (Bool) :=
  (slices_IndexFunc__int64_int64_m fuel a0 a1).bind fun x33 => some ((decide ((0 : Int) ≤ x33)))
set_option maxRecDepth 20000 in
theorem slices_ContainsFunc__int64_int64_ok {w0 : World} {fuel : Nat} {p0 : Value} {a0 : (List Int)} {a1 : (Int → Option Bool)} {f1 : Nat} {fs1 cp1 : List Value} {r : Bool} (h0 : Rd (rList (rInt .i64)) w0 p0 a0) (hcf1 : ∀ args w, (callFunc f1 args).run Try.prog w = .ok (.enter f1 args) w) (hf1 : ∀ {w : World} {x0_ : Int} {y : Bool}, Ext w0 w → a1 x0_ = some y → Calls Try.prog f1 (fs1 ++ ([.int .i64 x0_] : List Value) ++ cp1).toArray w fun e w' => e = .returned (.bool y) ∧ Heap w [] w') (hm : slices_ContainsFunc__int64_int64_m fuel a0 a1 = some r) :
    Calls Try.prog 63 #[p0, .func (.func f1) fs1.toArray cp1.toArray] w0 fun e w => e = .returned (.bool r) ∧ Heap w0 [] w := by
  unfold slices_ContainsFunc__int64_int64_m at hm
  have H := Heap.start w0
  refine enter (args := [p0, .func (.func f1) fs1.toArray cp1.toArray]) Try.func63 rfl 9 rfl (Nat.le_of_ble_eq_true rfl) (fun a S => ?_)
  refine wp_seq ?_
  refine region_plain ?_
  refine lx_q (.bool false) S trivial (by decide) (q_assign rfl) (fun a S => ?_)
  refine lx_nil ?_
  refine thenN ?_
  refine wp_seq ?_
  refine region_plain ?_
  refine lx_q p0 S trivial (by decide) (q_move rfl) (fun a S => ?_)
  refine lx_q (.func (.func f1) fs1.toArray cp1.toArray) S trivial (by decide) (q_move rfl) (fun a S => ?_)
  obtain ⟨x33, e34, hm⟩ := bind_some hm
  refine lx_call (xs := [.tmp 5, .tmp 6]) S trivial (by decide) rfl rfl Try.call117 ((slices_IndexFunc__int64_int64_ok (f1 := f1) (fs1 := fs1) (cp1 := cp1) (a1 := a1) (H.arg h0) hcf1 (fun he  hm => hf1 (H.ext.trans he)  hm) e34).mono ?_)
  rintro e w31 ⟨rfl, Hc32⟩
  have he35 := Hc32.ext
  have H := H.call0 Hc32
  refine ⟨_, rfl, trivial, fun a S => ?_⟩
  refine lx_q (.bool (decide ((0 : Int) ≤ x33))) S trivial (by decide) (q_geq rfl rfl) (fun a S => ?_)
  refine lx_q (.bool (decide ((0 : Int) ≤ x33))) S trivial (by decide) (q_assign rfl) (fun a S => ?_)
  refine lx_nil ?_
  refine thenN ?_
  refine wp_ret ?_
  obtain rfl := Option.some.inj hm
  exact leave1 S rfl rfl ⟨rfl, H⟩

/-- impl.badCycle -/
def impl_badCycle_m (fuel : Nat) (a0 : (List (List Int))) (a1 : (List Int)) (a2 : Int) : Option (Bool) :=
  (iter (fun (s : (Int)) => (match s with | (x536) => (if (decide (x536 < (a1.length : Int))) = true then join (κ := Option (((Int)) ⊕ ((Unit) ⊕ (Bool)))) (some (.inl ((W (x536 + (1 : Int)))))) (fun K1051 => (idx a1 x536).bind fun x1053 => (if ((x1053.tmod (2 : Int)) == a2) = true then K1051 else (mks (a0.length : Int) false).bind fun x1059 => (iter (fun (s : (List Bool) × (List Int)) => (match s with | (xs1225, xs1227) => (if (decide ((0 : Int) < (xs1227.length : Int))) = true then (idx xs1227 (0 : Int)).bind fun x1402 => (sub xs1227 (1 : Int) (xs1227.length : Int)).bind fun xs1407 => (idx a0 x1402).bind fun x1409 => (iter (fun (s : (List Bool) × (List Int) × (Int)) => (match s with | (xs1458, xs1460, x1462) => (if (decide (x1462 < (x1409.length : Int))) = true then join (κ := List Bool → List Int → Option (((List Bool) × (List Int) × (Int)) ⊕ (((List Bool) × (List Int)) ⊕ (Bool)))) (fun (xs1518 : List Bool) (xs1520 : List Int) => some (.inl (xs1518, xs1520, (W (x1462 + (1 : Int)))))) (fun K1522 => (idx x1409 x1462).bind fun x1524 => (idx a1 x1524).bind fun x1529 => (if (decide (x1529 < x1053)) = true then some true else (idx xs1458 x1524).bind fun x1537 => some x1537).bind fun t1534 => (if t1534 = true then (K1522 xs1458 xs1460) else (idx xs1458 x1524).bind fun _ => (app xs1460 [x1524]).bind fun x1549 => (K1522 (xs1458.set x1524.toNat true) x1549))) else some (.inr (.inl (xs1458, xs1460)))) : Option (((List Bool) × (List Int) × (Int)) ⊕ (((List Bool) × (List Int)) ⊕ (Bool))))) fuel (xs1225, xs1407, (0 : Int))).bind fun res1509 => ctl (β := (List Bool) × (List Int)) (ρ := Bool) (τ := (((List Bool) × (List Int)) ⊕ (((List Bool)) ⊕ (Bool)))) res1509 (fun (xs1505, xs1507) => some (.inl (xs1505, xs1507))) (fun q => some (.inr (.inr q))) else some (.inr (.inl (xs1225)))) : Option (((List Bool) × (List Int)) ⊕ (((List Bool)) ⊕ (Bool))))) fuel (x1059, [x536])).bind fun res1387 => ctl (β := (List Bool)) (ρ := Bool) (τ := (((Int)) ⊕ ((Unit) ⊕ (Bool)))) res1387 (fun (xs1386) => (idx xs1386 x536).bind fun x1392 => (if x1392 = true then some (.inr (.inr true)) else K1051)) (fun q => some (.inr (.inr q))))) else some (.inr (.inl ()))) : Option (((Int)) ⊕ ((Unit) ⊕ (Bool))))) fuel ((0 : Int))).bind fun res1042 => ctl (β := Unit) (ρ := Bool) (τ := Bool) res1042 (fun _ => some (false)) (fun q => some (q))
set_option maxRecDepth 20000 in
theorem impl_badCycle_ok {w0 : World} {fuel : Nat} {p0 p1 : Value} {a0 : (List (List Int))} {a1 : (List Int)} {a2 : Int} {r : Bool} (h0 : Rd (rList (rList (rInt .i64))) w0 p0 a0) (h1 : Rd (rList (rInt .i64)) w0 p1 a1) (hm : impl_badCycle_m fuel a0 a1 a2 = some r) :
    Calls Try.prog 65 #[p0, p1, .int .i64 a2] w0 fun e w => e = .returned (.bool r) ∧ Heap w0 [] w := by
  unfold impl_badCycle_m at hm
  have H := Heap.start w0
  refine enter (args := [p0, p1, .int .i64 a2]) Try.func65 rfl 72 rfl (Nat.le_of_ble_eq_true rfl) (fun a S => ?_)
  refine wp_seq ?_
  refine region_plain ?_
  refine lx_q (.bool false) S trivial (by decide) (q_assign rfl) (fun a S => ?_)
  refine lx_nil ?_
  refine thenN ?_
  refine wp_seq ?_
  refine wp_seq ?_
  refine region_plain ?_
  refine lx_q p1 S trivial (by decide) (q_move rfl) (fun a S => ?_)
  refine lx_q (.int .i64 (a1.length : Int)) S trivial (by decide) (q_lenSl rfl (h1).isSl rfl Try.underlying23) (fun a S => ?_)
  refine lx_q (.int .i64 (0 : Int)) S trivial (by decide) (q_move rfl) (fun a S => ?_)
  refine lx_nil ?_
  refine thenN ?_
  obtain ⟨res1042, hit1043, hk1046⟩ := bind_some hm
  obtain ⟨f1044, hf1045, hit1043⟩ := iter_name hit1043
  refine block_loop (fun a w => Slots a 72 [] ∧ Heap w0 [] w ∧ res1042 = .inl ()) ?_ ?_
  · rintro a w ⟨S, H, rfl⟩
    have hm := ctl_inl hk1046
    refine thenN ?_
    refine wp_seq ?_
    refine region_plain ?_
    refine lx_q (.bool false) S trivial (by decide) (q_assign rfl) (fun a S => ?_)
    refine lx_nil ?_
    refine thenN ?_
    refine wp_ret ?_
    obtain rfl := Option.some.inj hm
    exact leave1 S rfl rfl ⟨rfl, H⟩
  · skip
    refine loop_ghost (fun n a w => ∃ (x536 : Int), Slots a 72 [(0, p0), (1, p1), (2, (.int .i64 a2)), (14, p1), (15, (.int .i64 (a1.length : Int))), (16, (.int .i64 x536))] ∧ Heap w0 [] w ∧ iter f1044 n (x536) = some res1042) _ ⟨(0 : Int), S.sub ⟨rfl, rfl, rfl, rfl, rfl, rfl, trivial⟩, H, hit1043⟩ ?_
    rintro n a w ⟨x536, S, H, hit1043⟩
    obtain ⟨m1047, o1048, rfl, hm, hc1049⟩ := iter_step hit1043
    rw [hf1045] at hm
    refine wp_seq ?_
    refine region_plain ?_
    refine lx_q (.bool (decide (x536 < (a1.length : Int)))) S trivial (by decide) (q_lss rfl rfl) (fun a S => ?_)
    refine lx_nil ?_
    refine thenN ?_
    refine wp_seq ?_
    refine cond_b S rfl (fun hc1050 => ?_) (fun hc1050 => ?_)
    · have hm := ite_t hc1050 hm
      refine wp_skip ?_
      refine thenN ?_
      obtain ⟨K1051, hK1052, hm⟩ := join_elim hm
      refine seq_cut (fun a w => Slots a 72 [(0, p0), (1, p1), (2, (.int .i64 a2)), (14, p1), (15, (.int .i64 (a1.length : Int))), (16, (.int .i64 x536))] ∧ Heap w0 [] w ∧ K1051 = some o1048) ?_ ?_
      · rintro a w ⟨S, H, hm⟩
        subst hK1052
        refine region_plain ?_
        refine lx_q (.int .i64 (W (x536 + (1 : Int)))) S trivial (by decide) (q_add rfl rfl) (fun a S => ?_)
        refine lx_q (.int .i64 (W (x536 + (1 : Int)))) S trivial (by decide) (q_move rfl) (fun a S => ?_)
        refine lx_nil ?_
        exact ⟨m1047, Nat.lt_succ_self _, (W (x536 + (1 : Int))), S.sub ⟨rfl, rfl, rfl, rfl, rfl, rfl, trivial⟩, H, it_cont hm hc1049⟩
      · skip
        refine wp_block ?_
        refine wp_seq ?_
        refine region_plain ?_
        refine lx_q (.int .i64 x536) S trivial (by decide) (q_move rfl) (fun a S => ?_)
        obtain ⟨x1053, e1054, hm⟩ := bind_some hm
        obtain ⟨c1055, h1056, hat1057⟩ := (h1).elem (idx_some e1054).2
        obtain rfl := h1056
        have hlt := lt_of_idx (idx_some e1054).2
        refine lx_q (ePtr p1 (x536.toNat * 1)) S trivial (by decide) (q_indexAddr rfl (h1).isSl rfl (idx_some e1054).1 hlt Try.underlying23 Try.sizeOf2) (fun a S => ?_)
        refine lx_e (.int .i64 x1053) S trivial (by decide) rfl trivial (q_load1 rfl Try.isAgg2 (by rintro _ rfl; exact ((hat1057 0 _ rfl).ext H.ext))) (fun a S => ?_)
        refine lx_q (.int .i64 x536) S trivial (by decide) (q_assign rfl) (fun a S => ?_)
        refine lx_q (.int .i64 x1053) S trivial (by decide) (q_assign rfl) (fun a S => ?_)
        refine lx_nil ?_
        refine thenN ?_
        refine wp_seq ?_
        refine wp_seq ?_
        refine region_plain ?_
        refine lx_q (.int .i64 x1053) S trivial (by decide) (q_move rfl) (fun a S => ?_)
        refine lx_q (.int .i64 (x1053.tmod (2 : Int))) S trivial (by decide) (q_rem rfl rfl (show (2 : Int) ≠ 0 from by decide)) (fun a S => ?_)
        refine lx_q (.int .i64 a2) S trivial (by decide) (q_move rfl) (fun a S => ?_)
        refine lx_q (.bool ((x1053.tmod (2 : Int)) == a2)) S trivial (by decide) (q_eql rfl rfl) (fun a S => ?_)
        refine lx_nil ?_
        refine thenN ?_
        refine cond_b S rfl (fun hc1058 => ?_) (fun hc1058 => ?_)
        · have hm := ite_t hc1058 hm
          refine wp_exit ?_
          refine then_exit ?_
          refine inBlock_exit ?_
          exact ⟨S.sub ⟨rfl, rfl, rfl, rfl, rfl, rfl, trivial⟩, H, hm⟩
        · have hm := ite_f hc1058 hm
          refine wp_skip ?_
          refine thenN ?_
          refine wp_seq ?_
          refine region_plain ?_
          refine lx_q p0 S trivial (by decide) (q_move rfl) (fun a S => ?_)
          refine lx_q (.int .i64 (a0.length : Int)) S trivial (by decide) (q_lenSl rfl (h0).isSl rfl Try.underlying45) (fun a S => ?_)
          obtain ⟨x1059, e1060, hm⟩ := bind_some hm
          obtain ⟨m1061, hn, hn2, rfl⟩ := mks_some e1060
          refine lx_make (r := rBool) (z0 := false) (n := m1061) S trivial (by decide) rfl H (by rw [← hn]; rfl) (by rw [← hn]; rfl) Try.underlying113 (Try.ti4) rfl rfl (by decide) (fun w => ⟨rfl, rfl⟩) hn2 (by decide) (fun v1062 w1063 H => ⟨trivial, fun a S => ?_⟩)
          refine lx_q v1062 S trivial (by decide) (q_assign rfl) (fun a S => ?_)
          refine lx_nil ?_
          refine thenN ?_
          refine wp_seq ?_
          refine region_plain ?_
          refine lx_q (.int .i64 x536) S trivial (by decide) (q_move rfl) (fun a S => ?_)
          refine lx_buildSlice (r := (rInt .i64)) (xs := [x536]) (ps := [(0, [(.int .i64 x536)])]) (cs := [(.int .i64 x536)]) (parts := [(0, .tmp 28)]) S trivial (by decide) rfl (H.put0 (A := eA) rfl) rfl Try.underlying23 Try.sizeOf2 Try.zeroValue2 (by decide) ⟨rfl, rfl, Nat.le_of_ble_eq_true rfl, trivial⟩ (by intro zs hz; exact fill_dense hz ⟨rfl, trivial⟩ rfl rfl) rfl (by decide) (fun w F hA => by cases (show F = [] from hA); exact ⟨_, _, [(.int .i64 x536)], _, rfl, rfl, ⟨rfl, rfl⟩, ⟨rfl, rfl⟩⟩) (fun v1065 w1066 H => ⟨trivial, fun a S => ?_⟩)
          refine lx_q v1065 S trivial (by decide) (q_assign rfl) (fun a S => ?_)
          refine lx_nil ?_
          refine thenN ?_
          refine wp_seq ?_
          obtain ⟨res1387, hit1388, hk1391⟩ := bind_some hm
          obtain ⟨f1389, hf1390, hit1388⟩ := iter_name hit1388
          refine block_loop (fun a w => ∃ (xs1386 : List Bool), Slots a 72 [(0, p0), (1, p1), (2, (.int .i64 a2)), (7, (.int .i64 x536)), (9, v1062), (14, p1), (15, (.int .i64 (a1.length : Int))), (16, (.int .i64 x536))] ∧ Heap w0 [oA (rList rBool) v1062 xs1386] w ∧ res1387 = .inl (xs1386)) ?_ ?_
          · rintro a w ⟨xs1386, S, H, rfl⟩
            have hm := ctl_inl hk1391
            refine thenN ?_
            refine wp_seq ?_
            refine region_plain ?_
            refine lx_q v1062 S trivial (by decide) (q_move rfl) (fun a S => ?_)
            refine lx_q (.int .i64 x536) S trivial (by decide) (q_move rfl) (fun a S => ?_)
            obtain ⟨x1392, e1393, hm⟩ := bind_some hm
            have hlt := lt_of_idx (idx_some e1393).2
            refine lx_q (ePtr v1062 (x536.toNat * 1)) S trivial (by decide) (q_indexAddr rfl (H.isSl 0 rfl) rfl (idx_some e1393).1 hlt Try.underlying113 Try.sizeOf4) (fun a S => ?_)
            obtain ⟨c1394, h1395, hat1396⟩ := (H.rdAt 0 rfl).elem (idx_some e1393).2
            obtain rfl := h1395
            refine lx_e (.bool x1392) S trivial (by decide) rfl trivial (q_load1 rfl Try.isAgg4 (by rintro _ rfl; exact (hat1396 0 _ rfl))) (fun a S => ?_)
            refine lx_nil ?_
            refine thenN ?_
            refine cond_b S rfl (fun hc1397 => ?_) (fun hc1397 => ?_)
            · have hm := ite_t hc1397 hm
              refine wp_seq ?_
              refine region_plain ?_
              refine lx_q (.bool true) S trivial (by decide) (q_assign rfl) (fun a S => ?_)
              refine lx_nil ?_
              refine thenN ?_
              refine wp_ret ?_
              refine inBlock_ret ?_
              refine then_ret ?_
              refine then_ret ?_
              refine inBlock_ret ?_
              refine then_ret ?_
              refine then_ret ?_
              obtain rfl := it_brk hm hc1049
              have hm := ctl_inr hk1046
              obtain rfl := Option.some.inj hm
              have H : Heap w0 [] w := H.sel [] (by decide)
              exact leave1 S rfl rfl ⟨rfl, H⟩
            · have hm := ite_f hc1397 hm
              refine wp_skip ?_
              refine inBlock_norm ?_
              have H : Heap w0 [] w := H.sel [] (by decide)
              exact ⟨S.sub ⟨rfl, rfl, rfl, rfl, rfl, rfl, trivial⟩, H, hm⟩
          · skip
            have H : Heap w0 [oA (rList rBool) v1062 (List.replicate m1061 false), oA (rList (rInt .i64)) v1065 [x536]] w1066 := H.front 1 rfl
            refine loop_ghost (fun n a w => ∃ (xs1225 : List Bool) (xs1227 : List Int) (v1226 : Value), Slots a 72 [(0, p0), (1, p1), (2, (.int .i64 a2)), (7, (.int .i64 x536)), (8, (.int .i64 x1053)), (9, v1062), (10, v1226), (14, p1), (15, (.int .i64 (a1.length : Int))), (16, (.int .i64 x536))] ∧ Heap w0 [oA (rList rBool) v1062 xs1225, oA (rList (rInt .i64)) v1226 xs1227] w ∧ iter f1389 n (xs1225, xs1227) = some res1387) _ ⟨(List.replicate m1061 false), [x536], v1065, S.sub ⟨rfl, rfl, rfl, rfl, rfl, rfl, rfl, rfl, rfl, rfl, trivial⟩, H, hit1388⟩ ?_
            rintro n a w ⟨xs1225, xs1227, v1226, S, H, hit1388⟩
            obtain ⟨m1398, o1399, rfl, hm, hc1400⟩ := iter_step hit1388
            rw [hf1390] at hm
            refine wp_seq ?_
            refine wp_seq ?_
            refine region_plain ?_
            refine lx_q v1226 S trivial (by decide) (q_move rfl) (fun a S => ?_)
            refine lx_q (.int .i64 (xs1227.length : Int)) S trivial (by decide) (q_lenSl rfl (H.isSl 1 rfl) rfl Try.underlying23) (fun a S => ?_)
            refine lx_q (.bool (decide ((0 : Int) < (xs1227.length : Int)))) S trivial (by decide) (q_gtr rfl rfl) (fun a S => ?_)
            refine lx_nil ?_
            refine thenN ?_
            refine cond_b S rfl (fun hc1401 => ?_) (fun hc1401 => ?_)
            · have hm := ite_t hc1401 hm
              refine wp_skip ?_
              refine thenN ?_
              refine wp_block ?_
              refine wp_seq ?_
              refine region_plain ?_
              refine lx_q v1226 S trivial (by decide) (q_move rfl) (fun a S => ?_)
              obtain ⟨x1402, e1403, hm⟩ := bind_some hm
              have hlt := lt_of_idx (idx_some e1403).2
              refine lx_q (ePtr v1226 ((0 : Int).toNat * 1)) S trivial (by decide) (q_indexAddr rfl (H.isSl 1 rfl) rfl (idx_some e1403).1 hlt Try.underlying23 Try.sizeOf2) (fun a S => ?_)
              obtain ⟨c1404, h1405, hat1406⟩ := (H.rdAt 1 rfl).elem (idx_some e1403).2
              obtain rfl := h1405
              refine lx_e (.int .i64 x1402) S trivial (by decide) rfl trivial (q_load1 rfl Try.isAgg2 (by rintro _ rfl; exact (hat1406 0 _ rfl))) (fun a S => ?_)
              refine lx_q (.int .i64 x1402) S trivial (by decide) (q_assign rfl) (fun a S => ?_)
              refine lx_nil ?_
              refine thenN ?_
              refine wp_seq ?_
              refine region_plain ?_
              refine lx_q v1226 S trivial (by decide) (q_move rfl) (fun a S => ?_)
              obtain ⟨xs1407, e1408, hm⟩ := bind_some hm
              have hsb := (sub_some e1408).1
              refine lx_q (subV v1226 ((1 : Int)).toNat ((xs1227.length : Int)).toNat 1) S trivial (by decide) (q_slice (lo := (some (.const (.int .i64 (1))))) (hi := none) (l := (1 : Int)) (h := (xs1227.length : Int)) (size := 1) rfl (H.isSl 1 rfl) Try.underlying23 Try.sizeOf2 rfl rfl hsb.1 hsb.2.1 hsb.2.2) (fun a S => ?_)
              have H : Heap w0 [oA (rList (rInt .i64)) v1226 xs1227, oA (rList rBool) v1062 xs1225] w := H.front 1 rfl
              have H : Heap w0 [oA (rList (rInt .i64)) (subV v1226 ((1 : Int)).toNat ((xs1227.length : Int)).toNat 1) xs1407, oA (rList rBool) v1062 xs1225] w := H.cut e1408
              refine lx_q (subV v1226 ((1 : Int)).toNat ((xs1227.length : Int)).toNat 1) S trivial (by decide) (q_assign rfl) (fun a S => ?_)
              refine lx_nil ?_
              refine thenN ?_
              refine wp_seq ?_
              refine region_plain ?_
              refine lx_q p0 S trivial (by decide) (q_move rfl) (fun a S => ?_)
              refine lx_q (.int .i64 x1402) S trivial (by decide) (q_move rfl) (fun a S => ?_)
              obtain ⟨x1409, e1410, hm⟩ := bind_some hm
              obtain ⟨c1411, h1412, hat1413⟩ := (h0).elem (idx_some e1410).2
              obtain ⟨v1414, rfl, h1415⟩ := rd_list h1412
              have hlt := lt_of_idx (idx_some e1410).2
              refine lx_q (ePtr p0 (x1402.toNat * 1)) S trivial (by decide) (q_indexAddr rfl (h0).isSl rfl (idx_some e1410).1 hlt Try.underlying45 Try.sizeOf23) (fun a S => ?_)
              refine lx_e v1414 S trivial (by decide) rfl trivial (q_load1 rfl Try.isAgg23 (by rintro _ rfl; exact ((hat1413 0 _ rfl).ext H.ext))) (fun a S => ?_)
              refine lx_q (.int .i64 (x1409.length : Int)) S trivial (by decide) (q_lenSl rfl (h1415).isSl rfl Try.underlying23) (fun a S => ?_)
              refine lx_q (.int .i64 (0 : Int)) S trivial (by decide) (q_move rfl) (fun a S => ?_)
              refine lx_nil ?_
              refine thenN ?_
              obtain ⟨res1509, hit1510, hk1513⟩ := bind_some hm
              obtain ⟨f1511, hf1512, hit1510⟩ := iter_name hit1510
              refine block_loop (fun a w => ∃ (xs1505 : List Bool) (xs1507 : List Int) (v1506 : Value), Slots a 72 [(0, p0), (1, p1), (2, (.int .i64 a2)), (7, (.int .i64 x536)), (8, (.int .i64 x1053)), (9, v1062), (10, v1506), (14, p1), (15, (.int .i64 (a1.length : Int))), (16, (.int .i64 x536))] ∧ Heap w0 [oA (rList rBool) v1062 xs1505, oA (rList (rInt .i64)) v1506 xs1507] w ∧ res1509 = .inl (xs1505, xs1507)) ?_ ?_
              · rintro a w ⟨xs1505, xs1507, v1506, S, H, rfl⟩
                have hm := ctl_inl hk1513
                refine inBlock_norm ?_
                exact ⟨m1398, Nat.lt_succ_self _, xs1505, xs1507, v1506, S.sub ⟨rfl, rfl, rfl, rfl, rfl, rfl, rfl, rfl, rfl, rfl, trivial⟩, H, it_cont hm hc1400⟩
              · skip
                have H : Heap w0 [oA (rList rBool) v1062 xs1225, oA (rList (rInt .i64)) (subV v1226 ((1 : Int)).toNat ((xs1227.length : Int)).toNat 1) xs1407] w := H.front 1 rfl
                refine loop_ghost (fun n a w => ∃ (xs1458 : List Bool) (xs1460 : List Int) (x1462 : Int) (v1459 : Value), Slots a 72 [(0, p0), (1, p1), (2, (.int .i64 a2)), (7, (.int .i64 x536)), (8, (.int .i64 x1053)), (9, v1062), (10, v1459), (14, p1), (15, (.int .i64 (a1.length : Int))), (16, (.int .i64 x536)), (41, v1414), (42, (.int .i64 (x1409.length : Int))), (43, (.int .i64 x1462))] ∧ Heap w0 [oA (rList rBool) v1062 xs1458, oA (rList (rInt .i64)) v1459 xs1460] w ∧ iter f1511 n (xs1458, xs1460, x1462) = some res1509) _ ⟨xs1225, xs1407, (0 : Int), (subV v1226 ((1 : Int)).toNat ((xs1227.length : Int)).toNat 1), S.sub ⟨rfl, rfl, rfl, rfl, rfl, rfl, rfl, rfl, rfl, rfl, rfl, rfl, rfl, trivial⟩, H, hit1510⟩ ?_
                rintro n a w ⟨xs1458, xs1460, x1462, v1459, S, H, hit1510⟩
                obtain ⟨m1514, o1515, rfl, hm, hc1516⟩ := iter_step hit1510
                rw [hf1512] at hm
                refine wp_seq ?_
                refine region_plain ?_
                refine lx_q (.bool (decide (x1462 < (x1409.length : Int)))) S trivial (by decide) (q_lss rfl rfl) (fun a S => ?_)
                refine lx_nil ?_
                refine thenN ?_
                refine wp_seq ?_
                refine cond_b S rfl (fun hc1517 => ?_) (fun hc1517 => ?_)
                · have hm := ite_t hc1517 hm
                  refine wp_skip ?_
                  refine thenN ?_
                  obtain ⟨K1522, hK1523, hm⟩ := join_elim hm
                  refine seq_cut (fun a w => ∃ (xs1518 : List Bool) (xs1520 : List Int) (v1519 : Value), Slots a 72 [(0, p0), (1, p1), (2, (.int .i64 a2)), (7, (.int .i64 x536)), (8, (.int .i64 x1053)), (9, v1062), (10, v1519), (14, p1), (15, (.int .i64 (a1.length : Int))), (16, (.int .i64 x536)), (41, v1414), (42, (.int .i64 (x1409.length : Int))), (43, (.int .i64 x1462))] ∧ Heap w0 [oA (rList rBool) v1062 xs1518, oA (rList (rInt .i64)) v1519 xs1520] w ∧ K1522 xs1518 xs1520 = some o1515) ?_ ?_
                  · rintro a w ⟨xs1518, xs1520, v1519, S, H, hm⟩
                    subst hK1523
                    refine region_plain ?_
                    refine lx_q (.int .i64 (W (x1462 + (1 : Int)))) S trivial (by decide) (q_add rfl rfl) (fun a S => ?_)
                    refine lx_q (.int .i64 (W (x1462 + (1 : Int)))) S trivial (by decide) (q_move rfl) (fun a S => ?_)
                    refine lx_nil ?_
                    exact ⟨m1514, Nat.lt_succ_self _, xs1518, xs1520, (W (x1462 + (1 : Int))), v1519, S.sub ⟨rfl, rfl, rfl, rfl, rfl, rfl, rfl, rfl, rfl, rfl, rfl, rfl, rfl, trivial⟩, H, it_cont hm hc1516⟩
                  · skip
                    refine wp_block ?_
                    refine wp_seq ?_
                    refine region_plain ?_
                    obtain ⟨x1524, e1525, hm⟩ := bind_some hm
                    obtain ⟨c1526, h1527, hat1528⟩ := (h1415).elem (idx_some e1525).2
                    obtain rfl := h1527
                    have hlt := lt_of_idx (idx_some e1525).2
                    refine lx_q (ePtr v1414 (x1462.toNat * 1)) S trivial (by decide) (q_indexAddr rfl (h1415).isSl rfl (idx_some e1525).1 hlt Try.underlying23 Try.sizeOf2) (fun a S => ?_)
                    refine lx_e (.int .i64 x1524) S trivial (by decide) rfl trivial (q_load1 rfl Try.isAgg2 (by rintro _ rfl; exact ((hat1528 0 _ rfl).ext H.ext))) (fun a S => ?_)
                    refine lx_q (.int .i64 x1524) S trivial (by decide) (q_assign rfl) (fun a S => ?_)
                    refine lx_nil ?_
                    refine thenN ?_
                    refine wp_seq ?_
                    refine wp_seq ?_
                    refine region_plain ?_
                    refine lx_q p1 S trivial (by decide) (q_move rfl) (fun a S => ?_)
                    refine lx_q (.int .i64 x1524) S trivial (by decide) (q_move rfl) (fun a S => ?_)
                    obtain ⟨x1529, e1530, hm⟩ := bind_some hm
                    obtain ⟨c1531, h1532, hat1533⟩ := (h1).elem (idx_some e1530).2
                    obtain rfl := h1532
                    have hlt := lt_of_idx (idx_some e1530).2
                    refine lx_q (ePtr p1 (x1524.toNat * 1)) S trivial (by decide) (q_indexAddr rfl (h1).isSl rfl (idx_some e1530).1 hlt Try.underlying23 Try.sizeOf2) (fun a S => ?_)
                    refine lx_e (.int .i64 x1529) S trivial (by decide) rfl trivial (q_load1 rfl Try.isAgg2 (by rintro _ rfl; exact ((hat1533 0 _ rfl).ext H.ext))) (fun a S => ?_)
                    refine lx_q (.int .i64 x1053) S trivial (by decide) (q_move rfl) (fun a S => ?_)
                    refine lx_q (.bool (decide (x1529 < x1053))) S trivial (by decide) (q_lss rfl rfl) (fun a S => ?_)
                    refine lx_q (.bool (decide (x1529 < x1053))) S trivial (by decide) (q_move rfl) (fun a S => ?_)
                    obtain ⟨t1534, e1535, hm⟩ := bind_some hm
                    refine lx_cut 5 (fun a w => Slots a 72 [(0, p0), (1, p1), (2, (.int .i64 a2)), (7, (.int .i64 x536)), (8, (.int .i64 x1053)), (9, v1062), (10, v1459), (13, (.int .i64 x1524)), (14, p1), (15, (.int .i64 (a1.length : Int))), (16, (.int .i64 x536)), (41, v1414), (42, (.int .i64 (x1409.length : Int))), (43, (.int .i64 x1462)), (58, (.bool t1534))] ∧ Heap w0 [oA (rList rBool) v1062 xs1458, oA (rList (rInt .i64)) v1459 xs1460] w) ?_ ?_
                    · by_cases hc1536 : (decide (x1529 < x1053)) = true
                      · have hm := ite_t hc1536 e1535
                        refine lx_skip S rfl rfl (isB_ne hc1536) (by decide) (fun a S => ?_)
                        refine lx_skip S rfl rfl (isB_ne hc1536) (by decide) (fun a S => ?_)
                        refine lx_skip S rfl rfl (isB_ne hc1536) (by decide) (fun a S => ?_)
                        refine lx_skip S rfl rfl (isB_ne hc1536) (by decide) (fun a S => ?_)
                        refine lx_q (.bool true) S trivial (by decide) (q_pickT' rfl hc1536 rfl) (fun a S => ?_)
                        refine lx_nil ?_
                        obtain rfl := Option.some.inj hm
                        exact ⟨S.sub ⟨rfl, rfl, rfl, rfl, rfl, rfl, rfl, rfl, rfl, rfl, rfl, rfl, rfl, rfl, rfl, trivial⟩, H⟩
                      · have hm := ite_f (eq_false_of_ne_true hc1536) e1535
                        have hc1536 : (decide (x1529 < x1053)) = false := eq_false_of_ne_true hc1536
                        refine lx_q v1062 S (want_b rfl rfl hc1536) (by decide) (q_move rfl) (fun a S => ?_)
                        refine lx_q (.int .i64 x1524) S (want_b rfl rfl hc1536) (by decide) (q_move rfl) (fun a S => ?_)
                        obtain ⟨x1537, e1538, hm⟩ := bind_some hm
                        have hlt := lt_of_idx (idx_some e1538).2
                        refine lx_q (ePtr v1062 (x1524.toNat * 1)) S (want_b rfl rfl hc1536) (by decide) (q_indexAddr rfl (H.isSl 0 rfl) rfl (idx_some e1538).1 hlt Try.underlying113 Try.sizeOf4) (fun a S => ?_)
                        obtain ⟨c1539, h1540, hat1541⟩ := (H.rdAt 0 rfl).elem (idx_some e1538).2
                        obtain rfl := h1540
                        refine lx_e (.bool x1537) S (want_b rfl rfl hc1536) (by decide) rfl trivial (q_load1 rfl Try.isAgg4 (by rintro _ rfl; exact (hat1541 0 _ rfl))) (fun a S => ?_)
                        refine lx_q (.bool x1537) S trivial (by decide) (q_pickF' rfl hc1536 rfl) (fun a S => ?_)
                        refine lx_nil ?_
                        obtain rfl := Option.some.inj hm
                        exact ⟨S.sub ⟨rfl, rfl, rfl, rfl, rfl, rfl, rfl, rfl, rfl, rfl, rfl, rfl, rfl, rfl, rfl, trivial⟩, H⟩
                    · rintro a w ⟨S, H⟩
                      refine lx_nil ?_
                      refine thenN ?_
                      refine cond_b S rfl (fun hc1542 => ?_) (fun hc1542 => ?_)
                      · have hm := ite_t hc1542 hm
                        refine wp_exit ?_
                        refine then_exit ?_
                        refine inBlock_exit ?_
                        exact ⟨xs1458, xs1460, v1459, S.sub ⟨rfl, rfl, rfl, rfl, rfl, rfl, rfl, rfl, rfl, rfl, rfl, rfl, rfl, trivial⟩, H, hm⟩
                      · have hm := ite_f hc1542 hm
                        refine wp_skip ?_
                        refine thenN ?_
                        refine wp_seq ?_
                        refine region_plain ?_
                        refine lx_q v1062 S trivial (by decide) (q_move rfl) (fun a S => ?_)
                        refine lx_q (.int .i64 x1524) S trivial (by decide) (q_move rfl) (fun a S => ?_)
                        obtain ⟨x1543, e1544, hm⟩ := bind_some hm
                        have hlt := lt_of_idx (idx_some e1544).2
                        refine lx_q (ePtr v1062 (x1524.toNat * 1)) S trivial (by decide) (q_indexAddr rfl (H.isSl 0 rfl) rfl (idx_some e1544).1 hlt Try.underlying113 Try.sizeOf4) (fun a S => ?_)
                        refine lx_storeElem (r := rBool) (us := [(.bool true)]) (off := 0) (e' := true) S trivial rfl H.putE (by rw [pAdd_zero]; rfl) rfl (idx_some e1544).2 rfl Try.sizeOf4 (Nat.le_of_ble_eq_true rfl) (List.forall_mem_cons.2 ⟨rfl, (fun _ h => nomatch h)⟩) (Upd.full rfl (fun w G hG => by cases (show G = [] from hG); exact ⟨rfl, rfl⟩)) (fun w1545 H => ⟨trivial, fun a S => ?_⟩)
                        refine lx_nil ?_
                        refine thenN ?_
                        refine region_plain ?_
                        refine lx_q v1459 S trivial (by decide) (q_move rfl) (fun a S => ?_)
                        refine lx_q (.int .i64 x1524) S trivial (by decide) (q_move rfl) (fun a S => ?_)
                        refine lx_buildSlice (r := (rInt .i64)) (xs := [x1524]) (ps := [(0, [(.int .i64 x1524)])]) (cs := [(.int .i64 x1524)]) (parts := [(0, .tmp 63)]) S trivial (by decide) rfl (H.put0 (A := eA) rfl) rfl Try.underlying23 Try.sizeOf2 Try.zeroValue2 (by decide) ⟨rfl, rfl, Nat.le_of_ble_eq_true rfl, trivial⟩ (by intro zs hz; exact fill_dense hz ⟨rfl, trivial⟩ rfl rfl) rfl (by decide) (fun w F hA => by cases (show F = [] from hA); exact ⟨_, _, [(.int .i64 x1524)], _, rfl, rfl, ⟨rfl, rfl⟩, ⟨rfl, rfl⟩⟩) (fun v1546 w1547 H => ⟨trivial, fun a S => ?_⟩)
                        obtain ⟨x1549, e1550, hm⟩ := bind_some hm
                        obtain ⟨hle, hap⟩ := app_some e1550
                        replace hap := hap.symm
                        subst hap
                        have H : Heap w0 [oA (rList (rInt .i64)) v1546 [x1524], oA (rList rBool) v1062 (xs1458.set x1524.toNat true), oA (rList (rInt .i64)) v1459 xs1460] w1547 := H.front 0 rfl
                        have H : Heap w0 [oA (rList (rInt .i64)) v1459 xs1460, oA (rList (rInt .i64)) v1546 [x1524], oA (rList rBool) v1062 (xs1458.set x1524.toNat true)] w1547 := H.front 2 rfl
                        refine lx_appendOwn (r := (rInt .i64)) S trivial (by decide) rfl H rfl rfl Try.underlying23 Try.ti2 rfl rfl rfl (by decide) (by decide) hle (fun v1551 w1552 H => ⟨trivial, fun a S => ?_⟩)
                        refine lx_q v1551 S trivial (by decide) (q_assign rfl) (fun a S => ?_)
                        refine lx_nil ?_
                        refine inBlock_norm ?_
                        have H : Heap w0 [oA (rList rBool) v1062 (xs1458.set x1524.toNat true), oA (rList (rInt .i64)) v1551 (xs1460 ++ [x1524])] w1552 := H.front 1 rfl
                        exact ⟨(xs1458.set x1524.toNat true), (xs1460 ++ [x1524]), v1551, S.sub ⟨rfl, rfl, rfl, rfl, rfl, rfl, rfl, rfl, rfl, rfl, rfl, rfl, rfl, trivial⟩, H, hm⟩
                · have hm := ite_f hc1517 hm
                  refine wp_exit ?_
                  refine then_exit ?_
                  refine then_exit ?_
                  refine inBlock_exit ?_
                  obtain rfl := it_brk hm hc1516
                  exact ⟨xs1458, xs1460, v1459, S.sub ⟨rfl, rfl, rfl, rfl, rfl, rfl, rfl, rfl, rfl, rfl, trivial⟩, H, rfl⟩
            · have hm := ite_f hc1401 hm
              refine wp_exit ?_
              refine then_exit ?_
              refine then_exit ?_
              refine inBlock_exit ?_
              obtain rfl := it_brk hm hc1400
              have H : Heap w0 [oA (rList rBool) v1062 xs1225] w := H.sel [0] (by decide)
              exact ⟨xs1225, S.sub ⟨rfl, rfl, rfl, rfl, rfl, rfl, rfl, rfl, trivial⟩, H, rfl⟩
    · have hm := ite_f hc1050 hm
      refine wp_exit ?_
      refine then_exit ?_
      refine then_exit ?_
      refine inBlock_exit ?_
      obtain rfl := it_brk hm hc1049
      exact ⟨S.sub trivial, H, rfl⟩

/-- laws.eqInt64S -/
def laws_eqInt64S_m (fuel : Nat) (a0 : (List Int)) (a1 : (List Int)) : Option (Bool) :=
  (if ((a0.length : Int) != (a1.length : Int)) = true then some (false) else (iter (fun (s : (Int)) => (match s with | (x47) => (if (decide (x47 < (a0.length : Int))) = true then (idx a0 x47).bind fun x74 => (idx a1 x47).bind fun x79 => (if (x74 != x79) = true then some (.inr (.inr false)) else some (.inl ((W (x47 + (1 : Int)))))) else some (.inr (.inl ()))) : Option (((Int)) ⊕ ((Unit) ⊕ (Bool))))) fuel ((0 : Int))).bind fun res63 => ctl (β := Unit) (ρ := Bool) (τ := Bool) res63 (fun _ => some (true)) (fun q => some (q)))
set_option maxRecDepth 20000 in
theorem laws_eqInt64S_ok {w0 : World} {fuel : Nat} {p0 p1 : Value} {a0 : (List Int)} {a1 : (List Int)} {r : Bool} (h0 : Rd (rList (rInt .i64)) w0 p0 a0) (h1 : Rd (rList (rInt .i64)) w0 p1 a1) (hm : laws_eqInt64S_m fuel a0 a1 = some r) :
    Calls Try.prog 19 #[p0, p1] w0 fun e w => e = .returned (.bool r) ∧ Heap w0 [] w := by
  unfold laws_eqInt64S_m at hm
  have H := Heap.start w0
  refine enter (args := [p0, p1]) Try.func19 rfl 26 rfl (Nat.le_of_ble_eq_true rfl) (fun a S => ?_)
  refine wp_seq ?_
  refine region_plain ?_
  refine lx_q (.bool false) S trivial (by decide) (q_assign rfl) (fun a S => ?_)
  refine lx_nil ?_
  refine thenN ?_
  refine wp_seq ?_
  refine wp_seq ?_
  refine region_plain ?_
  refine lx_q p0 S trivial (by decide) (q_move rfl) (fun a S => ?_)
  refine lx_q (.int .i64 (a0.length : Int)) S trivial (by decide) (q_lenSl rfl (h0).isSl rfl Try.underlying23) (fun a S => ?_)
  refine lx_q p1 S trivial (by decide) (q_move rfl) (fun a S => ?_)
  refine lx_q (.int .i64 (a1.length : Int)) S trivial (by decide) (q_lenSl rfl (h1).isSl rfl Try.underlying23) (fun a S => ?_)
  refine lx_q (.bool ((a0.length : Int) != (a1.length : Int))) S trivial (by decide) (q_neq rfl rfl) (fun a S => ?_)
  refine lx_nil ?_
  refine thenN ?_
  refine cond_b S rfl (fun hc31 => ?_) (fun hc31 => ?_)
  · have hm := ite_t hc31 hm
    refine wp_seq ?_
    refine region_plain ?_
    refine lx_q (.bool false) S trivial (by decide) (q_assign rfl) (fun a S => ?_)
    refine lx_nil ?_
    refine thenN ?_
    refine wp_ret ?_
    refine then_ret ?_
    obtain rfl := Option.some.inj hm
    exact leave1 S rfl rfl ⟨rfl, H⟩
  · have hm := ite_f hc31 hm
    refine wp_skip ?_
    refine thenN ?_
    refine wp_seq ?_
    refine wp_seq ?_
    refine region_plain ?_
    refine lx_q (.int .i64 (0 : Int)) S trivial (by decide) (q_assign rfl) (fun a S => ?_)
    refine lx_nil ?_
    refine thenN ?_
    obtain ⟨res63, hit64, hk67⟩ := bind_some hm
    obtain ⟨f65, hf66, hit64⟩ := iter_name hit64
    refine block_loop (fun a w => Slots a 26 [] ∧ Heap w0 [] w ∧ res63 = .inl ()) ?_ ?_
    · rintro a w ⟨S, H, rfl⟩
      have hm := ctl_inl hk67
      refine thenN ?_
      refine wp_seq ?_
      refine region_plain ?_
      refine lx_q (.bool true) S trivial (by decide) (q_assign rfl) (fun a S => ?_)
      refine lx_nil ?_
      refine thenN ?_
      refine wp_ret ?_
      obtain rfl := Option.some.inj hm
      exact leave1 S rfl rfl ⟨rfl, H⟩
    · skip
      refine loop_ghost (fun n a w => ∃ (x47 : Int), Slots a 26 [(0, p0), (1, p1), (5, (.int .i64 x47))] ∧ Heap w0 [] w ∧ iter f65 n (x47) = some res63) _ ⟨(0 : Int), S.sub ⟨rfl, rfl, rfl, trivial⟩, H, hit64⟩ ?_
      rintro n a w ⟨x47, S, H, hit64⟩
      obtain ⟨m68, o69, rfl, hm, hc70⟩ := iter_step hit64
      rw [hf66] at hm
      refine wp_seq ?_
      refine wp_seq ?_
      refine region_plain ?_
      refine lx_q (.int .i64 x47) S trivial (by decide) (q_move rfl) (fun a S => ?_)
      refine lx_q p0 S trivial (by decide) (q_move rfl) (fun a S => ?_)
      refine lx_q (.int .i64 (a0.length : Int)) S trivial (by decide) (q_lenSl rfl (h0).isSl rfl Try.underlying23) (fun a S => ?_)
      refine lx_q (.bool (decide (x47 < (a0.length : Int)))) S trivial (by decide) (q_lss rfl rfl) (fun a S => ?_)
      refine lx_nil ?_
      refine thenN ?_
      refine cond_b S rfl (fun hc71 => ?_) (fun hc71 => ?_)
      · have hm := ite_t hc71 hm
        refine wp_skip ?_
        refine thenN ?_
        refine wp_seq ?_
        refine wp_block ?_
        refine wp_seq ?_
        refine region_drawG (fun w1 => Heap w0 [] w1) (fun i => [].contains i) mixed (by kernel_rfl) (fun w73 he72 => ?_)
        have H := H.later he72
        refine ⟨H.sel [] (by decide), ?_⟩
        refine lx_q p0 S trivial (by decide) (q_move rfl) (fun a S => ?_)
        refine lx_q (.int .i64 x47) S trivial (by decide) (q_move rfl) (fun a S => ?_)
        obtain ⟨x74, e75, hm⟩ := bind_some hm
        obtain ⟨c76, h77, hat78⟩ := (h0).elem (idx_some e75).2
        obtain rfl := h77
        have hlt := lt_of_idx (idx_some e75).2
        refine lx_q (ePtr p0 (x47.toNat * 1)) S trivial (by decide) (q_indexAddr rfl (h0).isSl rfl (idx_some e75).1 hlt Try.underlying23 Try.sizeOf2) (fun a S => ?_)
        refine lx_q (.int .i64 x74) S trivial (by decide) (q_load1 rfl Try.isAgg2 (fun w1 hC => ((hat78 0 _ rfl).ext hC.ext))) (fun a S => ?_)
        refine lx_q p1 S trivial (by decide) (q_move rfl) (fun a S => ?_)
        refine lx_q (.int .i64 x47) S trivial (by decide) (q_move rfl) (fun a S => ?_)
        obtain ⟨x79, e80, hm⟩ := bind_some hm
        obtain ⟨c81, h82, hat83⟩ := (h1).elem (idx_some e80).2
        obtain rfl := h82
        have hlt := lt_of_idx (idx_some e80).2
        refine lx_q (ePtr p1 (x47.toNat * 1)) S trivial (by decide) (q_indexAddr rfl (h1).isSl rfl (idx_some e80).1 hlt Try.underlying23 Try.sizeOf2) (fun a S => ?_)
        refine lx_q (.int .i64 x79) S trivial (by decide) (q_load1 rfl Try.isAgg2 (fun w1 hC => ((hat83 0 _ rfl).ext hC.ext))) (fun a S => ?_)
        refine lx_q (.bool (x74 != x79)) S trivial (by decide) (q_neq rfl rfl) (fun a S => ?_)
        refine lx_nil ?_
        refine thenN ?_
        refine cond_b S rfl (fun hc84 => ?_) (fun hc84 => ?_)
        · have hm := ite_t hc84 hm
          refine wp_seq ?_
          refine region_plain ?_
          refine lx_q (.bool false) S trivial (by decide) (q_assign rfl) (fun a S => ?_)
          refine lx_nil ?_
          refine thenN ?_
          refine wp_ret ?_
          refine inBlock_ret ?_
          refine then_ret ?_
          refine then_ret ?_
          refine inBlock_ret ?_
          refine then_ret ?_
          refine then_ret ?_
          obtain rfl := it_brk hm hc70
          have hm := ctl_inr hk67
          obtain rfl := Option.some.inj hm
          exact leave1 S rfl rfl ⟨rfl, H⟩
        · have hm := ite_f hc84 hm
          refine wp_skip ?_
          refine inBlock_norm ?_
          refine thenN ?_
          refine region_plain ?_
          refine lx_q (.int .i64 x47) S trivial (by decide) (q_move rfl) (fun a S => ?_)
          refine lx_q (.int .i64 (W (x47 + (1 : Int)))) S trivial (by decide) (q_add rfl rfl) (fun a S => ?_)
          refine lx_q (.int .i64 (W (x47 + (1 : Int)))) S trivial (by decide) (q_assign rfl) (fun a S => ?_)
          refine lx_nil ?_
          exact ⟨m68, Nat.lt_succ_self _, (W (x47 + (1 : Int))), S.sub ⟨rfl, rfl, rfl, trivial⟩, H, it_cont hm hc70⟩
      · have hm := ite_f hc71 hm
        refine wp_exit ?_
        refine then_exit ?_
        refine then_exit ?_
        refine inBlock_exit ?_
        obtain rfl := it_brk hm hc70
        exact ⟨S.sub trivial, H, rfl⟩

/-- laws.eqVertex -/
def laws_eqVertex_m (fuel : Nat) (a0 : Timpl_Vertex) (a1 : Timpl_Vertex) : Option (Bool) :=
  (if (a0.1 != a1.1) = true then some (false) else (if (a0.2.1 != a1.2.1) = true then some (false) else (laws_eqInt64S_m fuel a0.2.2 a1.2.2).bind fun x65 => (if (!x65) = true then some (false) else some (true))))
set_option maxRecDepth 20000 in
theorem laws_eqVertex_ok {w0 : World} {fuel : Nat} {p0 p1 : Value} {a0 : Timpl_Vertex} {a1 : Timpl_Vertex} {r : Bool} (h0 : Rd Rimpl_Vertex w0 p0 a0) (h1 : Rd Rimpl_Vertex w0 p1 a1) (hm : laws_eqVertex_m fuel a0 a1 = some r) :
    Calls Try.prog 66 #[p0, p1] w0 fun e w => e = .returned (.bool r) ∧ Heap w0 [] w := by
  unfold laws_eqVertex_m at hm
  have H := Heap.start w0
  obtain ⟨c31, rfl, h32⟩ := h0
  obtain ⟨c35, c36, rfl, h37, h38⟩ := h32
  obtain rfl := h37
  obtain ⟨c39, c40, rfl, h41, h42⟩ := h38
  obtain rfl := h41
  obtain ⟨v33, rfl, h34⟩ := rd_list h42
  obtain ⟨c43, rfl, h44⟩ := h1
  obtain ⟨c47, c48, rfl, h49, h50⟩ := h44
  obtain rfl := h49
  obtain ⟨c51, c52, rfl, h53, h54⟩ := h50
  obtain rfl := h53
  obtain ⟨v45, rfl, h46⟩ := rd_list h54
  refine enter (args := [(.agg #[(.int .i64 a0.1), (.int .i64 a0.2.1), v33]), (.agg #[(.int .i64 a1.1), (.int .i64 a1.2.1), v45])]) Try.func66 rfl 21 rfl (Nat.le_of_ble_eq_true rfl) (fun a S => ?_)
  refine wp_seq ?_
  refine region_plain ?_
  refine lx_box S trivial (by decide) rfl H rfl rfl (fun b55 w56 H => ⟨trivial, fun a S => ?_⟩)
  refine lx_box S trivial (by decide) rfl H rfl rfl (fun b58 w59 H => ⟨trivial, fun a S => ?_⟩)
  refine lx_q (.bool false) S trivial (by decide) (q_assign rfl) (fun a S => ?_)
  refine lx_nil ?_
  refine thenN ?_
  refine wp_seq ?_
  refine wp_seq ?_
  refine region_plain ?_
  refine lx_q (pAdd (bp b55) 0) S trivial (by decide) (q_fieldAddr' 0 2 rfl (isP_bp _) Try.underlying71 rfl Try.sizeOf2) (fun a S => ?_)
  refine lx_e (.int .i64 a0.1) S trivial (by decide) rfl trivial (q_load1 rfl Try.isAgg2 (by rintro _ rfl; exact (At.of_add (m := 0) (j := 0) (boxAt (i := 1) H rfl (j := 0) rfl)))) (fun a S => ?_)
  refine lx_q (pAdd (bp b58) 0) S trivial (by decide) (q_fieldAddr' 0 2 rfl (isP_bp _) Try.underlying71 rfl Try.sizeOf2) (fun a S => ?_)
  refine lx_e (.int .i64 a1.1) S trivial (by decide) rfl trivial (q_load1 rfl Try.isAgg2 (by rintro _ rfl; exact (At.of_add (m := 0) (j := 0) (boxAt (i := 0) H rfl (j := 0) rfl)))) (fun a S => ?_)
  refine lx_q (.bool (a0.1 != a1.1)) S trivial (by decide) (q_neq rfl rfl) (fun a S => ?_)
  refine lx_nil ?_
  refine thenN ?_
  refine cond_b S rfl (fun hc61 => ?_) (fun hc61 => ?_)
  · have hm := ite_t hc61 hm
    refine wp_seq ?_
    refine region_plain ?_
    refine lx_q (.bool false) S trivial (by decide) (q_assign rfl) (fun a S => ?_)
    refine lx_nil ?_
    refine thenN ?_
    refine wp_ret ?_
    refine then_ret ?_
    obtain rfl := Option.some.inj hm
    have H : Heap w0 [] w59 := H.sel [] (by decide)
    exact leave1 S rfl rfl ⟨rfl, H⟩
  · have hm := ite_f hc61 hm
    refine wp_skip ?_
    refine thenN ?_
    refine wp_seq ?_
    refine wp_seq ?_
    refine region_plain ?_
    refine lx_q (pAdd (bp b55) 1) S trivial (by decide) (q_fieldAddr' 1 2 rfl (isP_bp _) Try.underlying71 rfl Try.sizeOf2) (fun a S => ?_)
    refine lx_e (.int .i64 a0.2.1) S trivial (by decide) rfl trivial (q_load1 rfl Try.isAgg2 (by rintro _ rfl; exact (At.of_add (m := 1) (j := 0) (boxAt (i := 1) H rfl (j := 1) rfl)))) (fun a S => ?_)
    refine lx_q (pAdd (bp b58) 1) S trivial (by decide) (q_fieldAddr' 1 2 rfl (isP_bp _) Try.underlying71 rfl Try.sizeOf2) (fun a S => ?_)
    refine lx_e (.int .i64 a1.2.1) S trivial (by decide) rfl trivial (q_load1 rfl Try.isAgg2 (by rintro _ rfl; exact (At.of_add (m := 1) (j := 0) (boxAt (i := 0) H rfl (j := 1) rfl)))) (fun a S => ?_)
    refine lx_q (.bool (a0.2.1 != a1.2.1)) S trivial (by decide) (q_neq rfl rfl) (fun a S => ?_)
    refine lx_nil ?_
    refine thenN ?_
    refine cond_b S rfl (fun hc62 => ?_) (fun hc62 => ?_)
    · have hm := ite_t hc62 hm
      refine wp_seq ?_
      refine region_plain ?_
      refine lx_q (.bool false) S trivial (by decide) (q_assign rfl) (fun a S => ?_)
      refine lx_nil ?_
      refine thenN ?_
      refine wp_ret ?_
      refine then_ret ?_
      obtain rfl := Option.some.inj hm
      have H : Heap w0 [] w59 := H.sel [] (by decide)
      exact leave1 S rfl rfl ⟨rfl, H⟩
    · have hm := ite_f hc62 hm
      refine wp_skip ?_
      refine thenN ?_
      refine wp_seq ?_
      refine wp_seq ?_
      refine region_plain ?_
      refine lx_q (pAdd (bp b55) 2) S trivial (by decide) (q_fieldAddr' 2 23 rfl (isP_bp _) Try.underlying71 rfl Try.sizeOf23) (fun a S => ?_)
      refine lx_e v33 S trivial (by decide) rfl trivial (q_load1 rfl Try.isAgg23 (by rintro _ rfl; exact (At.of_add (m := 2) (j := 0) (boxAt (i := 1) H rfl (j := 2) rfl)))) (fun a S => ?_)
      refine lx_q (pAdd (bp b58) 2) S trivial (by decide) (q_fieldAddr' 2 23 rfl (isP_bp _) Try.underlying71 rfl Try.sizeOf23) (fun a S => ?_)
      refine lx_e v45 S trivial (by decide) rfl trivial (q_load1 rfl Try.isAgg23 (by rintro _ rfl; exact (At.of_add (m := 2) (j := 0) (boxAt (i := 0) H rfl (j := 2) rfl)))) (fun a S => ?_)
      obtain ⟨x65, e66, hm⟩ := bind_some hm
      refine lx_call (xs := [.tmp 16, .tmp 18]) S trivial (by decide) rfl rfl Try.call19 ((laws_eqInt64S_ok (H.arg h34) (H.arg h46) e66).mono ?_)
      rintro e w63 ⟨rfl, Hc64⟩
      have he67 := Hc64.ext
      have H := H.call0 Hc64
      refine ⟨_, rfl, trivial, fun a S => ?_⟩
      refine lx_q (.bool (!x65)) S trivial (by decide) (q_not rfl) (fun a S => ?_)
      refine lx_nil ?_
      refine thenN ?_
      refine cond_b S rfl (fun hc68 => ?_) (fun hc68 => ?_)
      · have hm := ite_t hc68 hm
        refine wp_seq ?_
        refine region_plain ?_
        refine lx_q (.bool false) S trivial (by decide) (q_assign rfl) (fun a S => ?_)
        refine lx_nil ?_
        refine thenN ?_
        refine wp_ret ?_
        refine then_ret ?_
        obtain rfl := Option.some.inj hm
        have H : Heap w0 [] w63 := H.sel [] (by decide)
        exact leave1 S rfl rfl ⟨rfl, H⟩
      · have hm := ite_f hc68 hm
        refine wp_skip ?_
        refine thenN ?_
        refine wp_seq ?_
        refine region_plain ?_
        refine lx_q (.bool true) S trivial (by decide) (q_assign rfl) (fun a S => ?_)
        refine lx_nil ?_
        refine thenN ?_
        refine wp_ret ?_
        obtain rfl := Option.some.inj hm
        have H : Heap w0 [] w63 := H.sel [] (by decide)
        exact leave1 S rfl rfl ⟨rfl, H⟩

/-- laws.eqVertexS -/
def laws_eqVertexS_m (fuel : Nat) (a0 : (List Timpl_Vertex)) (a1 : (List Timpl_Vertex)) : Option (Bool) :=
  (if ((a0.length : Int) != (a1.length : Int)) = true then some (false) else (iter (fun (s : (Int)) => (match s with | (x72) => (if (decide (x72 < (a0.length : Int))) = true then (idx a0 x72).bind fun x124 => (idx a1 x72).bind fun x139 => (laws_eqVertex_m fuel (x124.1, x124.2.1, x124.2.2) (x139.1, x139.2.1, x139.2.2)).bind fun x156 => (if (!x156) = true then some (.inr (.inr false)) else some (.inl ((W (x72 + (1 : Int)))))) else some (.inr (.inl ()))) : Option (((Int)) ⊕ ((Unit) ⊕ (Bool))))) fuel ((0 : Int))).bind fun res113 => ctl (β := Unit) (ρ := Bool) (τ := Bool) res113 (fun _ => some (true)) (fun q => some (q)))
set_option maxRecDepth 20000 in
theorem laws_eqVertexS_ok {w0 : World} {fuel : Nat} {p0 p1 : Value} {a0 : (List Timpl_Vertex)} {a1 : (List Timpl_Vertex)} {r : Bool} (h0 : Rd (rList Rimpl_Vertex) w0 p0 a0) (h1 : Rd (rList Rimpl_Vertex) w0 p1 a1) (hm : laws_eqVertexS_m fuel a0 a1 = some r) :
    Calls Try.prog 18 #[p0, p1] w0 fun e w => e = .returned (.bool r) ∧ Heap w0 [] w := by
  unfold laws_eqVertexS_m at hm
  have H := Heap.start w0
  refine enter (args := [p0, p1]) Try.func18 rfl 27 rfl (Nat.le_of_ble_eq_true rfl) (fun a S => ?_)
  refine wp_seq ?_
  refine region_plain ?_
  refine lx_q (.bool false) S trivial (by decide) (q_assign rfl) (fun a S => ?_)
  refine lx_nil ?_
  refine thenN ?_
  refine wp_seq ?_
  refine wp_seq ?_
  refine region_plain ?_
  refine lx_q p0 S trivial (by decide) (q_move rfl) (fun a S => ?_)
  refine lx_q (.int .i64 (a0.length : Int)) S trivial (by decide) (q_lenSl rfl (h0).isSl rfl Try.underlying26) (fun a S => ?_)
  refine lx_q p1 S trivial (by decide) (q_move rfl) (fun a S => ?_)
  refine lx_q (.int .i64 (a1.length : Int)) S trivial (by decide) (q_lenSl rfl (h1).isSl rfl Try.underlying26) (fun a S => ?_)
  refine lx_q (.bool ((a0.length : Int) != (a1.length : Int))) S trivial (by decide) (q_neq rfl rfl) (fun a S => ?_)
  refine lx_nil ?_
  refine thenN ?_
  refine cond_b S rfl (fun hc31 => ?_) (fun hc31 => ?_)
  · have hm := ite_t hc31 hm
    refine wp_seq ?_
    refine region_plain ?_
    refine lx_q (.bool false) S trivial (by decide) (q_assign rfl) (fun a S => ?_)
    refine lx_nil ?_
    refine thenN ?_
    refine wp_ret ?_
    refine then_ret ?_
    obtain rfl := Option.some.inj hm
    exact leave1 S rfl rfl ⟨rfl, H⟩
  · have hm := ite_f hc31 hm
    refine wp_skip ?_
    refine thenN ?_
    refine wp_seq ?_
    refine wp_seq ?_
    refine region_plain ?_
    refine lx_q (.int .i64 (0 : Int)) S trivial (by decide) (q_assign rfl) (fun a S => ?_)
    refine lx_nil ?_
    refine thenN ?_
    obtain ⟨res113, hit114, hk117⟩ := bind_some hm
    obtain ⟨f115, hf116, hit114⟩ := iter_name hit114
    refine block_loop (fun a w => Slots a 27 [] ∧ Heap w0 [] w ∧ res113 = .inl ()) ?_ ?_
    · rintro a w ⟨S, H, rfl⟩
      have hm := ctl_inl hk117
      refine thenN ?_
      refine wp_seq ?_
      refine region_plain ?_
      refine lx_q (.bool true) S trivial (by decide) (q_assign rfl) (fun a S => ?_)
      refine lx_nil ?_
      refine thenN ?_
      refine wp_ret ?_
      obtain rfl := Option.some.inj hm
      exact leave1 S rfl rfl ⟨rfl, H⟩
    · skip
      refine loop_ghost (fun n a w => ∃ (x72 : Int), Slots a 27 [(0, p0), (1, p1), (5, (.int .i64 x72))] ∧ Heap w0 [] w ∧ iter f115 n (x72) = some res113) _ ⟨(0 : Int), S.sub ⟨rfl, rfl, rfl, trivial⟩, H, hit114⟩ ?_
      rintro n a w ⟨x72, S, H, hit114⟩
      obtain ⟨m118, o119, rfl, hm, hc120⟩ := iter_step hit114
      rw [hf116] at hm
      refine wp_seq ?_
      refine wp_seq ?_
      refine region_plain ?_
      refine lx_q (.int .i64 x72) S trivial (by decide) (q_move rfl) (fun a S => ?_)
      refine lx_q p0 S trivial (by decide) (q_move rfl) (fun a S => ?_)
      refine lx_q (.int .i64 (a0.length : Int)) S trivial (by decide) (q_lenSl rfl (h0).isSl rfl Try.underlying26) (fun a S => ?_)
      refine lx_q (.bool (decide (x72 < (a0.length : Int)))) S trivial (by decide) (q_lss rfl rfl) (fun a S => ?_)
      refine lx_nil ?_
      refine thenN ?_
      refine cond_b S rfl (fun hc121 => ?_) (fun hc121 => ?_)
      · have hm := ite_t hc121 hm
        refine wp_skip ?_
        refine thenN ?_
        refine wp_seq ?_
        refine wp_block ?_
        refine wp_seq ?_
        refine region_drawG (fun w1 => Heap w0 [] w1) (fun i => [8].contains i) mixed (by kernel_rfl) (fun w123 he122 => ?_)
        have H := H.later he122
        refine ⟨H.sel [] (by decide), ?_⟩
        refine lx_q p0 S trivial (by decide) (q_move rfl) (fun a S => ?_)
        refine lx_q (.int .i64 x72) S trivial (by decide) (q_move rfl) (fun a S => ?_)
        obtain ⟨x124, e125, hm⟩ := bind_some hm
        obtain ⟨c126, h127, hat128⟩ := (h0).elem (idx_some e125).2
        obtain ⟨c131, c132, rfl, h133, h134⟩ := h127
        obtain rfl := h133
        obtain ⟨c135, c136, rfl, h137, h138⟩ := h134
        obtain rfl := h137
        obtain ⟨v129, rfl, h130⟩ := rd_list h138
        have hlt := lt_of_idx (idx_some e125).2
        refine lx_q (ePtr p0 (x72.toNat * 3)) S trivial (by decide) (q_indexAddr rfl (h0).isSl rfl (idx_some e125).1 hlt Try.underlying26 Try.sizeOf71) (fun a S => ?_)
        refine lx_q (.agg #[(.int .i64 x124.1), (.int .i64 x124.2.1), v129]) S trivial (by decide) (q_loadA (cs := [(.int .i64 x124.1), (.int .i64 x124.2.1), v129]) rfl ((hat128 0 _ rfl).isP) Try.isAgg71 Try.sizeOf71 (fun w1 hC => (fun j u hu => (hat128 j u hu).ext hC.ext))) (fun a S => ?_)
        refine lx_q p1 S trivial (by decide) (q_move rfl) (fun a S => ?_)
        refine lx_q (.int .i64 x72) S trivial (by decide) (q_move rfl) (fun a S => ?_)
        obtain ⟨x139, e140, hm⟩ := bind_some hm
        obtain ⟨c141, h142, hat143⟩ := (h1).elem (idx_some e140).2
        obtain ⟨c146, c147, rfl, h148, h149⟩ := h142
        obtain rfl := h148
        obtain ⟨c150, c151, rfl, h152, h153⟩ := h149
        obtain rfl := h152
        obtain ⟨v144, rfl, h145⟩ := rd_list h153
        have hlt := lt_of_idx (idx_some e140).2
        refine lx_q (ePtr p1 (x72.toNat * 3)) S trivial (by decide) (q_indexAddr rfl (h1).isSl rfl (idx_some e140).1 hlt Try.underlying26 Try.sizeOf71) (fun a S => ?_)
        refine lx_q (.agg #[(.int .i64 x139.1), (.int .i64 x139.2.1), v144]) S trivial (by decide) (q_loadA (cs := [(.int .i64 x139.1), (.int .i64 x139.2.1), v144]) rfl ((hat143 0 _ rfl).isP) Try.isAgg71 Try.sizeOf71 (fun w1 hC => (fun j u hu => (hat143 j u hu).ext hC.ext))) (fun a S => ?_)
        obtain ⟨x156, e157, hm⟩ := bind_some hm
        refine lx_call (xs := [.tmp 20, .tmp 24]) S trivial (by decide) rfl rfl Try.call66 ((laws_eqVertex_ok ⟨[(.int .i64 x124.1), (.int .i64 x124.2.1), v129], rfl, ⟨[(.int .i64 x124.1)], [(.int .i64 x124.2.1), v129], rfl, rfl, ⟨[(.int .i64 x124.2.1)], [v129], rfl, rfl, ((H.arg h130)).list_rd⟩⟩⟩ ⟨[(.int .i64 x139.1), (.int .i64 x139.2.1), v144], rfl, ⟨[(.int .i64 x139.1)], [(.int .i64 x139.2.1), v144], rfl, rfl, ⟨[(.int .i64 x139.2.1)], [v144], rfl, rfl, ((H.arg h145)).list_rd⟩⟩⟩ e157).mono ?_)
        rintro e w154 ⟨rfl, Hc155⟩
        have he158 := Hc155.ext
        have H := H.call0 Hc155
        refine ⟨_, rfl, H.sel [] (by decide), fun a S => ?_⟩
        refine lx_q (.bool (!x156)) S trivial (by decide) (q_not rfl) (fun a S => ?_)
        refine lx_nil ?_
        refine thenN ?_
        refine cond_b S rfl (fun hc159 => ?_) (fun hc159 => ?_)
        · have hm := ite_t hc159 hm
          refine wp_seq ?_
          refine region_plain ?_
          refine lx_q (.bool false) S trivial (by decide) (q_assign rfl) (fun a S => ?_)
          refine lx_nil ?_
          refine thenN ?_
          refine wp_ret ?_
          refine inBlock_ret ?_
          refine then_ret ?_
          refine then_ret ?_
          refine inBlock_ret ?_
          refine then_ret ?_
          refine then_ret ?_
          obtain rfl := it_brk hm hc120
          have hm := ctl_inr hk117
          obtain rfl := Option.some.inj hm
          exact leave1 S rfl rfl ⟨rfl, H⟩
        · have hm := ite_f hc159 hm
          refine wp_skip ?_
          refine inBlock_norm ?_
          refine thenN ?_
          refine region_plain ?_
          refine lx_q (.int .i64 x72) S trivial (by decide) (q_move rfl) (fun a S => ?_)
          refine lx_q (.int .i64 (W (x72 + (1 : Int)))) S trivial (by decide) (q_add rfl rfl) (fun a S => ?_)
          refine lx_q (.int .i64 (W (x72 + (1 : Int)))) S trivial (by decide) (q_assign rfl) (fun a S => ?_)
          refine lx_nil ?_
          exact ⟨m118, Nat.lt_succ_self _, (W (x72 + (1 : Int))), S.sub ⟨rfl, rfl, rfl, trivial⟩, H, it_cont hm hc120⟩
      · have hm := ite_f hc121 hm
        refine wp_exit ?_
        refine then_exit ?_
        refine then_exit ?_
        refine inBlock_exit ?_
        obtain rfl := it_brk hm hc120
        exact ⟨S.sub trivial, H, rfl⟩

/-- laws.szEquation -/
def laws_szEquation_m (fuel : Nat) (a0 : Tlaws_Equation) (a1 : Int) : Option (Int) :=
  (laws_szInt64S_m fuel a0.2.2 a1).bind fun x48 => (if (decide (x48 < (0 : Int))) = true then some ((-1 : Int)) else some (x48))
set_option maxRecDepth 20000 in
theorem laws_szEquation_ok {w0 : World} {fuel : Nat} {p0 : Value} {a0 : Tlaws_Equation} {a1 : Int} {r : Int} (h0 : Rd Rlaws_Equation w0 p0 a0) (hm : laws_szEquation_m fuel a0 a1 = some r) :
    Calls Try.prog 67 #[p0, .int .i64 a1] w0 fun e w => e = .returned (.int .i64 r) ∧ Heap w0 [] w := by
  unfold laws_szEquation_m at hm
  have H := Heap.start w0
  obtain ⟨c31, rfl, h32⟩ := h0
  obtain ⟨c35, c36, rfl, h37, h38⟩ := h32
  obtain rfl := h37
  obtain ⟨c39, c40, rfl, h41, h42⟩ := h38
  obtain rfl := h41
  obtain ⟨v33, rfl, h34⟩ := rd_list h42
  refine enter (args := [(.agg #[(.bool a0.1), (.bool a0.2.1), v33]), .int .i64 a1]) Try.func67 rfl 12 rfl (Nat.le_of_ble_eq_true rfl) (fun a S => ?_)
  refine wp_seq ?_
  refine region_plain ?_
  refine lx_box S trivial (by decide) rfl H rfl rfl (fun b43 w44 H => ⟨trivial, fun a S => ?_⟩)
  refine lx_q (.int .i64 (0 : Int)) S trivial (by decide) (q_assign rfl) (fun a S => ?_)
  refine lx_nil ?_
  refine thenN ?_
  refine wp_seq ?_
  refine region_plain ?_
  refine lx_q (pAdd (bp b43) 2) S trivial (by decide) (q_fieldAddr' 2 23 rfl (isP_bp _) Try.underlying82 rfl Try.sizeOf23) (fun a S => ?_)
  refine lx_e v33 S trivial (by decide) rfl trivial (q_load1 rfl Try.isAgg23 (by rintro _ rfl; exact (At.of_add (m := 2) (j := 0) (boxAt (i := 0) H rfl (j := 2) rfl)))) (fun a S => ?_)
  refine lx_q (.int .i64 a1) S trivial (by decide) (q_move rfl) (fun a S => ?_)
  obtain ⟨x48, e49, hm⟩ := bind_some hm
  refine lx_call (xs := [.tmp 6, .tmp 7]) S trivial (by decide) rfl rfl Try.call78 ((laws_szInt64S_ok (H.arg h34)  e49).mono ?_)
  rintro e w46 ⟨rfl, Hc47⟩
  have he50 := Hc47.ext
  have H := H.call0 Hc47
  refine ⟨_, rfl, trivial, fun a S => ?_⟩
  refine lx_q (.int .i64 x48) S trivial (by decide) (q_assign rfl) (fun a S => ?_)
  refine lx_nil ?_
  refine thenN ?_
  refine wp_seq ?_
  refine wp_seq ?_
  refine region_plain ?_
  refine lx_q (.int .i64 x48) S trivial (by decide) (q_move rfl) (fun a S => ?_)
  refine lx_q (.bool (decide (x48 < (0 : Int)))) S trivial (by decide) (q_lss rfl rfl) (fun a S => ?_)
  refine lx_nil ?_
  refine thenN ?_
  refine cond_b S rfl (fun hc51 => ?_) (fun hc51 => ?_)
  · have hm := ite_t hc51 hm
    refine wp_seq ?_
    refine region_plain ?_
    refine lx_q (.int .i64 (-1 : Int)) S trivial (by decide) (q_assign rfl) (fun a S => ?_)
    refine lx_nil ?_
    refine thenN ?_
    refine wp_ret ?_
    refine then_ret ?_
    obtain rfl := Option.some.inj hm
    have H : Heap w0 [] w46 := H.sel [] (by decide)
    exact leave1 S rfl rfl ⟨rfl, H⟩
  · have hm := ite_f hc51 hm
    refine wp_skip ?_
    refine thenN ?_
    refine wp_seq ?_
    refine region_plain ?_
    refine lx_q (.int .i64 x48) S trivial (by decide) (q_move rfl) (fun a S => ?_)
    refine lx_q (.int .i64 x48) S trivial (by decide) (q_assign rfl) (fun a S => ?_)
    refine lx_nil ?_
    refine thenN ?_
    refine wp_ret ?_
    obtain rfl := Option.some.inj hm
    have H : Heap w0 [] w46 := H.sel [] (by decide)
    exact leave1 S rfl rfl ⟨rfl, H⟩

/-- laws.szEquationS -/
def laws_szEquationS_m (fuel : Nat) (a0 : (List Tlaws_Equation)) (a1 : Int) : Option (Int) :=
  (if (decide ((W (a1 - (a0.length : Int))) < (0 : Int))) = true then some ((-1 : Int)) else (iter (fun (s : (Int) × (Int)) => (match s with | (x56, x57) => (if (decide (x57 < (a0.length : Int))) = true then (idx a0 x57).bind fun x92 => (laws_szEquation_m fuel (x92.1, x92.2.1, x92.2.2) x56).bind fun x109 => (if (decide (x109 < (0 : Int))) = true then some (.inr (.inr (-1 : Int))) else some (.inl (x109, (W (x57 + (1 : Int)))))) else some (.inr (.inl (x56)))) : Option (((Int) × (Int)) ⊕ ((Int) ⊕ (Int))))) fuel ((W (a1 - (a0.length : Int))), (0 : Int))).bind fun res83 => ctl (β := Int) (ρ := Int) (τ := Int) res83 (fun (x82) => some (x82)) (fun q => some (q)))
set_option maxRecDepth 20000 in
theorem laws_szEquationS_ok {w0 : World} {fuel : Nat} {p0 : Value} {a0 : (List Tlaws_Equation)} {a1 : Int} {r : Int} (h0 : Rd (rList Rlaws_Equation) w0 p0 a0) (hm : laws_szEquationS_m fuel a0 a1 = some r) :
    Calls Try.prog 20 #[p0, .int .i64 a1] w0 fun e w => e = .returned (.int .i64 r) ∧ Heap w0 [] w := by
  unfold laws_szEquationS_m at hm
  have H := Heap.start w0
  refine enter (args := [p0, .int .i64 a1]) Try.func20 rfl 27 rfl (Nat.le_of_ble_eq_true rfl) (fun a S => ?_)
  refine wp_seq ?_
  refine region_plain ?_
  refine lx_q (.int .i64 (0 : Int)) S trivial (by decide) (q_assign rfl) (fun a S => ?_)
  refine lx_nil ?_
  refine thenN ?_
  refine wp_seq ?_
  refine region_plain ?_
  refine lx_q (.int .i64 a1) S trivial (by decide) (q_move rfl) (fun a S => ?_)
  refine lx_q p0 S trivial (by decide) (q_move rfl) (fun a S => ?_)
  refine lx_q (.int .i64 (a0.length : Int)) S trivial (by decide) (q_lenSl rfl (h0).isSl rfl Try.underlying32) (fun a S => ?_)
  refine lx_q (.int .i64 (W (a1 - (a0.length : Int)))) S trivial (by decide) (q_sub rfl rfl) (fun a S => ?_)
  refine lx_q (.int .i64 (W (a1 - (a0.length : Int)))) S trivial (by decide) (q_assign rfl) (fun a S => ?_)
  refine lx_nil ?_
  refine thenN ?_
  refine wp_seq ?_
  refine wp_seq ?_
  refine region_plain ?_
  refine lx_q (.int .i64 (W (a1 - (a0.length : Int)))) S trivial (by decide) (q_move rfl) (fun a S => ?_)
  refine lx_q (.bool (decide ((W (a1 - (a0.length : Int))) < (0 : Int)))) S trivial (by decide) (q_lss rfl rfl) (fun a S => ?_)
  refine lx_nil ?_
  refine thenN ?_
  refine cond_b S rfl (fun hc31 => ?_) (fun hc31 => ?_)
  · have hm := ite_t hc31 hm
    refine wp_seq ?_
    refine region_plain ?_
    refine lx_q (.int .i64 (-1 : Int)) S trivial (by decide) (q_assign rfl) (fun a S => ?_)
    refine lx_nil ?_
    refine thenN ?_
    refine wp_ret ?_
    refine then_ret ?_
    obtain rfl := Option.some.inj hm
    exact leave1 S rfl rfl ⟨rfl, H⟩
  · have hm := ite_f hc31 hm
    refine wp_skip ?_
    refine thenN ?_
    refine wp_seq ?_
    refine wp_seq ?_
    refine region_plain ?_
    refine lx_q (.int .i64 (0 : Int)) S trivial (by decide) (q_assign rfl) (fun a S => ?_)
    refine lx_nil ?_
    refine thenN ?_
    obtain ⟨res83, hit84, hk87⟩ := bind_some hm
    obtain ⟨f85, hf86, hit84⟩ := iter_name hit84
    refine block_loop (fun a w => ∃ (x82 : Int), Slots a 27 [(1, (.int .i64 x82))] ∧ Heap w0 [] w ∧ res83 = .inl (x82)) ?_ ?_
    · rintro a w ⟨x82, S, H, rfl⟩
      have hm := ctl_inl hk87
      refine thenN ?_
      refine wp_seq ?_
      refine region_plain ?_
      refine lx_q (.int .i64 x82) S trivial (by decide) (q_move rfl) (fun a S => ?_)
      refine lx_q (.int .i64 x82) S trivial (by decide) (q_assign rfl) (fun a S => ?_)
      refine lx_nil ?_
      refine thenN ?_
      refine wp_ret ?_
      obtain rfl := Option.some.inj hm
      exact leave1 S rfl rfl ⟨rfl, H⟩
    · skip
      refine loop_ghost (fun n a w => ∃ (x56 : Int) (x57 : Int), Slots a 27 [(0, p0), (1, (.int .i64 x56)), (5, (.int .i64 x57))] ∧ Heap w0 [] w ∧ iter f85 n (x56, x57) = some res83) _ ⟨(W (a1 - (a0.length : Int))), (0 : Int), S.sub ⟨rfl, rfl, rfl, trivial⟩, H, hit84⟩ ?_
      rintro n a w ⟨x56, x57, S, H, hit84⟩
      obtain ⟨m88, o89, rfl, hm, hc90⟩ := iter_step hit84
      rw [hf86] at hm
      refine wp_seq ?_
      refine wp_seq ?_
      refine region_plain ?_
      refine lx_q (.int .i64 x57) S trivial (by decide) (q_move rfl) (fun a S => ?_)
      refine lx_q p0 S trivial (by decide) (q_move rfl) (fun a S => ?_)
      refine lx_q (.int .i64 (a0.length : Int)) S trivial (by decide) (q_lenSl rfl (h0).isSl rfl Try.underlying32) (fun a S => ?_)
      refine lx_q (.bool (decide (x57 < (a0.length : Int)))) S trivial (by decide) (q_lss rfl rfl) (fun a S => ?_)
      refine lx_nil ?_
      refine thenN ?_
      refine cond_b S rfl (fun hc91 => ?_) (fun hc91 => ?_)
      · have hm := ite_t hc91 hm
        refine wp_skip ?_
        refine thenN ?_
        refine wp_seq ?_
        refine wp_block ?_
        refine wp_seq ?_
        refine region_plain ?_
        refine lx_q p0 S trivial (by decide) (q_move rfl) (fun a S => ?_)
        refine lx_q (.int .i64 x57) S trivial (by decide) (q_move rfl) (fun a S => ?_)
        obtain ⟨x92, e93, hm⟩ := bind_some hm
        obtain ⟨c94, h95, hat96⟩ := (h0).elem (idx_some e93).2
        obtain ⟨c99, c100, rfl, h101, h102⟩ := h95
        obtain rfl := h101
        obtain ⟨c103, c104, rfl, h105, h106⟩ := h102
        obtain rfl := h105
        obtain ⟨v97, rfl, h98⟩ := rd_list h106
        have hlt := lt_of_idx (idx_some e93).2
        refine lx_q (ePtr p0 (x57.toNat * 3)) S trivial (by decide) (q_indexAddr rfl (h0).isSl rfl (idx_some e93).1 hlt Try.underlying32 Try.sizeOf82) (fun a S => ?_)
        refine lx_e (.agg #[(.bool x92.1), (.bool x92.2.1), v97]) S trivial (by decide) rfl trivial (q_loadA (cs := [(.bool x92.1), (.bool x92.2.1), v97]) rfl ((hat96 0 _ rfl).isP) Try.isAgg82 Try.sizeOf82 (by rintro _ rfl; exact (fun j u hu => (hat96 j u hu).ext H.ext))) (fun a S => ?_)
        refine lx_q (.int .i64 x56) S trivial (by decide) (q_move rfl) (fun a S => ?_)
        obtain ⟨x109, e110, hm⟩ := bind_some hm
        refine lx_call (xs := [.tmp 21, .tmp 22]) S trivial (by decide) rfl rfl Try.call67 ((laws_szEquation_ok ⟨[(.bool x92.1), (.bool x92.2.1), v97], rfl, ⟨[(.bool x92.1)], [(.bool x92.2.1), v97], rfl, rfl, ⟨[(.bool x92.2.1)], [v97], rfl, rfl, ((H.arg h98)).list_rd⟩⟩⟩  e110).mono ?_)
        rintro e w107 ⟨rfl, Hc108⟩
        have he111 := Hc108.ext
        have H := H.call0 Hc108
        refine ⟨_, rfl, trivial, fun a S => ?_⟩
        refine lx_q (.int .i64 x109) S trivial (by decide) (q_assign rfl) (fun a S => ?_)
        refine lx_nil ?_
        refine thenN ?_
        refine wp_seq ?_
        refine region_plain ?_
        refine lx_q (.int .i64 x109) S trivial (by decide) (q_move rfl) (fun a S => ?_)
        refine lx_q (.bool (decide (x109 < (0 : Int)))) S trivial (by decide) (q_lss rfl rfl) (fun a S => ?_)
        refine lx_nil ?_
        refine thenN ?_
        refine cond_b S rfl (fun hc112 => ?_) (fun hc112 => ?_)
        · have hm := ite_t hc112 hm
          refine wp_seq ?_
          refine region_plain ?_
          refine lx_q (.int .i64 (-1 : Int)) S trivial (by decide) (q_assign rfl) (fun a S => ?_)
          refine lx_nil ?_
          refine thenN ?_
          refine wp_ret ?_
          refine inBlock_ret ?_
          refine then_ret ?_
          refine then_ret ?_
          refine inBlock_ret ?_
          refine then_ret ?_
          refine then_ret ?_
          obtain rfl := it_brk hm hc90
          have hm := ctl_inr hk87
          obtain rfl := Option.some.inj hm
          exact leave1 S rfl rfl ⟨rfl, H⟩
        · have hm := ite_f hc112 hm
          refine wp_skip ?_
          refine inBlock_norm ?_
          refine thenN ?_
          refine region_plain ?_
          refine lx_q (.int .i64 x57) S trivial (by decide) (q_move rfl) (fun a S => ?_)
          refine lx_q (.int .i64 (W (x57 + (1 : Int)))) S trivial (by decide) (q_add rfl rfl) (fun a S => ?_)
          refine lx_q (.int .i64 (W (x57 + (1 : Int)))) S trivial (by decide) (q_assign rfl) (fun a S => ?_)
          refine lx_nil ?_
          exact ⟨m88, Nat.lt_succ_self _, x109, (W (x57 + (1 : Int))), S.sub ⟨rfl, rfl, rfl, trivial⟩, H, it_cont hm hc90⟩
      · have hm := ite_f hc91 hm
        refine wp_exit ?_
        refine then_exit ?_
        refine then_exit ?_
        refine inBlock_exit ?_
        obtain rfl := it_brk hm hc90
        exact ⟨x56, S.sub ⟨rfl, trivial⟩, H, rfl⟩

/-- laws.toEquation -/
def laws_toEquation_m (fuel : Nat) (a0 : Tlaws_Equation) : Option (Timpl_Equation) :=
  (laws_toInt64S_m fuel a0.2.2).bind fun x56 => some ((a0.1, a0.2.1, x56))
set_option maxRecDepth 20000 in
theorem laws_toEquation_ok {w0 : World} {fuel : Nat} {p0 : Value} {a0 : Tlaws_Equation} {r : Timpl_Equation} (h0 : Rd Rlaws_Equation w0 p0 a0) (hm : laws_toEquation_m fuel a0 = some r) :
    Calls Try.prog 70 #[p0] w0 fun e w => ∃ (v0 : Value), e = .returned (.agg #[.bool r.1, .bool r.2.1, v0]) ∧ Heap w0 [oA (rList (rInt .i64)) v0 r.2.2] w := by
  unfold laws_toEquation_m at hm
  have H := Heap.start w0
  obtain ⟨c31, rfl, h32⟩ := h0
  obtain ⟨c35, c36, rfl, h37, h38⟩ := h32
  obtain rfl := h37
  obtain ⟨c39, c40, rfl, h41, h42⟩ := h38
  obtain rfl := h41
  obtain ⟨v33, rfl, h34⟩ := rd_list h42
  refine enter (args := [(.agg #[(.bool a0.1), (.bool a0.2.1), v33])]) Try.func70 rfl 15 rfl (Nat.le_of_ble_eq_true rfl) (fun a S => ?_)
  refine wp_seq ?_
  refine region_plain ?_
  refine lx_box S trivial (by decide) rfl H rfl rfl (fun b43 w44 H => ⟨trivial, fun a S => ?_⟩)
  refine lx_alloc S trivial (by decide) rfl H Try.zeroValue85 rfl (fun b46 w47 H => ⟨trivial, fun a S => ?_⟩)
  refine lx_nil ?_
  refine thenN ?_
  refine wp_seq ?_
  refine region_plain ?_
  refine lx_alloc S trivial (by decide) rfl H Try.zeroValue85 rfl (fun b49 w50 H => ⟨trivial, fun a S => ?_⟩)
  refine lx_nil ?_
  refine thenN ?_
  refine wp_seq ?_
  refine region_plain ?_
  refine lx_q (pAdd (bp b43) 0) S trivial (by decide) (q_fieldAddr' 0 4 rfl (isP_bp _) Try.underlying82 rfl Try.sizeOf4) (fun a S => ?_)
  refine lx_e (.bool a0.1) S trivial (by decide) rfl trivial (q_load1 rfl Try.isAgg4 (by rintro _ rfl; exact (At.of_add (m := 0) (j := 0) (boxAt (i := 2) H rfl (j := 0) rfl)))) (fun a S => ?_)
  refine lx_q (pAdd (bp b49) 0) S trivial (by decide) (q_fieldAddr' 0 4 rfl (isP_bp _) Try.underlying85 rfl Try.sizeOf4) (fun a S => ?_)
  refine lx_storeBox (o := 0) (i := 0) (us := [(.bool a0.1)]) (cs' := [(.bool a0.1), (.bool false), (.slice none 0 0)]) S trivial rfl H rfl rfl rfl rfl Try.sizeOf4 (Nat.le_of_ble_eq_true rfl) (List.forall_mem_cons.2 ⟨rfl, (fun _ h => nomatch h)⟩) rfl (fun w52 H => ⟨trivial, fun a S => ?_⟩)
  change Heap w0 [bA b49 [(.bool a0.1), (.bool false), (.slice none 0 0)] 85, bA b46 [(.bool false), (.bool false), (.slice none 0 0)] 85, bA b43 [(.bool a0.1), (.bool a0.2.1), v33] 82] w52 at H
  refine lx_nil ?_
  refine thenN ?_
  refine wp_seq ?_
  refine region_plain ?_
  refine lx_q (pAdd (bp b43) 1) S trivial (by decide) (q_fieldAddr' 1 4 rfl (isP_bp _) Try.underlying82 rfl Try.sizeOf4) (fun a S => ?_)
  refine lx_e (.bool a0.2.1) S trivial (by decide) rfl trivial (q_load1 rfl Try.isAgg4 (by rintro _ rfl; exact (At.of_add (m := 1) (j := 0) (boxAt (i := 2) H rfl (j := 1) rfl)))) (fun a S => ?_)
  refine lx_q (pAdd (bp b49) 1) S trivial (by decide) (q_fieldAddr' 1 4 rfl (isP_bp _) Try.underlying85 rfl Try.sizeOf4) (fun a S => ?_)
  refine lx_storeBox (o := 1) (i := 0) (us := [(.bool a0.2.1)]) (cs' := [(.bool a0.1), (.bool a0.2.1), (.slice none 0 0)]) S trivial rfl H rfl rfl rfl rfl Try.sizeOf4 (Nat.le_of_ble_eq_true rfl) (List.forall_mem_cons.2 ⟨rfl, (fun _ h => nomatch h)⟩) rfl (fun w53 H => ⟨trivial, fun a S => ?_⟩)
  change Heap w0 [bA b49 [(.bool a0.1), (.bool a0.2.1), (.slice none 0 0)] 85, bA b46 [(.bool false), (.bool false), (.slice none 0 0)] 85, bA b43 [(.bool a0.1), (.bool a0.2.1), v33] 82] w53 at H
  refine lx_nil ?_
  refine thenN ?_
  refine wp_seq ?_
  refine region_plain ?_
  refine lx_q (pAdd (bp b43) 2) S trivial (by decide) (q_fieldAddr' 2 23 rfl (isP_bp _) Try.underlying82 rfl Try.sizeOf23) (fun a S => ?_)
  refine lx_e v33 S trivial (by decide) rfl trivial (q_load1 rfl Try.isAgg23 (by rintro _ rfl; exact (At.of_add (m := 2) (j := 0) (boxAt (i := 2) H rfl (j := 2) rfl)))) (fun a S => ?_)
  obtain ⟨x56, e57, hm⟩ := bind_some hm
  refine lx_call (xs := [.tmp 11]) S trivial (by decide) rfl rfl Try.call16 ((laws_toInt64S_ok (H.arg h34) e57).mono ?_)
  rintro e w54 ⟨v58, rfl, Hc55⟩
  have he60 := Hc55.ext
  have H := H.call1 Hc55
  refine ⟨_, rfl, trivial, fun a S => ?_⟩
  refine lx_q (pAdd (bp b49) 2) S trivial (by decide) (q_fieldAddr' 2 23 rfl (isP_bp _) Try.underlying85 rfl Try.sizeOf23) (fun a S => ?_)
  refine lx_storeBox (o := 2) (i := 1) (us := [v58]) (cs' := [(.bool a0.1), (.bool a0.2.1), v58]) S trivial rfl H rfl rfl rfl (cells_sl (H.isSl 0 rfl)) Try.sizeOf23 (Nat.le_of_ble_eq_true rfl) (List.forall_mem_cons.2 ⟨one_sl (H.isSl 0 rfl), (fun _ h => nomatch h)⟩) rfl (fun w61 H => ⟨trivial, fun a S => ?_⟩)
  change Heap w0 [oA (rList (rInt .i64)) v58 x56, bA b49 [(.bool a0.1), (.bool a0.2.1), v58] 85, bA b46 [(.bool false), (.bool false), (.slice none 0 0)] 85, bA b43 [(.bool a0.1), (.bool a0.2.1), v33] 82] w61 at H
  refine lx_nil ?_
  refine thenN ?_
  refine wp_seq ?_
  refine region_plain ?_
  refine lx_e (.agg #[(.bool a0.1), (.bool a0.2.1), v58]) S trivial (by decide) rfl trivial (q_loadA (cs := [(.bool a0.1), (.bool a0.2.1), v58]) rfl (isP_bp _) Try.isAgg85 Try.sizeOf85 (by rintro _ rfl; exact (fun j u hu => boxAt (i := 1) H rfl hu))) (fun a S => ?_)
  refine lx_storeBox (o := 0) (i := 2) (us := [(.bool a0.1), (.bool a0.2.1), v58]) (cs' := [(.bool a0.1), (.bool a0.2.1), v58]) S trivial rfl H rfl rfl rfl rfl Try.sizeOf85 (Nat.le_of_ble_eq_true rfl) (List.forall_mem_cons.2 ⟨rfl, (List.forall_mem_cons.2 ⟨rfl, (List.forall_mem_cons.2 ⟨one_sl (H.isSl 0 rfl), (fun _ h => nomatch h)⟩)⟩)⟩) rfl (fun w62 H => ⟨trivial, fun a S => ?_⟩)
  change Heap w0 [oA (rList (rInt .i64)) v58 x56, bA b49 [(.bool a0.1), (.bool a0.2.1), v58] 85, bA b46 [(.bool a0.1), (.bool a0.2.1), v58] 85, bA b43 [(.bool a0.1), (.bool a0.2.1), v33] 82] w62 at H
  refine lx_nil ?_
  refine thenN ?_
  refine wp_ret ?_
  have hrv0 := RV.cellA (t := 85) (q := 2) (env := [(0, (.agg #[(.bool a0.1), (.bool a0.2.1), v33])), (1, (bp b43)), (2, (bp b46)), (3, (bp b49)), (4, (pAdd (bp b43) 0)), (5, (.bool a0.1)), (6, (pAdd (bp b49) 0)), (7, (pAdd (bp b43) 1)), (8, (.bool a0.2.1)), (9, (pAdd (bp b49) 1)), (10, (pAdd (bp b43) 2)), (11, v33), (12, v58), (13, (pAdd (bp b49) 2)), (14, (.agg #[(.bool a0.1), (.bool a0.2.1), v58]))]) H (i := 2) rfl rfl Try.isAgg85 Try.sizeOf85
  obtain rfl := Option.some.inj hm
  have H : Heap w0 [oA (rList (rInt .i64)) v58 x56] w62 := H.sel [0] (by decide)
  exact leaveR1 S rfl hrv0 ⟨v58, rfl, H⟩

/-- laws.toEquationS -/
def laws_toEquationS_m (fuel : Nat) (a0 : (List Tlaws_Equation)) : Option ((List Timpl_Equation)) :=
  (mks (a0.length : Int) (false, false, [])).bind fun x31 => (iter (fun (s : (List Timpl_Equation) × (Int)) => (match s with | (xs65, x66) => (if (decide (x66 < (a0.length : Int))) = true then (idx a0 x66).bind fun x105 => (laws_toEquation_m fuel (x105.1, x105.2.1, x105.2.2)).bind fun x122 => (idx xs65 x66).bind fun _ => some (.inl ((xs65.set x66.toNat (x122.1, x122.2.1, x122.2.2)), (W (x66 + (1 : Int))))) else some (.inr (.inl (xs65)))) : Option (((List Timpl_Equation) × (Int)) ⊕ (((List Timpl_Equation)) ⊕ ((List Timpl_Equation)))))) fuel (x31, (0 : Int))).bind fun res96 => ctl (β := (List Timpl_Equation)) (ρ := (List Timpl_Equation)) (τ := (List Timpl_Equation)) res96 (fun (xs95) => some (xs95)) (fun q => some (q))
set_option maxRecDepth 20000 in
theorem laws_toEquationS_ok {w0 : World} {fuel : Nat} {p0 : Value} {a0 : (List Tlaws_Equation)} {r : (List Timpl_Equation)} (h0 : Rd (rList Rlaws_Equation) w0 p0 a0) (hm : laws_toEquationS_m fuel a0 = some r) :
    Calls Try.prog 22 #[p0] w0 fun e w => ∃ (v0 : Value), e = .returned (v0) ∧ Heap w0 [oA (rList Rimpl_Equation) v0 r] w := by
  unfold laws_toEquationS_m at hm
  have H := Heap.start w0
  refine enter (args := [p0]) Try.func22 rfl 23 rfl (Nat.le_of_ble_eq_true rfl) (fun a S => ?_)
  refine wp_seq ?_
  refine region_plain ?_
  refine lx_q (.slice none 0 0) S trivial (by decide) (q_assign rfl) (fun a S => ?_)
  refine lx_nil ?_
  refine thenN ?_
  refine wp_seq ?_
  refine region_plain ?_
  refine lx_q p0 S trivial (by decide) (q_move rfl) (fun a S => ?_)
  refine lx_q (.int .i64 (a0.length : Int)) S trivial (by decide) (q_lenSl rfl (h0).isSl rfl Try.underlying32) (fun a S => ?_)
  obtain ⟨x31, e32, hm⟩ := bind_some hm
  obtain ⟨m33, hn, hn2, rfl⟩ := mks_some e32
  refine lx_make (r := Rimpl_Equation) (z0 := (false, false, [])) (n := m33) S trivial (by decide) rfl H (by rw [← hn]; rfl) (by rw [← hn]; rfl) Try.underlying36 (Try.ti85) rfl rfl (by decide) (fun w => ⟨_, _, [(.bool false)], [(.bool false), (.slice none 0 0)], rfl, rfl, ⟨rfl, rfl⟩, ⟨_, _, [(.bool false)], [(.slice none 0 0)], rfl, rfl, ⟨rfl, rfl⟩, (oA_list.1 drop_nil_own)⟩⟩) hn2 (by decide) (fun v34 w35 H => ⟨trivial, fun a S => ?_⟩)
  refine lx_q v34 S trivial (by decide) (q_assign rfl) (fun a S => ?_)
  refine lx_nil ?_
  refine thenN ?_
  refine wp_seq ?_
  refine wp_seq ?_
  refine region_plain ?_
  refine lx_q (.int .i64 (0 : Int)) S trivial (by decide) (q_assign rfl) (fun a S => ?_)
  refine lx_nil ?_
  refine thenN ?_
  obtain ⟨res96, hit97, hk100⟩ := bind_some hm
  obtain ⟨f98, hf99, hit97⟩ := iter_name hit97
  refine block_loop (fun a w => ∃ (xs95 : List Timpl_Equation), Slots a 23 [(3, v34)] ∧ Heap w0 [oA (rList Rimpl_Equation) v34 xs95] w ∧ res96 = .inl (xs95)) ?_ ?_
  · rintro a w ⟨xs95, S, H, rfl⟩
    have hm := ctl_inl hk100
    refine thenN ?_
    refine wp_seq ?_
    refine region_plain ?_
    refine lx_q v34 S trivial (by decide) (q_move rfl) (fun a S => ?_)
    refine lx_q v34 S trivial (by decide) (q_assign rfl) (fun a S => ?_)
    refine lx_nil ?_
    refine thenN ?_
    refine wp_ret ?_
    obtain rfl := Option.some.inj hm
    exact leave1 S rfl rfl ⟨v34, rfl, H⟩
  · skip
    refine loop_ghost (fun n a w => ∃ (xs65 : List Timpl_Equation) (x66 : Int), Slots a 23 [(0, p0), (3, v34), (4, (.int .i64 x66))] ∧ Heap w0 [oA (rList Rimpl_Equation) v34 xs65] w ∧ iter f98 n (xs65, x66) = some res96) _ ⟨(List.replicate m33 (false, false, [])), (0 : Int), S.sub ⟨rfl, rfl, rfl, trivial⟩, H, hit97⟩ ?_
    rintro n a w ⟨xs65, x66, S, H, hit97⟩
    obtain ⟨m101, o102, rfl, hm, hc103⟩ := iter_step hit97
    rw [hf99] at hm
    refine wp_seq ?_
    refine wp_seq ?_
    refine region_plain ?_
    refine lx_q (.int .i64 x66) S trivial (by decide) (q_move rfl) (fun a S => ?_)
    refine lx_q p0 S trivial (by decide) (q_move rfl) (fun a S => ?_)
    refine lx_q (.int .i64 (a0.length : Int)) S trivial (by decide) (q_lenSl rfl (h0).isSl rfl Try.underlying32) (fun a S => ?_)
    refine lx_q (.bool (decide (x66 < (a0.length : Int)))) S trivial (by decide) (q_lss rfl rfl) (fun a S => ?_)
    refine lx_nil ?_
    refine thenN ?_
    refine cond_b S rfl (fun hc104 => ?_) (fun hc104 => ?_)
    · have hm := ite_t hc104 hm
      refine wp_skip ?_
      refine thenN ?_
      refine wp_seq ?_
      refine wp_block ?_
      refine region_plain ?_
      refine lx_q v34 S trivial (by decide) (q_move rfl) (fun a S => ?_)
      refine lx_q (.int .i64 x66) S trivial (by decide) (q_move rfl) (fun a S => ?_)
      refine lx_q p0 S trivial (by decide) (q_move rfl) (fun a S => ?_)
      refine lx_q (.int .i64 x66) S trivial (by decide) (q_move rfl) (fun a S => ?_)
      obtain ⟨x105, e106, hm⟩ := bind_some hm
      obtain ⟨c107, h108, hat109⟩ := (h0).elem (idx_some e106).2
      obtain ⟨c112, c113, rfl, h114, h115⟩ := h108
      obtain rfl := h114
      obtain ⟨c116, c117, rfl, h118, h119⟩ := h115
      obtain rfl := h118
      obtain ⟨v110, rfl, h111⟩ := rd_list h119
      have hlt := lt_of_idx (idx_some e106).2
      refine lx_q (ePtr p0 (x66.toNat * 3)) S trivial (by decide) (q_indexAddr rfl (h0).isSl rfl (idx_some e106).1 hlt Try.underlying32 Try.sizeOf82) (fun a S => ?_)
      refine lx_e (.agg #[(.bool x105.1), (.bool x105.2.1), v110]) S trivial (by decide) rfl trivial (q_loadA (cs := [(.bool x105.1), (.bool x105.2.1), v110]) rfl ((hat109 0 _ rfl).isP) Try.isAgg82 Try.sizeOf82 (by rintro _ rfl; exact (fun j u hu => (hat109 j u hu).ext H.ext))) (fun a S => ?_)
      obtain ⟨x122, e123, hm⟩ := bind_some hm
      refine lx_call (xs := [.tmp 19]) S trivial (by decide) rfl rfl Try.call70 ((laws_toEquation_ok ⟨[(.bool x105.1), (.bool x105.2.1), v110], rfl, ⟨[(.bool x105.1)], [(.bool x105.2.1), v110], rfl, rfl, ⟨[(.bool x105.2.1)], [v110], rfl, rfl, ((H.arg h111)).list_rd⟩⟩⟩ e123).mono ?_)
      rintro e w120 ⟨v124, rfl, Hc121⟩
      have he126 := Hc121.ext
      have H := H.call1 Hc121
      refine ⟨_, rfl, trivial, fun a S => ?_⟩
      obtain ⟨x127, e128, hm⟩ := bind_some hm
      have hlt := lt_of_idx (idx_some e128).2
      refine lx_q (ePtr v34 (x66.toNat * 3)) S trivial (by decide) (q_indexAddr rfl (H.isSl 1 rfl) rfl (idx_some e128).1 hlt Try.underlying36 Try.sizeOf85) (fun a S => ?_)
      have hcl : Value.cells (.agg #[(.bool x122.1), (.bool x122.2.1), v124]) = List.toArray [(.bool x122.1), (.bool x122.2.1), v124] := rfl
      have hon : ∀ c ∈ ([(.bool x122.1), (.bool x122.2.1), v124] : List Value), c.oneCell' = true := (List.forall_mem_cons.2 ⟨rfl, (List.forall_mem_cons.2 ⟨rfl, (List.forall_mem_cons.2 ⟨one_sl (H.isSl 0 rfl), (fun _ h => nomatch h)⟩)⟩)⟩)
      have H : Heap w0 [oA (rList Rimpl_Equation) v34 xs65, oA (rList (rInt .i64)) v124 x122.2.2] w120 := H.front 1 rfl
      refine lx_storeElem (r := Rimpl_Equation) (us := [(.bool x122.1), (.bool x122.2.1), v124]) (off := 0) (e' := (x122.1, x122.2.1, x122.2.2)) S trivial rfl H (by rw [pAdd_zero]; rfl) rfl (idx_some e128).2 hcl Try.sizeOf85 (Nat.le_of_ble_eq_true rfl) hon (Upd.full rfl (fun w G hG => ownF ⟨_, _, [(.bool x122.1)], [(.bool x122.2.1), v124], rfl, rfl, ⟨rfl, rfl⟩, ⟨_, _, [(.bool x122.2.1)], [v124], rfl, rfl, ⟨rfl, rfl⟩, (oA_list.1 hG)⟩⟩)) (fun w129 H => ⟨trivial, fun a S => ?_⟩)
      refine lx_nil ?_
      refine inBlock_norm ?_
      refine thenN ?_
      refine region_plain ?_
      refine lx_q (.int .i64 x66) S trivial (by decide) (q_move rfl) (fun a S => ?_)
      refine lx_q (.int .i64 (W (x66 + (1 : Int)))) S trivial (by decide) (q_add rfl rfl) (fun a S => ?_)
      refine lx_q (.int .i64 (W (x66 + (1 : Int)))) S trivial (by decide) (q_assign rfl) (fun a S => ?_)
      refine lx_nil ?_
      exact ⟨m101, Nat.lt_succ_self _, (xs65.set x66.toNat (x122.1, x122.2.1, x122.2.2)), (W (x66 + (1 : Int))), S.sub ⟨rfl, rfl, rfl, trivial⟩, H, it_cont hm hc103⟩
    · have hm := ite_f hc104 hm
      refine wp_exit ?_
      refine then_exit ?_
      refine then_exit ?_
      refine inBlock_exit ?_
      obtain rfl := it_brk hm hc103
      exact ⟨xs65, S.sub ⟨rfl, trivial⟩, H, rfl⟩
end Go.Proofs.Ytecknjdlbmmmiaa
