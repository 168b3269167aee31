/- The models of some functions and their walks (printed by a program of this repo). -/
import Derived.Test.YtcaedcalbjkkgaaF0
import Derived.Test.YtcaedcalbjkkgaaGxT
import Derived.Test.YtcaedcalbjkkgaaGxY
namespace Go.Proofs.Ytcaedcalbjkkgaa
open Go.RowKit Go.Gx

/-- laws.szInt64S -/
def laws_szInt64S_m (_ : Nat) (a0 : (List Int)) (a1 : Int) : Option (Int) :=
  (if (decide ((W (a1 - (a0.length : Int))) < (0 : Int))) = true then some ((-1 : Int)) else some ((W (a1 - (a0.length : Int)))))
set_option maxRecDepth 20000 in
theorem laws_szInt64S_ok [dr : Dr] {w0 : World} {fuel : Nat} {p0 : Value} {a0 : (List Int)} {a1 : Int} {r : Int} (h0 : Rd (rList (rInt .i64)) w0 p0 a0) (hm : laws_szInt64S_m fuel a0 a1 = some r) :
  Calls Try.prog 20 #[p0, .int .i64 a1] w0 fun e w => e = .returned (.int .i64 r) ∧ Heap w0 [] w := by
 unfold laws_szInt64S_m at hm
 have H := Heap.start w0
 refine enter (args := [p0, .int .i64 a1]) Try.func20 rfl 12 rfl (Nat.le_of_ble_eq_true rfl) (fun a S => ?_)
 refine wp_seq (region_plain ?_)
 refine lq (.int .i64 (0 : Int)) S (q_assign rfl) fun a S => ?_
 refine lx_nil (thenN ?_)
 refine wp_seq (region_plain ?_)
 refine lq (.int .i64 a1) S (q_move rfl) fun a S => ?_
 refine lq p0 S (q_move rfl) fun a S => ?_
 refine lq (.int .i64 (a0.length : Int)) S (q_lenSl rfl (h0).isSl rfl Try.underlying32) fun a S => ?_
 refine lq (.int .i64 (W (a1 - (a0.length : Int)))) S (q_sub rfl rfl) fun a S => ?_
 refine lq (.int .i64 (W (a1 - (a0.length : Int)))) S (q_assign rfl) fun a S => ?_
 refine lx_nil (thenN ?_)
 refine wp_seq (wp_seq (region_plain ?_))
 refine lq (.int .i64 (W (a1 - (a0.length : Int)))) S (q_move rfl) fun a S => ?_
 refine lq (.bool (decide ((W (a1 - (a0.length : Int))) < (0 : Int)))) S (q_lss rfl rfl) fun a S => ?_
 refine lx_nil (thenN ?_)
 refine cond_b S rfl (fun hc31 => ?_) (fun hc31 => ?_)
 ·have hm := ite_t hc31 hm
  refine wp_seq (region_plain ?_)
  refine lq (.int .i64 (-1 : Int)) S (q_assign rfl) fun a S => ?_
  refine lx_nil (thenN ?_)
  refine wp_ret (then_ret ?_)
  obtain rfl := Option.some.inj hm
  exact leave1 S rfl rfl ⟨rfl, H⟩
 ·have hm := ite_f hc31 hm
  refine wp_skip (thenN ?_)
  refine wp_seq (region_plain ?_)
  refine lq (.int .i64 (W (a1 - (a0.length : Int)))) S (q_move rfl) fun a S => ?_
  refine lq (.int .i64 (W (a1 - (a0.length : Int)))) S (q_assign rfl) fun a S => ?_
  refine lx_nil (thenN ?_)
  refine wp_ret ?_
  obtain rfl := Option.some.inj hm
  exact leave1 S rfl rfl ⟨rfl, H⟩

/-- laws.szVertex -/
def laws_szVertex_m (fuel : Nat) (a0 : Tlaws_Vertex) (a1 : Int) : Option (Int) :=
  (laws_szInt64S_m fuel a0.2.2 a1).bind fun x48 => (if (decide (x48 < (0 : Int))) = true then some ((-1 : Int)) else some (x48))
set_option maxRecDepth 20000 in
theorem laws_szVertex_ok [dr : Dr] {w0 : World} {fuel : Nat} {p0 : Value} {a0 : Tlaws_Vertex} {a1 : Int} {r : Int} (h0 : Rd Rlaws_Vertex w0 p0 a0) (hm : laws_szVertex_m fuel a0 a1 = some r) :
  Calls Try.prog 11 #[p0, .int .i64 a1] w0 fun e w => e = .returned (.int .i64 r) ∧ Heap w0 [] w := by
 unfold laws_szVertex_m at hm
 have H := Heap.start w0
 obtain ⟨c31, rfl, h32⟩ := h0
 obtain ⟨c35, c36, rfl, h37, h38⟩ := h32
 obtain rfl := h37
 obtain ⟨c39, c40, rfl, h41, h42⟩ := h38
 obtain rfl := h41
 obtain ⟨v33, rfl, h34⟩ := rd_list h42
 refine enter (args := [(.agg #[(.int .i64 a0.1), (.int .i64 a0.2.1), v33]), .int .i64 a1]) Try.func11 rfl 12 rfl (Nat.le_of_ble_eq_true rfl) (fun a S => ?_)
 refine wp_seq (region_plain ?_)
 refine lx_box S trivial (by decide) rfl H rfl rfl (fun b43 w44 H => ⟨trivial, fun a S => ?_⟩)
 refine lq (.int .i64 (0 : Int)) S (q_assign rfl) fun a S => ?_
 refine lx_nil (thenN ?_)
 refine wp_seq (region_plain ?_)
 refine lq (pAdd (bp b43) 2) S (q_fieldAddr' 2 32 rfl (isP_bp _) Try.underlying34 rfl Try.sizeOf32) fun a S => ?_
 refine lx_e v33 S trivial (by decide) rfl trivial (q_load1 rfl Try.isAgg32 (by rintro _ rfl; exact (At.of_add (m := 2) (j := 0) (boxAt (i := 0) H rfl (j := 2) rfl)))) (fun a S => ?_)
 refine lq (.int .i64 a1) S (q_move rfl) fun a S => ?_
 obtain ⟨x48, e49, hm⟩ := bind_some hm
 refine lx_call (xs := [.tmp 6, .tmp 7]) S trivial (by decide) rfl rfl Try.call20 ((laws_szInt64S_ok (H.arg h34)  e49).mono ?_)
 rintro e w46 ⟨rfl, Hc47⟩
 have H := H.call0 Hc47
 refine ⟨_, rfl, trivial, fun a S => ?_⟩
 refine lq (.int .i64 x48) S (q_assign rfl) fun a S => ?_
 refine lx_nil (thenN ?_)
 refine wp_seq (wp_seq (region_plain ?_))
 refine lq (.int .i64 x48) S (q_move rfl) fun a S => ?_
 refine lq (.bool (decide (x48 < (0 : Int)))) S (q_lss rfl rfl) fun a S => ?_
 refine lx_nil (thenN ?_)
 refine cond_b S rfl (fun hc51 => ?_) (fun hc51 => ?_)
 ·have hm := ite_t hc51 hm
  refine wp_seq (region_plain ?_)
  refine lq (.int .i64 (-1 : Int)) S (q_assign rfl) fun a S => ?_
  refine lx_nil (thenN ?_)
  refine wp_ret (then_ret ?_)
  obtain rfl := Option.some.inj hm
  have H : Heap w0 [] w46 := H.sel [] (by decide)
  exact leave1 S rfl rfl ⟨rfl, H⟩
 ·have hm := ite_f hc51 hm
  refine wp_skip (thenN ?_)
  refine wp_seq (region_plain ?_)
  refine lq (.int .i64 x48) S (q_move rfl) fun a S => ?_
  refine lq (.int .i64 x48) S (q_assign rfl) fun a S => ?_
  refine lx_nil (thenN ?_)
  refine wp_ret ?_
  obtain rfl := Option.some.inj hm
  have H : Heap w0 [] w46 := H.sel [] (by decide)
  exact leave1 S rfl rfl ⟨rfl, H⟩

/-- laws.szVertexS -/
def laws_szVertexS_m (fuel : Nat) (a0 : (List Tlaws_Vertex)) (a1 : Int) : Option (Int) :=
  (if (decide ((W (a1 - (a0.length : Int))) < (0 : Int))) = true then some ((-1 : Int)) else (iter (fun (s : (Int) × (Int)) => (match s with | (x56, x57) => (if (decide (x57 < (a0.length : Int))) = true then (idx a0 x57).bind fun x92 => (laws_szVertex_m fuel (x92.1, x92.2.1, x92.2.2) x56).bind fun x109 => (if (decide (x109 < (0 : Int))) = true then some (.inr (.inr (-1 : Int))) else some (.inl (x109, (W (x57 + (1 : Int)))))) else some (.inr (.inl (x56)))) : Option (((Int) × (Int)) ⊕ ((Int) ⊕ (Int))))) fuel ((W (a1 - (a0.length : Int))), (0 : Int))).bind fun res83 => ctl (β := Int) (ρ := Int) (τ := Int) res83 (fun (x82) => some (x82)) (fun q => some (q)))
set_option maxRecDepth 20000 in
theorem laws_szVertexS_ok [dr : Dr] {w0 : World} {fuel : Nat} {p0 : Value} {a0 : (List Tlaws_Vertex)} {a1 : Int} {r : Int} (h0 : Rd (rList Rlaws_Vertex) w0 p0 a0) (hm : laws_szVertexS_m fuel a0 a1 = some r) :
  Calls Try.prog 4 #[p0, .int .i64 a1] w0 fun e w => e = .returned (.int .i64 r) ∧ Heap w0 [] w := by
 unfold laws_szVertexS_m at hm
 have H := Heap.start w0
 refine enter (args := [p0, .int .i64 a1]) Try.func4 rfl 27 rfl (Nat.le_of_ble_eq_true rfl) (fun a S => ?_)
 refine wp_seq (region_plain ?_)
 refine lq (.int .i64 (0 : Int)) S (q_assign rfl) fun a S => ?_
 refine lx_nil (thenN ?_)
 refine wp_seq (region_plain ?_)
 refine lq (.int .i64 a1) S (q_move rfl) fun a S => ?_
 refine lq p0 S (q_move rfl) fun a S => ?_
 refine lq (.int .i64 (a0.length : Int)) S (q_lenSl rfl (h0).isSl rfl Try.underlying22) fun a S => ?_
 refine lq (.int .i64 (W (a1 - (a0.length : Int)))) S (q_sub rfl rfl) fun a S => ?_
 refine lq (.int .i64 (W (a1 - (a0.length : Int)))) S (q_assign rfl) fun a S => ?_
 refine lx_nil (thenN ?_)
 refine wp_seq (wp_seq (region_plain ?_))
 refine lq (.int .i64 (W (a1 - (a0.length : Int)))) S (q_move rfl) fun a S => ?_
 refine lq (.bool (decide ((W (a1 - (a0.length : Int))) < (0 : Int)))) S (q_lss rfl rfl) fun a S => ?_
 refine lx_nil (thenN ?_)
 refine cond_b S rfl (fun hc31 => ?_) (fun hc31 => ?_)
 ·have hm := ite_t hc31 hm
  refine wp_seq (region_plain ?_)
  refine lq (.int .i64 (-1 : Int)) S (q_assign rfl) fun a S => ?_
  refine lx_nil (thenN ?_)
  refine wp_ret (then_ret ?_)
  obtain rfl := Option.some.inj hm
  exact leave1 S rfl rfl ⟨rfl, H⟩
 ·have hm := ite_f hc31 hm
  refine wp_skip (thenN ?_)
  refine wp_seq (wp_seq (region_plain ?_))
  refine lq (.int .i64 (0 : Int)) S (q_assign rfl) fun a S => ?_
  refine lx_nil (thenN ?_)
  obtain ⟨res83, hit84, hk87⟩ := bind_some hm
  obtain ⟨f85, hf86, hit84⟩ := iter_name hit84
  refine block_loop (fun a w => ∃ (x82 : Int), Slots a 27 [(1, (.int .i64 x82))] ∧ Heap w0 [] w ∧ res83 = .inl (x82)) ?_ ?_
  ·rintro a w ⟨x82, S, H, rfl⟩
   have hm := ctl_inl hk87
   refine thenN ?_
   refine wp_seq (region_plain ?_)
   refine lq (.int .i64 x82) S (q_move rfl) fun a S => ?_
   refine lq (.int .i64 x82) S (q_assign rfl) fun a S => ?_
   refine lx_nil (thenN ?_)
   refine wp_ret ?_
   obtain rfl := Option.some.inj hm
   exact leave1 S rfl rfl ⟨rfl, H⟩
  ·skip
   refine loop_ghost (fun n a w => ∃ (x56 : Int) (x57 : Int), Slots a 27 [(0, p0), (1, (.int .i64 x56)), (5, (.int .i64 x57))] ∧ Heap w0 [] w ∧ iter f85 n (x56, x57) = some res83) _ ⟨(W (a1 - (a0.length : Int))), (0 : Int), S.sub ⟨rfl, rfl, rfl, trivial⟩, H, hit84⟩ ?_
   rintro n a w ⟨x56, x57, S, H, hit84⟩
   obtain ⟨m88, o89, rfl, hm, hc90⟩ := iter_step hit84
   rw [hf86] at hm
   refine wp_seq (wp_seq (region_plain ?_))
   refine lq (.int .i64 x57) S (q_move rfl) fun a S => ?_
   refine lq p0 S (q_move rfl) fun a S => ?_
   refine lq (.int .i64 (a0.length : Int)) S (q_lenSl rfl (h0).isSl rfl Try.underlying22) fun a S => ?_
   refine lq (.bool (decide (x57 < (a0.length : Int)))) S (q_lss rfl rfl) fun a S => ?_
   refine lx_nil (thenN ?_)
   refine cond_b S rfl (fun hc91 => ?_) (fun hc91 => ?_)
   ·have hm := ite_t hc91 hm
    refine wp_skip (thenN ?_)
    refine wp_seq ?_
    refine wp_block ?_
    refine wp_seq (region_plain ?_)
    refine lq p0 S (q_move rfl) fun a S => ?_
    refine lq (.int .i64 x57) S (q_move rfl) fun a S => ?_
    obtain ⟨x92, e93, hm⟩ := bind_some hm
    obtain ⟨c94, h95, hat96⟩ := (h0).elem (idx_some e93).2
    obtain ⟨c99, c100, rfl, h101, h102⟩ := h95
    obtain rfl := h101
    obtain ⟨c103, c104, rfl, h105, h106⟩ := h102
    obtain rfl := h105
    obtain ⟨v97, rfl, h98⟩ := rd_list h106
    have hlt := lt_of_idx (idx_some e93).2
    refine lq (ePtr p0 (x57.toNat * 3)) S (q_indexAddr rfl (h0).isSl rfl (idx_some e93).1 hlt Try.underlying22 Try.sizeOf34) fun a S => ?_
    refine lx_e (.agg #[(.int .i64 x92.1), (.int .i64 x92.2.1), v97]) S trivial (by decide) rfl trivial (q_loadA (cs := [(.int .i64 x92.1), (.int .i64 x92.2.1), v97]) rfl ((hat96 0 _ rfl).isP) Try.isAgg34 Try.sizeOf34 (by rintro _ rfl; exact (fun j u hu => (hat96 j u hu).ext H.ext))) (fun a S => ?_)
    refine lq (.int .i64 x56) S (q_move rfl) fun a S => ?_
    obtain ⟨x109, e110, hm⟩ := bind_some hm
    refine lx_call (xs := [.tmp 21, .tmp 22]) S trivial (by decide) rfl rfl Try.call11 ((laws_szVertex_ok ⟨[(.int .i64 x92.1), (.int .i64 x92.2.1), v97], rfl, ⟨[(.int .i64 x92.1)], [(.int .i64 x92.2.1), v97], rfl, rfl, ⟨[(.int .i64 x92.2.1)], [v97], rfl, rfl, ((H.arg h98)).list_rd⟩⟩⟩  e110).mono ?_)
    rintro e w107 ⟨rfl, Hc108⟩
    have H := H.call0 Hc108
    refine ⟨_, rfl, trivial, fun a S => ?_⟩
    refine lq (.int .i64 x109) S (q_assign rfl) fun a S => ?_
    refine lx_nil (thenN ?_)
    refine wp_seq (region_plain ?_)
    refine lq (.int .i64 x109) S (q_move rfl) fun a S => ?_
    refine lq (.bool (decide (x109 < (0 : Int)))) S (q_lss rfl rfl) fun a S => ?_
    refine lx_nil (thenN ?_)
    refine cond_b S rfl (fun hc112 => ?_) (fun hc112 => ?_)
    ·have hm := ite_t hc112 hm
     refine wp_seq (region_plain ?_)
     refine lq (.int .i64 (-1 : Int)) S (q_assign rfl) fun a S => ?_
     refine lx_nil (thenN ?_)
     refine wp_ret (inBlock_ret ?_)
     refine then_ret ?_
     refine then_ret ?_
     refine inBlock_ret ?_
     refine then_ret ?_
     refine then_ret ?_
     obtain rfl := it_brk hm hc90
     have hm := ctl_inr hk87
     obtain rfl := Option.some.inj hm
     exact leave1 S rfl rfl ⟨rfl, H⟩
    ·have hm := ite_f hc112 hm
     refine wp_skip ?_
     refine inBlock_norm ?_
     refine thenN ?_
     refine region_plain ?_
     refine lq (.int .i64 x57) S (q_move rfl) fun a S => ?_
     refine lq (.int .i64 (W (x57 + (1 : Int)))) S (q_add rfl rfl) fun a S => ?_
     refine lq (.int .i64 (W (x57 + (1 : Int)))) S (q_assign rfl) fun a S => ?_
     refine lx_nil ?_
     exact ⟨m88, Nat.lt_succ_self _, x109, (W (x57 + (1 : Int))), S.sub ⟨rfl, rfl, rfl, trivial⟩, H, it_cont hm hc90⟩
   ·have hm := ite_f hc91 hm
    refine wp_exit ?_
    refine then_exit ?_
    refine then_exit ?_
    refine inBlock_exit ?_
    obtain rfl := it_brk hm hc90
    exact ⟨x56, S.sub ⟨rfl, trivial⟩, H, rfl⟩

/-- laws.toInt64S -/
def laws_toInt64S_m (fuel : Nat) (a0 : (List Int)) : Option ((List Int)) :=
  (mks (a0.length : Int) (0 : Int)).bind fun x31 => (iter (fun (s : (List Int) × (Int)) => (match s with | (xs48, x49) => (if (decide (x49 < (a0.length : Int))) = true then (idx a0 x49).bind fun x71 => (idx xs48 x49).bind fun _ => some (.inl ((xs48.set x49.toNat x71), (W (x49 + (1 : Int))))) else some (.inr (.inl (xs48)))) : Option (((List Int) × (Int)) ⊕ (((List Int)) ⊕ ((List Int)))))) fuel (x31, (0 : Int))).bind fun res62 => ctl (β := (List Int)) (ρ := (List Int)) (τ := (List Int)) res62 (fun (xs61) => some (xs61)) (fun q => some (q))
set_option maxRecDepth 20000 in
theorem laws_toInt64S_ok [dr : Dr] {w0 : World} {fuel : Nat} {p0 : Value} {a0 : (List Int)} {r : (List Int)} (h0 : Rd (rList (rInt .i64)) w0 p0 a0) (hm : laws_toInt64S_m fuel a0 = some r) :
  Calls Try.prog 24 #[p0] w0 fun e w => ∃ (v0 : Value), e = .returned (v0) ∧ Heap w0 [oA (rList (rInt .i64)) v0 r] w := by
 unfold laws_toInt64S_m at hm
 have H := Heap.start w0
 refine enter (args := [p0]) Try.func24 rfl 22 rfl (Nat.le_of_ble_eq_true rfl) (fun a S => ?_)
 refine wp_seq (region_plain ?_)
 refine lq (.slice none 0 0) S (q_assign rfl) fun a S => ?_
 refine lx_nil (thenN ?_)
 refine wp_seq (region_plain ?_)
 refine lq p0 S (q_move rfl) fun a S => ?_
 refine lq (.int .i64 (a0.length : Int)) S (q_lenSl rfl (h0).isSl rfl Try.underlying32) fun a S => ?_
 obtain ⟨x31, e32, hm⟩ := bind_some hm
 obtain ⟨m33, hn, hn2, rfl⟩ := mks_some e32
 refine lx_make (r := (rInt .i64)) (z0 := (0 : Int)) (n := m33) S trivial (by decide) rfl H (by rw [← hn]; rfl) (by rw [← hn]; rfl) Try.underlying32 (Try.ti2) rfl rfl (Nat.le_of_ble_eq_true rfl) (fun w => ⟨rfl, rfl⟩) hn2 (by decide) (fun v34 w35 H => ⟨trivial, fun a S => ?_⟩)
 refine lq v34 S (q_assign rfl) fun a S => ?_
 refine lx_nil (thenN ?_)
 refine wp_seq (wp_seq (region_plain ?_))
 refine lq (.int .i64 (0 : Int)) S (q_assign rfl) fun a S => ?_
 refine lx_nil (thenN ?_)
 obtain ⟨res62, hit63, hk66⟩ := bind_some hm
 obtain ⟨f64, hf65, hit63⟩ := iter_name hit63
 refine block_loop (fun a w => ∃ (xs61 : List Int), Slots a 22 [(3, v34)] ∧ Heap w0 [oA (rList (rInt .i64)) v34 xs61] w ∧ res62 = .inl (xs61)) ?_ ?_
 ·rintro a w ⟨xs61, S, H, rfl⟩
  have hm := ctl_inl hk66
  refine thenN ?_
  refine wp_seq (region_plain ?_)
  refine lq v34 S (q_move rfl) fun a S => ?_
  refine lq v34 S (q_assign rfl) fun a S => ?_
  refine lx_nil (thenN ?_)
  refine wp_ret ?_
  obtain rfl := Option.some.inj hm
  exact leave1 S rfl rfl ⟨v34, rfl, H⟩
 ·skip
  refine loop_ghost (fun n a w => ∃ (xs48 : List Int) (x49 : Int), Slots a 22 [(0, p0), (3, v34), (4, (.int .i64 x49))] ∧ Heap w0 [oA (rList (rInt .i64)) v34 xs48] w ∧ iter f64 n (xs48, x49) = some res62) _ ⟨(List.replicate m33 (0 : Int)), (0 : Int), S.sub ⟨rfl, rfl, rfl, trivial⟩, H, hit63⟩ ?_
  rintro n a w ⟨xs48, x49, S, H, hit63⟩
  obtain ⟨m67, o68, rfl, hm, hc69⟩ := iter_step hit63
  rw [hf65] at hm
  refine wp_seq (wp_seq (region_plain ?_))
  refine lq (.int .i64 x49) S (q_move rfl) fun a S => ?_
  refine lq p0 S (q_move rfl) fun a S => ?_
  refine lq (.int .i64 (a0.length : Int)) S (q_lenSl rfl (h0).isSl rfl Try.underlying32) fun a S => ?_
  refine lq (.bool (decide (x49 < (a0.length : Int)))) S (q_lss rfl rfl) fun a S => ?_
  refine lx_nil (thenN ?_)
  refine cond_b S rfl (fun hc70 => ?_) (fun hc70 => ?_)
  ·have hm := ite_t hc70 hm
   refine wp_skip (thenN ?_)
   refine wp_seq ?_
   refine wp_block ?_
   refine region_plain ?_
   refine lq v34 S (q_move rfl) fun a S => ?_
   refine lq (.int .i64 x49) S (q_move rfl) fun a S => ?_
   refine lq p0 S (q_move rfl) fun a S => ?_
   refine lq (.int .i64 x49) S (q_move rfl) fun a S => ?_
   obtain ⟨x71, e72, hm⟩ := bind_some hm
   obtain ⟨c73, h74, hat75⟩ := (h0).elem (idx_some e72).2
   obtain rfl := h74
   have hlt := lt_of_idx (idx_some e72).2
   refine lq (ePtr p0 (x49.toNat * 1)) S (q_indexAddr rfl (h0).isSl rfl (idx_some e72).1 hlt Try.underlying32 Try.sizeOf2) fun a S => ?_
   refine lx_e (.int .i64 x71) S trivial (by decide) rfl trivial (q_load1 rfl Try.isAgg2 (by rintro _ rfl; exact ((hat75 0 _ rfl).ext H.ext))) (fun a S => ?_)
   obtain ⟨x76, e77, hm⟩ := bind_some hm
   have hlt := lt_of_idx (idx_some e77).2
   refine lq (ePtr v34 (x49.toNat * 1)) S (q_indexAddr rfl (H.isSl 0 rfl) rfl (idx_some e77).1 hlt Try.underlying32 Try.sizeOf2) fun a S => ?_
   refine lx_storeElem (r := (rInt .i64)) (us := [(.int .i64 x71)]) (off := 0) (e' := x71) S trivial rfl H.putE (ev_zero rfl) rfl (idx_some e77).2 rfl Try.sizeOf2 (Nat.le_of_ble_eq_true rfl) (List.forall_mem_cons.2 ⟨rfl, (List.forall_mem_nil _)⟩) (Upd.full rfl (fun w G hG => by cases (show G = [] from hG); exact ⟨rfl, rfl⟩)) (fun w78 H => ⟨trivial, fun a S => ?_⟩)
   refine lx_nil ?_
   refine inBlock_norm ?_
   refine thenN ?_
   refine region_plain ?_
   refine lq (.int .i64 x49) S (q_move rfl) fun a S => ?_
   refine lq (.int .i64 (W (x49 + (1 : Int)))) S (q_add rfl rfl) fun a S => ?_
   refine lq (.int .i64 (W (x49 + (1 : Int)))) S (q_assign rfl) fun a S => ?_
   refine lx_nil ?_
   exact ⟨m67, Nat.lt_succ_self _, (xs48.set x49.toNat x71), (W (x49 + (1 : Int))), S.sub ⟨rfl, rfl, rfl, trivial⟩, H, it_cont hm hc69⟩
  ·have hm := ite_f hc70 hm
   refine wp_exit ?_
   refine then_exit ?_
   refine then_exit ?_
   refine inBlock_exit ?_
   obtain rfl := it_brk hm hc69
   exact ⟨xs48, S.sub ⟨rfl, trivial⟩, H, rfl⟩

/-- laws.toVertex -/
def laws_toVertex_m (fuel : Nat) (a0 : Tlaws_Vertex) : Option (Timpl_Vertex) :=
  (laws_toInt64S_m fuel a0.2.2).bind fun x56 => some ((a0.1, a0.2.1, x56))
set_option maxRecDepth 20000 in
theorem laws_toVertex_ok [dr : Dr] {w0 : World} {fuel : Nat} {p0 : Value} {a0 : Tlaws_Vertex} {r : Timpl_Vertex} (h0 : Rd Rlaws_Vertex w0 p0 a0) (hm : laws_toVertex_m fuel a0 = some r) :
  Calls Try.prog 14 #[p0] w0 fun e w => ∃ (v0 : Value), e = .returned (.agg #[.int .i64 r.1, .int .i64 r.2.1, v0]) ∧ Heap w0 [oA (rList (rInt .i64)) v0 r.2.2] w := by
 unfold laws_toVertex_m at hm
 have H := Heap.start w0
 obtain ⟨c31, rfl, h32⟩ := h0
 obtain ⟨c35, c36, rfl, h37, h38⟩ := h32
 obtain rfl := h37
 obtain ⟨c39, c40, rfl, h41, h42⟩ := h38
 obtain rfl := h41
 obtain ⟨v33, rfl, h34⟩ := rd_list h42
 refine enter (args := [(.agg #[(.int .i64 a0.1), (.int .i64 a0.2.1), v33])]) Try.func14 rfl 15 rfl (Nat.le_of_ble_eq_true rfl) (fun a S => ?_)
 refine wp_seq (region_plain ?_)
 refine lx_box S trivial (by decide) rfl H rfl rfl (fun b43 w44 H => ⟨trivial, fun a S => ?_⟩)
 refine lx_alloc S trivial (by decide) rfl H Try.zeroValue37 rfl (fun b46 w47 H => ⟨trivial, fun a S => ?_⟩)
 refine lx_nil (thenN ?_)
 refine wp_seq (region_plain ?_)
 refine lx_alloc S trivial (by decide) rfl H Try.zeroValue37 rfl (fun b49 w50 H => ⟨trivial, fun a S => ?_⟩)
 refine lx_nil (thenN ?_)
 refine wp_seq (region_plain ?_)
 refine lq (pAdd (bp b43) 0) S (q_fieldAddr' 0 2 rfl (isP_bp _) Try.underlying34 rfl Try.sizeOf2) fun a S => ?_
 refine lx_e (.int .i64 a0.1) S trivial (by decide) rfl trivial (q_load1 rfl Try.isAgg2 (by rintro _ rfl; exact (At.of_add (m := 0) (j := 0) (boxAt (i := 2) H rfl (j := 0) rfl)))) (fun a S => ?_)
 refine lq (pAdd (bp b49) 0) S (q_fieldAddr' 0 2 rfl (isP_bp _) Try.underlying37 rfl Try.sizeOf2) fun a S => ?_
 refine lx_storeBox (o := 0) (i := 0) (us := [(.int .i64 a0.1)]) (cs' := [(.int .i64 a0.1), (.int .i64 (0 : Int)), (.slice none 0 0)]) S trivial rfl H rfl rfl rfl rfl Try.sizeOf2 (Nat.le_of_ble_eq_true rfl) (List.forall_mem_cons.2 ⟨rfl, (List.forall_mem_nil _)⟩) rfl (fun w52 H => ⟨trivial, fun a S => ?_⟩)
 change Heap w0 [bA b49 [(.int .i64 a0.1), (.int .i64 (0 : Int)), (.slice none 0 0)] 37, bA b46 [(.int .i64 (0 : Int)), (.int .i64 (0 : Int)), (.slice none 0 0)] 37, bA b43 [(.int .i64 a0.1), (.int .i64 a0.2.1), v33] 34] w52 at H
 refine lx_nil (thenN ?_)
 refine wp_seq (region_plain ?_)
 refine lq (pAdd (bp b43) 1) S (q_fieldAddr' 1 2 rfl (isP_bp _) Try.underlying34 rfl Try.sizeOf2) fun a S => ?_
 refine lx_e (.int .i64 a0.2.1) S trivial (by decide) rfl trivial (q_load1 rfl Try.isAgg2 (by rintro _ rfl; exact (At.of_add (m := 1) (j := 0) (boxAt (i := 2) H rfl (j := 1) rfl)))) (fun a S => ?_)
 refine lq (pAdd (bp b49) 1) S (q_fieldAddr' 1 2 rfl (isP_bp _) Try.underlying37 rfl Try.sizeOf2) fun a S => ?_
 refine lx_storeBox (o := 1) (i := 0) (us := [(.int .i64 a0.2.1)]) (cs' := [(.int .i64 a0.1), (.int .i64 a0.2.1), (.slice none 0 0)]) S trivial rfl H rfl rfl rfl rfl Try.sizeOf2 (Nat.le_of_ble_eq_true rfl) (List.forall_mem_cons.2 ⟨rfl, (List.forall_mem_nil _)⟩) rfl (fun w53 H => ⟨trivial, fun a S => ?_⟩)
 change Heap w0 [bA b49 [(.int .i64 a0.1), (.int .i64 a0.2.1), (.slice none 0 0)] 37, bA b46 [(.int .i64 (0 : Int)), (.int .i64 (0 : Int)), (.slice none 0 0)] 37, bA b43 [(.int .i64 a0.1), (.int .i64 a0.2.1), v33] 34] w53 at H
 refine lx_nil (thenN ?_)
 refine wp_seq (region_plain ?_)
 refine lq (pAdd (bp b43) 2) S (q_fieldAddr' 2 32 rfl (isP_bp _) Try.underlying34 rfl Try.sizeOf32) fun a S => ?_
 refine lx_e v33 S trivial (by decide) rfl trivial (q_load1 rfl Try.isAgg32 (by rintro _ rfl; exact (At.of_add (m := 2) (j := 0) (boxAt (i := 2) H rfl (j := 2) rfl)))) (fun a S => ?_)
 obtain ⟨x56, e57, hm⟩ := bind_some hm
 refine lx_call (xs := [.tmp 11]) S trivial (by decide) rfl rfl Try.call24 ((laws_toInt64S_ok (H.arg h34) e57).mono ?_)
 rintro e w54 ⟨v58, rfl, Hc55⟩
 have H := H.call1 Hc55
 refine ⟨_, rfl, trivial, fun a S => ?_⟩
 refine lq (pAdd (bp b49) 2) S (q_fieldAddr' 2 32 rfl (isP_bp _) Try.underlying37 rfl Try.sizeOf32) fun a S => ?_
 refine lx_storeBox (o := 2) (i := 1) (us := [v58]) (cs' := [(.int .i64 a0.1), (.int .i64 a0.2.1), v58]) S trivial rfl H rfl rfl rfl (cells_sl (H.isSl 0 rfl)) Try.sizeOf32 (Nat.le_of_ble_eq_true rfl) (List.forall_mem_cons.2 ⟨one_sl (H.isSl 0 rfl), (List.forall_mem_nil _)⟩) rfl (fun w61 H => ⟨trivial, fun a S => ?_⟩)
 change Heap w0 [oA (rList (rInt .i64)) v58 x56, bA b49 [(.int .i64 a0.1), (.int .i64 a0.2.1), v58] 37, bA b46 [(.int .i64 (0 : Int)), (.int .i64 (0 : Int)), (.slice none 0 0)] 37, bA b43 [(.int .i64 a0.1), (.int .i64 a0.2.1), v33] 34] w61 at H
 refine lx_nil (thenN ?_)
 refine wp_seq (region_plain ?_)
 refine lx_e (.agg #[(.int .i64 a0.1), (.int .i64 a0.2.1), v58]) S trivial (by decide) rfl trivial (q_loadA (cs := [(.int .i64 a0.1), (.int .i64 a0.2.1), v58]) rfl (isP_bp _) Try.isAgg37 Try.sizeOf37 (by rintro _ rfl; exact (fun j u hu => boxAt (i := 1) H rfl hu))) (fun a S => ?_)
 refine lx_storeBox (o := 0) (i := 2) (us := [(.int .i64 a0.1), (.int .i64 a0.2.1), v58]) (cs' := [(.int .i64 a0.1), (.int .i64 a0.2.1), v58]) S trivial rfl H rfl rfl rfl rfl Try.sizeOf37 (Nat.le_of_ble_eq_true rfl) (List.forall_mem_cons.2 ⟨rfl, (List.forall_mem_cons.2 ⟨rfl, (List.forall_mem_cons.2 ⟨one_sl (H.isSl 0 rfl), (List.forall_mem_nil _)⟩)⟩)⟩) rfl (fun w62 H => ⟨trivial, fun a S => ?_⟩)
 change Heap w0 [oA (rList (rInt .i64)) v58 x56, bA b49 [(.int .i64 a0.1), (.int .i64 a0.2.1), v58] 37, bA b46 [(.int .i64 a0.1), (.int .i64 a0.2.1), v58] 37, bA b43 [(.int .i64 a0.1), (.int .i64 a0.2.1), v33] 34] w62 at H
 refine lx_nil (thenN ?_)
 refine wp_ret ?_
 have hrv0 := RV.cellA (t := 37) (q := 2) (env := [(0, (.agg #[(.int .i64 a0.1), (.int .i64 a0.2.1), v33])), (1, (bp b43)), (2, (bp b46)), (3, (bp b49)), (4, (pAdd (bp b43) 0)), (5, (.int .i64 a0.1)), (6, (pAdd (bp b49) 0)), (7, (pAdd (bp b43) 1)), (8, (.int .i64 a0.2.1)), (9, (pAdd (bp b49) 1)), (10, (pAdd (bp b43) 2)), (11, v33), (12, v58), (13, (pAdd (bp b49) 2)), (14, (.agg #[(.int .i64 a0.1), (.int .i64 a0.2.1), v58]))]) H (i := 2) rfl rfl Try.isAgg37 Try.sizeOf37
 obtain rfl := Option.some.inj hm
 have H : Heap w0 [oA (rList (rInt .i64)) v58 x56] w62 := H.sel [0] (by decide)
 exact leaveR1 S rfl hrv0 ⟨v58, rfl, H⟩

/-- laws.toVertexS -/
def laws_toVertexS_m (fuel : Nat) (a0 : (List Tlaws_Vertex)) : Option ((List Timpl_Vertex)) :=
  (mks (a0.length : Int) ((0 : Int), (0 : Int), [])).bind fun x31 => (iter (fun (s : (List Timpl_Vertex) × (Int)) => (match s with | (xs65, x66) => (if (decide (x66 < (a0.length : Int))) = true then (idx a0 x66).bind fun x105 => (laws_toVertex_m fuel (x105.1, x105.2.1, x105.2.2)).bind fun x122 => (idx xs65 x66).bind fun _ => some (.inl ((xs65.set x66.toNat (x122.1, x122.2.1, x122.2.2)), (W (x66 + (1 : Int))))) else some (.inr (.inl (xs65)))) : Option (((List Timpl_Vertex) × (Int)) ⊕ (((List Timpl_Vertex)) ⊕ ((List Timpl_Vertex)))))) fuel (x31, (0 : Int))).bind fun res96 => ctl (β := (List Timpl_Vertex)) (ρ := (List Timpl_Vertex)) (τ := (List Timpl_Vertex)) res96 (fun (xs95) => some (xs95)) (fun q => some (q))
set_option maxRecDepth 20000 in
theorem laws_toVertexS_ok [dr : Dr] {w0 : World} {fuel : Nat} {p0 : Value} {a0 : (List Tlaws_Vertex)} {r : (List Timpl_Vertex)} (h0 : Rd (rList Rlaws_Vertex) w0 p0 a0) (hm : laws_toVertexS_m fuel a0 = some r) :
  Calls Try.prog 6 #[p0] w0 fun e w => ∃ (v0 : Value), e = .returned (v0) ∧ Heap w0 [oA (rList Rimpl_Vertex) v0 r] w := by
 unfold laws_toVertexS_m at hm
 have H := Heap.start w0
 refine enter (args := [p0]) Try.func6 rfl 23 rfl (Nat.le_of_ble_eq_true rfl) (fun a S => ?_)
 refine wp_seq (region_plain ?_)
 refine lq (.slice none 0 0) S (q_assign rfl) fun a S => ?_
 refine lx_nil (thenN ?_)
 refine wp_seq (region_plain ?_)
 refine lq p0 S (q_move rfl) fun a S => ?_
 refine lq (.int .i64 (a0.length : Int)) S (q_lenSl rfl (h0).isSl rfl Try.underlying22) fun a S => ?_
 obtain ⟨x31, e32, hm⟩ := bind_some hm
 obtain ⟨m33, hn, hn2, rfl⟩ := mks_some e32
 refine lx_make (r := Rimpl_Vertex) (z0 := ((0 : Int), (0 : Int), [])) (n := m33) S trivial (by decide) rfl H (by rw [← hn]; rfl) (by rw [← hn]; rfl) Try.underlying24 (Try.ti37) rfl rfl (Nat.le_of_ble_eq_true rfl) (fun w => ⟨_, _, [(.int .i64 (0 : Int))], [(.int .i64 (0 : Int)), (.slice none 0 0)], rfl, rfl, ⟨rfl, rfl⟩, ⟨_, _, [(.int .i64 (0 : Int))], [(.slice none 0 0)], rfl, rfl, ⟨rfl, rfl⟩, (oA_list.1 drop_nil_own)⟩⟩) hn2 (by decide) (fun v34 w35 H => ⟨trivial, fun a S => ?_⟩)
 refine lq v34 S (q_assign rfl) fun a S => ?_
 refine lx_nil (thenN ?_)
 refine wp_seq (wp_seq (region_plain ?_))
 refine lq (.int .i64 (0 : Int)) S (q_assign rfl) fun a S => ?_
 refine lx_nil (thenN ?_)
 obtain ⟨res96, hit97, hk100⟩ := bind_some hm
 obtain ⟨f98, hf99, hit97⟩ := iter_name hit97
 refine block_loop (fun a w => ∃ (xs95 : List Timpl_Vertex), Slots a 23 [(3, v34)] ∧ Heap w0 [oA (rList Rimpl_Vertex) v34 xs95] w ∧ res96 = .inl (xs95)) ?_ ?_
 ·rintro a w ⟨xs95, S, H, rfl⟩
  have hm := ctl_inl hk100
  refine thenN ?_
  refine wp_seq (region_plain ?_)
  refine lq v34 S (q_move rfl) fun a S => ?_
  refine lq v34 S (q_assign rfl) fun a S => ?_
  refine lx_nil (thenN ?_)
  refine wp_ret ?_
  obtain rfl := Option.some.inj hm
  exact leave1 S rfl rfl ⟨v34, rfl, H⟩
 ·skip
  refine loop_ghost (fun n a w => ∃ (xs65 : List Timpl_Vertex) (x66 : Int), Slots a 23 [(0, p0), (3, v34), (4, (.int .i64 x66))] ∧ Heap w0 [oA (rList Rimpl_Vertex) v34 xs65] w ∧ iter f98 n (xs65, x66) = some res96) _ ⟨(List.replicate m33 ((0 : Int), (0 : Int), [])), (0 : Int), S.sub ⟨rfl, rfl, rfl, trivial⟩, H, hit97⟩ ?_
  rintro n a w ⟨xs65, x66, S, H, hit97⟩
  obtain ⟨m101, o102, rfl, hm, hc103⟩ := iter_step hit97
  rw [hf99] at hm
  refine wp_seq (wp_seq (region_plain ?_))
  refine lq (.int .i64 x66) S (q_move rfl) fun a S => ?_
  refine lq p0 S (q_move rfl) fun a S => ?_
  refine lq (.int .i64 (a0.length : Int)) S (q_lenSl rfl (h0).isSl rfl Try.underlying22) fun a S => ?_
  refine lq (.bool (decide (x66 < (a0.length : Int)))) S (q_lss rfl rfl) fun a S => ?_
  refine lx_nil (thenN ?_)
  refine cond_b S rfl (fun hc104 => ?_) (fun hc104 => ?_)
  ·have hm := ite_t hc104 hm
   refine wp_skip (thenN ?_)
   refine wp_seq ?_
   refine wp_block ?_
   refine region_plain ?_
   refine lq v34 S (q_move rfl) fun a S => ?_
   refine lq (.int .i64 x66) S (q_move rfl) fun a S => ?_
   refine lq p0 S (q_move rfl) fun a S => ?_
   refine lq (.int .i64 x66) S (q_move rfl) fun a S => ?_
   obtain ⟨x105, e106, hm⟩ := bind_some hm
   obtain ⟨c107, h108, hat109⟩ := (h0).elem (idx_some e106).2
   obtain ⟨c112, c113, rfl, h114, h115⟩ := h108
   obtain rfl := h114
   obtain ⟨c116, c117, rfl, h118, h119⟩ := h115
   obtain rfl := h118
   obtain ⟨v110, rfl, h111⟩ := rd_list h119
   have hlt := lt_of_idx (idx_some e106).2
   refine lq (ePtr p0 (x66.toNat * 3)) S (q_indexAddr rfl (h0).isSl rfl (idx_some e106).1 hlt Try.underlying22 Try.sizeOf34) fun a S => ?_
   refine lx_e (.agg #[(.int .i64 x105.1), (.int .i64 x105.2.1), v110]) S trivial (by decide) rfl trivial (q_loadA (cs := [(.int .i64 x105.1), (.int .i64 x105.2.1), v110]) rfl ((hat109 0 _ rfl).isP) Try.isAgg34 Try.sizeOf34 (by rintro _ rfl; exact (fun j u hu => (hat109 j u hu).ext H.ext))) (fun a S => ?_)
   obtain ⟨x122, e123, hm⟩ := bind_some hm
   refine lx_call (xs := [.tmp 19]) S trivial (by decide) rfl rfl Try.call14 ((laws_toVertex_ok ⟨[(.int .i64 x105.1), (.int .i64 x105.2.1), v110], rfl, ⟨[(.int .i64 x105.1)], [(.int .i64 x105.2.1), v110], rfl, rfl, ⟨[(.int .i64 x105.2.1)], [v110], rfl, rfl, ((H.arg h111)).list_rd⟩⟩⟩ e123).mono ?_)
   rintro e w120 ⟨v124, rfl, Hc121⟩
   have H := H.call1 Hc121
   refine ⟨_, rfl, trivial, fun a S => ?_⟩
   obtain ⟨x127, e128, hm⟩ := bind_some hm
   have hlt := lt_of_idx (idx_some e128).2
   refine lq (ePtr v34 (x66.toNat * 3)) S (q_indexAddr rfl (H.isSl 1 rfl) rfl (idx_some e128).1 hlt Try.underlying24 Try.sizeOf37) fun a S => ?_
   have hcl : Value.cells (.agg #[(.int .i64 x122.1), (.int .i64 x122.2.1), v124]) = List.toArray [(.int .i64 x122.1), (.int .i64 x122.2.1), v124] := rfl
   have hon : ∀ c ∈ ([(.int .i64 x122.1), (.int .i64 x122.2.1), v124] : List Value), c.oneCell' = true := (List.forall_mem_cons.2 ⟨rfl, (List.forall_mem_cons.2 ⟨rfl, (List.forall_mem_cons.2 ⟨one_sl (H.isSl 0 rfl), (List.forall_mem_nil _)⟩)⟩)⟩)
   have H : Heap w0 [oA (rList Rimpl_Vertex) v34 xs65, oA (rList (rInt .i64)) v124 x122.2.2] w120 := H.front 1 rfl
   refine lx_storeElem (r := Rimpl_Vertex) (us := [(.int .i64 x122.1), (.int .i64 x122.2.1), v124]) (off := 0) (e' := (x122.1, x122.2.1, x122.2.2)) S trivial rfl H (ev_zero rfl) rfl (idx_some e128).2 hcl Try.sizeOf37 (Nat.le_of_ble_eq_true rfl) hon (Upd.full rfl (fun w G hG => ownF ⟨_, _, [(.int .i64 x122.1)], [(.int .i64 x122.2.1), v124], rfl, rfl, ⟨rfl, rfl⟩, ⟨_, _, [(.int .i64 x122.2.1)], [v124], rfl, rfl, ⟨rfl, rfl⟩, (oA_list.1 hG)⟩⟩)) (fun w129 H => ⟨trivial, fun a S => ?_⟩)
   refine lx_nil ?_
   refine inBlock_norm ?_
   refine thenN ?_
   refine region_plain ?_
   refine lq (.int .i64 x66) S (q_move rfl) fun a S => ?_
   refine lq (.int .i64 (W (x66 + (1 : Int)))) S (q_add rfl rfl) fun a S => ?_
   refine lq (.int .i64 (W (x66 + (1 : Int)))) S (q_assign rfl) fun a S => ?_
   refine lx_nil ?_
   exact ⟨m101, Nat.lt_succ_self _, (xs65.set x66.toNat (x122.1, x122.2.1, x122.2.2)), (W (x66 + (1 : Int))), S.sub ⟨rfl, rfl, rfl, trivial⟩, H, it_cont hm hc103⟩
  ·have hm := ite_f hc104 hm
   refine wp_exit ?_
   refine then_exit ?_
   refine then_exit ?_
   refine inBlock_exit ?_
   obtain rfl := it_brk hm hc103
   exact ⟨xs65, S.sub ⟨rfl, trivial⟩, H, rfl⟩

/-- spec.l00In -/
def spec_l00In_m (_ : Nat) (a0 : Int) (a1 : Int) (a2 : Int) : Option (Bool) :=
  (if (decide (a1 ≤ a0)) = true then some (decide (a0 ≤ a2)) else some false).bind fun t31 => some (t31)
set_option maxRecDepth 20000 in
theorem spec_l00In_ok [dr : Dr] {w0 : World} {fuel : Nat} {a0 : Int} {a1 : Int} {a2 : Int} {r : Bool} (hm : spec_l00In_m fuel a0 a1 a2 = some r) :
  Calls Try.prog 21 #[.int .i64 a0, .int .i64 a1, .int .i64 a2] w0 fun e w => e = .returned (.bool r) ∧ Heap w0 [] w := by
 unfold spec_l00In_m at hm
 have H := Heap.start w0
 refine enter (args := [.int .i64 a0, .int .i64 a1, .int .i64 a2]) Try.func21 rfl 15 rfl (Nat.le_of_ble_eq_true rfl) (fun a S => ?_)
 refine wp_seq (region_plain ?_)
 refine lq (.bool false) S (q_assign rfl) fun a S => ?_
 refine lx_nil (thenN ?_)
 refine wp_seq (region_plain ?_)
 refine lq (.int .i64 a0) S (q_move rfl) fun a S => ?_
 refine lq (.int .i64 a1) S (q_move rfl) fun a S => ?_
 refine lq (.bool (decide (a1 ≤ a0))) S (q_geq rfl rfl) fun a S => ?_
 refine lq (.bool (decide (a1 ≤ a0))) S (q_move rfl) fun a S => ?_
 obtain ⟨t31, e32, hm⟩ := bind_some hm
 refine lx_cut 4 (fun a w => Slots a 15 [(14, (.bool t31))] ∧ Heap w0 [] w) ?_ ?_
 ·by_cases hc33 : (decide (a1 ≤ a0)) = true
  ·have hm := ite_t hc33 e32
   refine lx_q (.int .i64 a0) S (want_b rfl rfl hc33) (by decide) (q_move rfl) (fun a S => ?_)
   refine lx_q (.int .i64 a2) S (want_b rfl rfl hc33) (by decide) (q_move rfl) (fun a S => ?_)
   refine lx_q (.bool (decide (a0 ≤ a2))) S (want_b rfl rfl hc33) (by decide) (q_leq rfl rfl) (fun a S => ?_)
   refine lq (.bool (decide (a0 ≤ a2))) S (q_pickT' rfl hc33 rfl) fun a S => ?_
   refine lx_nil ?_
   obtain rfl := Option.some.inj hm
   exact ⟨S.sub ⟨rfl, trivial⟩, H⟩
  ·have hm := ite_f (eq_false_of_ne_true hc33) e32
   have hc33 : (decide (a1 ≤ a0)) = false := eq_false_of_ne_true hc33
   refine lx_skip S rfl rfl (isB_ne hc33) (by decide) (fun a S => ?_)
   refine lx_skip S rfl rfl (isB_ne hc33) (by decide) (fun a S => ?_)
   refine lx_skip S rfl rfl (isB_ne hc33) (by decide) (fun a S => ?_)
   refine lq (.bool false) S (q_pickF' rfl hc33 rfl) fun a S => ?_
   refine lx_nil ?_
   obtain rfl := Option.some.inj hm
   exact ⟨S.sub ⟨rfl, trivial⟩, H⟩
 ·rintro a w ⟨S, H⟩
  refine lq (.bool t31) S (q_assign rfl) fun a S => ?_
  refine lx_nil (thenN ?_)
  refine wp_ret ?_
  obtain rfl := Option.some.inj hm
  exact leave1 S rfl rfl ⟨rfl, H⟩

/-- spec.l00Rises -/
def spec_l00Rises_m (fuel : Nat) (a0 : (List Int)) (a1 : Int) (a2 : Int) : Option (Bool) :=
  (iter (fun (s : (Int)) => (match s with | (x62) => (if (decide (x62 < (a0.length : Int))) = true then (idx a0 x62).bind fun x105 => (spec_l00In_m fuel x105 a1 a2).bind fun x112 => (if (!x112) = true then some true else (if (decide ((0 : Int) < x62)) = true then (idx a0 (W (x62 - (1 : Int)))).bind fun x121 => (idx a0 x62).bind fun x126 => some (decide (x126 ≤ x121)) else some false).bind fun t118 => some t118).bind fun t115 => (if t115 = true then some (.inr (.inr false)) else some (.inl ((W (x62 + (1 : Int)))))) else some (.inr (.inl ()))) : Option (((Int)) ⊕ ((Unit) ⊕ (Bool))))) fuel ((0 : Int))).bind fun res94 => ctl (β := Unit) (ρ := Bool) (τ := Bool) res94 (fun _ => some (true)) (fun q => some (q))
set_option maxRecDepth 20000 in
theorem spec_l00Rises_ok [dr : Dr] {w0 : World} {fuel : Nat} {p0 : Value} {a0 : (List Int)} {a1 : Int} {a2 : Int} {r : Bool} (h0 : Rd (rList (rInt .i64)) w0 p0 a0) (hm : spec_l00Rises_m fuel a0 a1 a2 = some r) :
  Calls Try.prog 22 #[p0, .int .i64 a1, .int .i64 a2] w0 fun e w => e = .returned (.bool r) ∧ Heap w0 [] w := by
 unfold spec_l00Rises_m at hm
 have H := Heap.start w0
 refine enter (args := [p0, .int .i64 a1, .int .i64 a2]) Try.func22 rfl 38 rfl (Nat.le_of_ble_eq_true rfl) (fun a S => ?_)
 refine wp_seq (region_plain ?_)
 refine lq (.bool false) S (q_assign rfl) fun a S => ?_
 refine lx_nil (thenN ?_)
 refine wp_seq (wp_seq (region_plain ?_))
 refine lq (.int .i64 (0 : Int)) S (q_assign rfl) fun a S => ?_
 refine lx_nil (thenN ?_)
 obtain ⟨res94, hit95, hk98⟩ := bind_some hm
 obtain ⟨f96, hf97, hit95⟩ := iter_name hit95
 refine block_loop (fun a w => Slots a 38 [] ∧ Heap w0 [] w ∧ res94 = .inl ()) ?_ ?_
 ·rintro a w ⟨S, H, rfl⟩
  have hm := ctl_inl hk98
  refine thenN ?_
  refine wp_seq (region_plain ?_)
  refine lq (.bool true) S (q_assign rfl) fun a S => ?_
  refine lx_nil (thenN ?_)
  refine wp_ret ?_
  obtain rfl := Option.some.inj hm
  exact leave1 S rfl rfl ⟨rfl, H⟩
 ·skip
  refine loop_ghost (fun n a w => ∃ (x62 : Int), Slots a 38 [(0, p0), (1, (.int .i64 a1)), (2, (.int .i64 a2)), (7, (.int .i64 x62))] ∧ Heap w0 [] w ∧ iter f96 n (x62) = some res94) _ ⟨(0 : Int), S.sub ⟨rfl, rfl, rfl, rfl, trivial⟩, H, hit95⟩ ?_
  rintro n a w ⟨x62, S, H, hit95⟩
  obtain ⟨m99, o100, rfl, hm, hc101⟩ := iter_step hit95
  rw [hf97] at hm
  refine wp_seq (wp_seq (region_plain ?_))
  refine lq (.int .i64 x62) S (q_move rfl) fun a S => ?_
  refine lq p0 S (q_move rfl) fun a S => ?_
  refine lq (.int .i64 (a0.length : Int)) S (q_lenSl rfl (h0).isSl rfl Try.underlying32) fun a S => ?_
  refine lq (.bool (decide (x62 < (a0.length : Int)))) S (q_lss rfl rfl) fun a S => ?_
  refine lx_nil (thenN ?_)
  refine cond_b S rfl (fun hc102 => ?_) (fun hc102 => ?_)
  ·have hm := ite_t hc102 hm
   refine wp_skip (thenN ?_)
   refine wp_seq ?_
   refine wp_block ?_
   refine wp_seq ?_
   refine region_drawG (fun w1 => Heap w0 [] w1) (fun i => [6].contains i) mixed (by kernel_rfl) (fun w104 he103 => ?_)
   have H := H.later he103
   refine ⟨H.sel [] (by decide), ?_⟩
   refine lq p0 S (q_move rfl) fun a S => ?_
   refine lq (.int .i64 x62) S (q_move rfl) fun a S => ?_
   obtain ⟨x105, e106, hm⟩ := bind_some hm
   obtain ⟨c107, h108, hat109⟩ := (h0).elem (idx_some e106).2
   obtain rfl := h108
   have hlt := lt_of_idx (idx_some e106).2
   refine lq (ePtr p0 (x62.toNat * 1)) S (q_indexAddr rfl (h0).isSl rfl (idx_some e106).1 hlt Try.underlying32 Try.sizeOf2) fun a S => ?_
   refine lq (.int .i64 x105) S (q_load1 rfl Try.isAgg2 (fun w1 hC => ((hat109 0 _ rfl).ext hC.ext))) fun a S => ?_
   refine lq (.int .i64 a1) S (q_move rfl) fun a S => ?_
   refine lq (.int .i64 a2) S (q_move rfl) fun a S => ?_
   obtain ⟨x112, e113, hm⟩ := bind_some hm
   refine lx_call (xs := [.tmp 17, .tmp 18, .tmp 19]) S trivial (by decide) rfl rfl Try.call21 ((spec_l00In_ok    e113).mono ?_)
   rintro e w110 ⟨rfl, Hc111⟩
   have H := H.call0 Hc111
   refine ⟨_, rfl, H.sel [] (by decide), fun a S => ?_⟩
   refine lq (.bool (!x112)) S (q_not rfl) fun a S => ?_
   refine lq (.bool (!x112)) S (q_move rfl) fun a S => ?_
   obtain ⟨t115, e116, hm⟩ := bind_some hm
   refine lx_cut 15 (fun a w => Slots a 38 [(0, p0), (1, (.int .i64 a1)), (2, (.int .i64 a2)), (7, (.int .i64 x62)), (37, (.bool t115))] ∧ Heap w0 [] w) ?_ ?_
   ·by_cases hc117 : (!x112) = true
    ·have hm := ite_t hc117 e116
     refine lx_skip S rfl rfl (isB_ne hc117) (by decide) (fun a S => ?_)
     refine lx_skip S rfl rfl (isB_ne hc117) (by decide) (fun a S => ?_)
     refine lx_skip S rfl rfl (isB_ne hc117) (by decide) (fun a S => ?_)
     refine lx_skip S rfl rfl rfl (by decide) (fun a S => ?_)
     refine lx_skip S rfl rfl rfl (by decide) (fun a S => ?_)
     refine lx_skip S rfl rfl rfl (by decide) (fun a S => ?_)
     refine lx_skip S rfl rfl rfl (by decide) (fun a S => ?_)
     refine lx_skip S rfl rfl rfl (by decide) (fun a S => ?_)
     refine lx_skip S rfl rfl rfl (by decide) (fun a S => ?_)
     refine lx_skip S rfl rfl rfl (by decide) (fun a S => ?_)
     refine lx_skip S rfl rfl rfl (by decide) (fun a S => ?_)
     refine lx_skip S rfl rfl rfl (by decide) (fun a S => ?_)
     refine lx_skip S rfl rfl rfl (by decide) (fun a S => ?_)
     refine lx_skip S rfl rfl (isB_ne hc117) (by decide) (fun a S => ?_)
     refine lq (.bool true) S (q_pickT' rfl hc117 rfl) fun a S => ?_
     refine lx_nil ?_
     obtain rfl := Option.some.inj hm
     exact ⟨S.sub ⟨rfl, rfl, rfl, rfl, rfl, trivial⟩, H⟩
    ·have hm := ite_f (eq_false_of_ne_true hc117) e116
     have hc117 : (!x112) = false := eq_false_of_ne_true hc117
     refine lx_q (.int .i64 x62) S (want_b rfl rfl hc117) (by decide) (q_move rfl) (fun a S => ?_)
     refine lx_q (.bool (decide ((0 : Int) < x62))) S (want_b rfl rfl hc117) (by decide) (q_gtr rfl rfl) (fun a S => ?_)
     refine lx_q (.bool (decide ((0 : Int) < x62))) S (want_b rfl rfl hc117) (by decide) (q_move rfl) (fun a S => ?_)
     obtain ⟨t118, e119, hm⟩ := bind_some hm
     refine lx_cut 11 (fun a w => Slots a 38 [(0, p0), (1, (.int .i64 a1)), (2, (.int .i64 a2)), (7, (.int .i64 x62)), (22, (.bool (!x112))), (36, (.bool t118))] ∧ Heap w0 [] w) ?_ ?_
     ·by_cases hc120 : (decide ((0 : Int) < x62)) = true
      ·have hm := ite_t hc120 e119
       refine lx_q p0 S (want_b rfl rfl hc120) (by decide) (q_move rfl) (fun a S => ?_)
       refine lx_q (.int .i64 x62) S (want_b rfl rfl hc120) (by decide) (q_move rfl) (fun a S => ?_)
       refine lx_q (.int .i64 (W (x62 - (1 : Int)))) S (want_b rfl rfl hc120) (by decide) (q_sub rfl rfl) (fun a S => ?_)
       obtain ⟨x121, e122, hm⟩ := bind_some hm
       obtain ⟨c123, h124, hat125⟩ := (h0).elem (idx_some e122).2
       obtain rfl := h124
       have hlt := lt_of_idx (idx_some e122).2
       refine lx_q (ePtr p0 ((W (x62 - (1 : Int))).toNat * 1)) S (want_b rfl rfl hc120) (by decide) (q_indexAddr rfl (h0).isSl rfl (idx_some e122).1 hlt Try.underlying32 Try.sizeOf2) (fun a S => ?_)
       refine lx_q (.int .i64 x121) S (want_b rfl rfl hc120) (by decide) (q_load1 rfl Try.isAgg2 (fun w1 hC => ((hat125 0 _ rfl).ext hC.ext))) (fun a S => ?_)
       refine lx_q p0 S (want_b rfl rfl hc120) (by decide) (q_move rfl) (fun a S => ?_)
       refine lx_q (.int .i64 x62) S (want_b rfl rfl hc120) (by decide) (q_move rfl) (fun a S => ?_)
       obtain ⟨x126, e127, hm⟩ := bind_some hm
       obtain ⟨c128, h129, hat130⟩ := (h0).elem (idx_some e127).2
       obtain rfl := h129
       have hlt := lt_of_idx (idx_some e127).2
       refine lx_q (ePtr p0 (x62.toNat * 1)) S (want_b rfl rfl hc120) (by decide) (q_indexAddr rfl (h0).isSl rfl (idx_some e127).1 hlt Try.underlying32 Try.sizeOf2) (fun a S => ?_)
       refine lx_q (.int .i64 x126) S (want_b rfl rfl hc120) (by decide) (q_load1 rfl Try.isAgg2 (fun w1 hC => ((hat130 0 _ rfl).ext hC.ext))) (fun a S => ?_)
       refine lx_q (.bool (decide (x126 ≤ x121))) S (want_b rfl rfl hc120) (by decide) (q_geq rfl rfl) (fun a S => ?_)
       refine lx_q (.bool (decide (x126 ≤ x121))) S (want_b rfl rfl hc117) (by decide) (q_pickT' rfl hc120 rfl) (fun a S => ?_)
       refine lx_nil ?_
       obtain rfl := Option.some.inj hm
       exact ⟨S.sub ⟨rfl, rfl, rfl, rfl, rfl, rfl, trivial⟩, H⟩
      ·have hm := ite_f (eq_false_of_ne_true hc120) e119
       have hc120 : (decide ((0 : Int) < x62)) = false := eq_false_of_ne_true hc120
       refine lx_skip S rfl rfl (isB_ne hc120) (by decide) (fun a S => ?_)
       refine lx_skip S rfl rfl (isB_ne hc120) (by decide) (fun a S => ?_)
       refine lx_skip S rfl rfl (isB_ne hc120) (by decide) (fun a S => ?_)
       refine lx_skip S rfl rfl (isB_ne hc120) (by decide) (fun a S => ?_)
       refine lx_skip S rfl rfl (isB_ne hc120) (by decide) (fun a S => ?_)
       refine lx_skip S rfl rfl (isB_ne hc120) (by decide) (fun a S => ?_)
       refine lx_skip S rfl rfl (isB_ne hc120) (by decide) (fun a S => ?_)
       refine lx_skip S rfl rfl (isB_ne hc120) (by decide) (fun a S => ?_)
       refine lx_skip S rfl rfl (isB_ne hc120) (by decide) (fun a S => ?_)
       refine lx_skip S rfl rfl (isB_ne hc120) (by decide) (fun a S => ?_)
       refine lx_q (.bool false) S (want_b rfl rfl hc117) (by decide) (q_pickF' rfl hc120 rfl) (fun a S => ?_)
       refine lx_nil ?_
       obtain rfl := Option.some.inj hm
       exact ⟨S.sub ⟨rfl, rfl, rfl, rfl, rfl, rfl, trivial⟩, H⟩
     ·rintro a w ⟨S, H⟩
      refine lq (.bool t118) S (q_pickF' rfl hc117 rfl) fun a S => ?_
      refine lx_nil ?_
      obtain rfl := Option.some.inj hm
      exact ⟨S.sub ⟨rfl, rfl, rfl, rfl, rfl, trivial⟩, H⟩
   ·rintro a w ⟨S, H⟩
    refine lx_nil (thenN ?_)
    refine cond_b S rfl (fun hc131 => ?_) (fun hc131 => ?_)
    ·have hm := ite_t hc131 hm
     refine wp_seq (region_plain ?_)
     refine lq (.bool false) S (q_assign rfl) fun a S => ?_
     refine lx_nil (thenN ?_)
     refine wp_ret (inBlock_ret ?_)
     refine then_ret ?_
     refine then_ret ?_
     refine inBlock_ret ?_
     refine then_ret ?_
     refine then_ret ?_
     obtain rfl := it_brk hm hc101
     have hm := ctl_inr hk98
     obtain rfl := Option.some.inj hm
     exact leave1 S rfl rfl ⟨rfl, H⟩
    ·have hm := ite_f hc131 hm
     refine wp_skip ?_
     refine inBlock_norm ?_
     refine thenN ?_
     refine region_plain ?_
     refine lq (.int .i64 x62) S (q_move rfl) fun a S => ?_
     refine lq (.int .i64 (W (x62 + (1 : Int)))) S (q_add rfl rfl) fun a S => ?_
     refine lq (.int .i64 (W (x62 + (1 : Int)))) S (q_assign rfl) fun a S => ?_
     refine lx_nil ?_
     exact ⟨m99, Nat.lt_succ_self _, (W (x62 + (1 : Int))), S.sub ⟨rfl, rfl, rfl, rfl, trivial⟩, H, it_cont hm hc101⟩
  ·have hm := ite_f hc102 hm
   refine wp_exit ?_
   refine then_exit ?_
   refine then_exit ?_
   refine inBlock_exit ?_
   obtain rfl := it_brk hm hc101
   exact ⟨S.sub trivial, H, rfl⟩

/-- spec.l23Is -/
def spec_l23Is_m (fuel : Nat) (a0 : (List Timpl_Vertex)) : Option (Bool) :=
  (if ((a0.length : Int) == (0 : Int)) = true then some true else some (decide ((120 : Int) < (a0.length : Int)))).bind fun t31 => (if t31 = true then some (false) else (iter (fun (s : (Int)) => (match s with | (x104) => (if (decide (x104 < (a0.length : Int))) = true then (idx a0 x104).bind fun x183 => (spec_l00In_m fuel x183.1 (0 : Int) (1 : Int)).bind fun x200 => (if (!x200) = true then some true else (idx a0 x104).bind fun x206 => (spec_l00In_m fuel x206.2.1 (0 : Int) (9 : Int)).bind fun x223 => some (!x223)).bind fun t203 => (if t203 = true then some true else (idx a0 x104).bind fun x229 => (spec_l00Rises_m fuel x229.2.2 (0 : Int) (W ((a0.length : Int) - (1 : Int)))).bind fun x246 => some (!x246)).bind fun t226 => (if t226 = true then some (.inr (.inr false)) else some (.inl ((W (x104 + (1 : Int)))))) else some (.inr (.inl ()))) : Option (((Int)) ⊕ ((Unit) ⊕ (Bool))))) fuel ((0 : Int))).bind fun res174 => ctl (β := Unit) (ρ := Bool) (τ := Bool) res174 (fun _ => some (true)) (fun q => some (q)))
set_option maxRecDepth 20000 in
theorem spec_l23Is_ok [dr : Dr] {w0 : World} {fuel : Nat} {p0 : Value} {a0 : (List Timpl_Vertex)} {r : Bool} (h0 : Rd (rList Rimpl_Vertex) w0 p0 a0) (hm : spec_l23Is_m fuel a0 = some r) :
  Calls Try.prog 12 #[p0] w0 fun e w => e = .returned (.bool r) ∧ Heap w0 [] w := by
 unfold spec_l23Is_m at hm
 have H := Heap.start w0
 refine enter (args := [p0]) Try.func12 rfl 46 rfl (Nat.le_of_ble_eq_true rfl) (fun a S => ?_)
 refine wp_seq (region_plain ?_)
 refine lq (.bool false) S (q_assign rfl) fun a S => ?_
 refine lx_nil (thenN ?_)
 refine wp_seq (wp_seq (region_plain ?_))
 refine lq p0 S (q_move rfl) fun a S => ?_
 refine lq (.int .i64 (a0.length : Int)) S (q_lenSl rfl (h0).isSl rfl Try.underlying24) fun a S => ?_
 refine lq (.bool ((a0.length : Int) == (0 : Int))) S (q_eql rfl rfl) fun a S => ?_
 refine lq (.bool ((a0.length : Int) == (0 : Int))) S (q_move rfl) fun a S => ?_
 obtain ⟨t31, e32, hm⟩ := bind_some hm
 refine lx_cut 4 (fun a w => Slots a 46 [(0, p0), (11, (.bool t31))] ∧ Heap w0 [] w) ?_ ?_
 ·by_cases hc33 : ((a0.length : Int) == (0 : Int)) = true
  ·have hm := ite_t hc33 e32
   refine lx_skip S rfl rfl (isB_ne hc33) (by decide) (fun a S => ?_)
   refine lx_skip S rfl rfl (isB_ne hc33) (by decide) (fun a S => ?_)
   refine lx_skip S rfl rfl (isB_ne hc33) (by decide) (fun a S => ?_)
   refine lq (.bool true) S (q_pickT' rfl hc33 rfl) fun a S => ?_
   refine lx_nil ?_
   obtain rfl := Option.some.inj hm
   exact ⟨S.sub ⟨rfl, rfl, trivial⟩, H⟩
  ·have hm := ite_f (eq_false_of_ne_true hc33) e32
   have hc33 : ((a0.length : Int) == (0 : Int)) = false := eq_false_of_ne_true hc33
   refine lx_q p0 S (want_b rfl rfl hc33) (by decide) (q_move rfl) (fun a S => ?_)
   refine lx_q (.int .i64 (a0.length : Int)) S (want_b rfl rfl hc33) (by decide) (q_lenSl rfl (h0).isSl rfl Try.underlying24) (fun a S => ?_)
   refine lx_q (.bool (decide ((120 : Int) < (a0.length : Int)))) S (want_b rfl rfl hc33) (by decide) (q_gtr rfl rfl) (fun a S => ?_)
   refine lq (.bool (decide ((120 : Int) < (a0.length : Int)))) S (q_pickF' rfl hc33 rfl) fun a S => ?_
   refine lx_nil ?_
   obtain rfl := Option.some.inj hm
   exact ⟨S.sub ⟨rfl, rfl, trivial⟩, H⟩
 ·rintro a w ⟨S, H⟩
  refine lx_nil (thenN ?_)
  refine cond_b S rfl (fun hc34 => ?_) (fun hc34 => ?_)
  ·have hm := ite_t hc34 hm
   refine wp_seq (region_plain ?_)
   refine lq (.bool false) S (q_assign rfl) fun a S => ?_
   refine lx_nil (thenN ?_)
   refine wp_ret (then_ret ?_)
   obtain rfl := Option.some.inj hm
   exact leave1 S rfl rfl ⟨rfl, H⟩
  ·have hm := ite_f hc34 hm
   refine wp_skip (thenN ?_)
   refine wp_seq (wp_seq (region_plain ?_))
   refine lq (.int .i64 (0 : Int)) S (q_assign rfl) fun a S => ?_
   refine lx_nil (thenN ?_)
   obtain ⟨res174, hit175, hk178⟩ := bind_some hm
   obtain ⟨f176, hf177, hit175⟩ := iter_name hit175
   refine block_loop (fun a w => Slots a 46 [] ∧ Heap w0 [] w ∧ res174 = .inl ()) ?_ ?_
   ·rintro a w ⟨S, H, rfl⟩
    have hm := ctl_inl hk178
    refine thenN ?_
    refine wp_seq (region_plain ?_)
    refine lq (.bool true) S (q_assign rfl) fun a S => ?_
    refine lx_nil (thenN ?_)
    refine wp_ret ?_
    obtain rfl := Option.some.inj hm
    exact leave1 S rfl rfl ⟨rfl, H⟩
   ·skip
    refine loop_ghost (fun n a w => ∃ (x104 : Int), Slots a 46 [(0, p0), (3, (.int .i64 x104))] ∧ Heap w0 [] w ∧ iter f176 n (x104) = some res174) _ ⟨(0 : Int), S.sub ⟨rfl, rfl, trivial⟩, H, hit175⟩ ?_
    rintro n a w ⟨x104, S, H, hit175⟩
    obtain ⟨m179, o180, rfl, hm, hc181⟩ := iter_step hit175
    rw [hf177] at hm
    refine wp_seq (wp_seq (region_plain ?_))
    refine lq (.int .i64 x104) S (q_move rfl) fun a S => ?_
    refine lq p0 S (q_move rfl) fun a S => ?_
    refine lq (.int .i64 (a0.length : Int)) S (q_lenSl rfl (h0).isSl rfl Try.underlying24) fun a S => ?_
    refine lq (.bool (decide (x104 < (a0.length : Int)))) S (q_lss rfl rfl) fun a S => ?_
    refine lx_nil (thenN ?_)
    refine cond_b S rfl (fun hc182 => ?_) (fun hc182 => ?_)
    ·have hm := ite_t hc182 hm
     refine wp_skip (thenN ?_)
     refine wp_seq ?_
     refine wp_block ?_
     refine wp_seq (region_plain ?_)
     refine lq p0 S (q_move rfl) fun a S => ?_
     refine lq (.int .i64 x104) S (q_move rfl) fun a S => ?_
     obtain ⟨x183, e184, hm⟩ := bind_some hm
     obtain ⟨c185, h186, hat187⟩ := (h0).elem (idx_some e184).2
     obtain ⟨c190, c191, rfl, h192, h193⟩ := h186
     obtain rfl := h192
     obtain ⟨c194, c195, rfl, h196, h197⟩ := h193
     obtain rfl := h196
     obtain ⟨v188, rfl, h189⟩ := rd_list h197
     have hlt := lt_of_idx (idx_some e184).2
     refine lq (ePtr p0 (x104.toNat * 3)) S (q_indexAddr rfl (h0).isSl rfl (idx_some e184).1 hlt Try.underlying24 Try.sizeOf37) fun a S => ?_
     refine lq (pAdd (ePtr p0 (x104.toNat * 3)) 0) S (q_fieldAddr' 0 2 rfl ((hat187 0 _ rfl).isP) Try.underlying37 rfl Try.sizeOf2) fun a S => ?_
     refine lx_e (.int .i64 x183.1) S trivial (by decide) rfl trivial (q_load1 rfl Try.isAgg2 (by rintro _ rfl; exact (At.of_add (m := 0) (j := 0) ((hat187 0 _ rfl).ext H.ext)))) (fun a S => ?_)
     obtain ⟨x200, e201, hm⟩ := bind_some hm
     refine lx_call (xs := [.tmp 22, .const (.int .i64 (0)), .const (.int .i64 (1))]) S trivial (by decide) rfl rfl Try.call21 ((spec_l00In_ok    e201).mono ?_)
     rintro e w198 ⟨rfl, Hc199⟩
     have H := H.call0 Hc199
     refine ⟨_, rfl, trivial, fun a S => ?_⟩
     refine lq (.bool (!x200)) S (q_not rfl) fun a S => ?_
     refine lq (.bool (!x200)) S (q_move rfl) fun a S => ?_
     obtain ⟨t203, e204, hm⟩ := bind_some hm
     refine lx_cut 8 (fun a w => Slots a 46 [(0, p0), (3, (.int .i64 x104)), (33, (.bool t203))] ∧ Heap w0 [] w) ?_ ?_
     ·by_cases hc205 : (!x200) = true
      ·have hm := ite_t hc205 e204
       refine lx_skip S rfl rfl (isB_ne hc205) (by decide) (fun a S => ?_)
       refine lx_skip S rfl rfl (isB_ne hc205) (by decide) (fun a S => ?_)
       refine lx_skip S rfl rfl (isB_ne hc205) (by decide) (fun a S => ?_)
       refine lx_skip S rfl rfl (isB_ne hc205) (by decide) (fun a S => ?_)
       refine lx_skip S rfl rfl (isB_ne hc205) (by decide) (fun a S => ?_)
       refine lx_skip S rfl rfl (isB_ne hc205) (by decide) (fun a S => ?_)
       refine lx_skip S rfl rfl (isB_ne hc205) (by decide) (fun a S => ?_)
       refine lq (.bool true) S (q_pickT' rfl hc205 rfl) fun a S => ?_
       refine lx_nil ?_
       obtain rfl := Option.some.inj hm
       exact ⟨S.sub ⟨rfl, rfl, rfl, trivial⟩, H⟩
      ·have hm := ite_f (eq_false_of_ne_true hc205) e204
       have hc205 : (!x200) = false := eq_false_of_ne_true hc205
       refine lx_q p0 S (want_b rfl rfl hc205) (by decide) (q_move rfl) (fun a S => ?_)
       refine lx_q (.int .i64 x104) S (want_b rfl rfl hc205) (by decide) (q_move rfl) (fun a S => ?_)
       obtain ⟨x206, e207, hm⟩ := bind_some hm
       obtain ⟨c208, h209, hat210⟩ := (h0).elem (idx_some e207).2
       obtain ⟨c213, c214, rfl, h215, h216⟩ := h209
       obtain rfl := h215
       obtain ⟨c217, c218, rfl, h219, h220⟩ := h216
       obtain rfl := h219
       obtain ⟨v211, rfl, h212⟩ := rd_list h220
       have hlt := lt_of_idx (idx_some e207).2
       refine lx_q (ePtr p0 (x104.toNat * 3)) S (want_b rfl rfl hc205) (by decide) (q_indexAddr rfl (h0).isSl rfl (idx_some e207).1 hlt Try.underlying24 Try.sizeOf37) (fun a S => ?_)
       refine lx_q (pAdd (ePtr p0 (x104.toNat * 3)) 1) S (want_b rfl rfl hc205) (by decide) (q_fieldAddr' 1 2 rfl ((hat210 0 _ rfl).isP) Try.underlying37 rfl Try.sizeOf2) (fun a S => ?_)
       refine lx_e (.int .i64 x206.2.1) S (want_b rfl rfl hc205) (by decide) rfl trivial (q_load1 rfl Try.isAgg2 (by rintro _ rfl; exact (At.of_add (m := 1) (j := 0) ((hat210 1 _ rfl).ext H.ext)))) (fun a S => ?_)
       obtain ⟨x223, e224, hm⟩ := bind_some hm
       refine lx_call (xs := [.tmp 30, .const (.int .i64 (0)), .const (.int .i64 (9))]) S (want_b rfl rfl hc205) (by decide) rfl rfl Try.call21 ((spec_l00In_ok    e224).mono ?_)
       rintro e w221 ⟨rfl, Hc222⟩
       have H := H.call0 Hc222
       refine ⟨_, rfl, trivial, fun a S => ?_⟩
       refine lx_q (.bool (!x223)) S (want_b rfl rfl hc205) (by decide) (q_not rfl) (fun a S => ?_)
       refine lq (.bool (!x223)) S (q_pickF' rfl hc205 rfl) fun a S => ?_
       refine lx_nil ?_
       obtain rfl := Option.some.inj hm
       exact ⟨S.sub ⟨rfl, rfl, rfl, trivial⟩, H⟩
     ·rintro a w ⟨S, H⟩
      refine lq (.bool t203) S (q_move rfl) fun a S => ?_
      obtain ⟨t226, e227, hm⟩ := bind_some hm
      refine lx_cut 11 (fun a w => Slots a 46 [(0, p0), (3, (.int .i64 x104)), (45, (.bool t226))] ∧ Heap w0 [] w) ?_ ?_
      ·by_cases hc228 : t203 = true
       ·have hm := ite_t hc228 e227
        refine lx_skip S rfl rfl (isB_ne hc228) (by decide) (fun a S => ?_)
        refine lx_skip S rfl rfl (isB_ne hc228) (by decide) (fun a S => ?_)
        refine lx_skip S rfl rfl (isB_ne hc228) (by decide) (fun a S => ?_)
        refine lx_skip S rfl rfl (isB_ne hc228) (by decide) (fun a S => ?_)
        refine lx_skip S rfl rfl (isB_ne hc228) (by decide) (fun a S => ?_)
        refine lx_skip S rfl rfl (isB_ne hc228) (by decide) (fun a S => ?_)
        refine lx_skip S rfl rfl (isB_ne hc228) (by decide) (fun a S => ?_)
        refine lx_skip S rfl rfl (isB_ne hc228) (by decide) (fun a S => ?_)
        refine lx_skip S rfl rfl (isB_ne hc228) (by decide) (fun a S => ?_)
        refine lx_skip S rfl rfl (isB_ne hc228) (by decide) (fun a S => ?_)
        refine lq (.bool true) S (q_pickT' rfl hc228 rfl) fun a S => ?_
        refine lx_nil ?_
        obtain rfl := Option.some.inj hm
        exact ⟨S.sub ⟨rfl, rfl, rfl, trivial⟩, H⟩
       ·have hm := ite_f (eq_false_of_ne_true hc228) e227
        have hc228 : t203 = false := eq_false_of_ne_true hc228
        refine lx_q p0 S (want_b rfl rfl hc228) (by decide) (q_move rfl) (fun a S => ?_)
        refine lx_q (.int .i64 x104) S (want_b rfl rfl hc228) (by decide) (q_move rfl) (fun a S => ?_)
        obtain ⟨x229, e230, hm⟩ := bind_some hm
        obtain ⟨c231, h232, hat233⟩ := (h0).elem (idx_some e230).2
        obtain ⟨c236, c237, rfl, h238, h239⟩ := h232
        obtain rfl := h238
        obtain ⟨c240, c241, rfl, h242, h243⟩ := h239
        obtain rfl := h242
        obtain ⟨v234, rfl, h235⟩ := rd_list h243
        have hlt := lt_of_idx (idx_some e230).2
        refine lx_q (ePtr p0 (x104.toNat * 3)) S (want_b rfl rfl hc228) (by decide) (q_indexAddr rfl (h0).isSl rfl (idx_some e230).1 hlt Try.underlying24 Try.sizeOf37) (fun a S => ?_)
        refine lx_q (pAdd (ePtr p0 (x104.toNat * 3)) 2) S (want_b rfl rfl hc228) (by decide) (q_fieldAddr' 2 32 rfl ((hat233 0 _ rfl).isP) Try.underlying37 rfl Try.sizeOf32) (fun a S => ?_)
        refine lx_e v234 S (want_b rfl rfl hc228) (by decide) rfl trivial (q_load1 rfl Try.isAgg32 (by rintro _ rfl; exact (At.of_add (m := 2) (j := 0) ((hat233 2 _ rfl).ext H.ext)))) (fun a S => ?_)
        refine lx_q p0 S (want_b rfl rfl hc228) (by decide) (q_move rfl) (fun a S => ?_)
        refine lx_q (.int .i64 (a0.length : Int)) S (want_b rfl rfl hc228) (by decide) (q_lenSl rfl (h0).isSl rfl Try.underlying24) (fun a S => ?_)
        refine lx_q (.int .i64 (W ((a0.length : Int) - (1 : Int)))) S (want_b rfl rfl hc228) (by decide) (q_sub rfl rfl) (fun a S => ?_)
        obtain ⟨x246, e247, hm⟩ := bind_some hm
        refine lx_call (xs := [.tmp 39, .const (.int .i64 (0)), .tmp 42]) S (want_b rfl rfl hc228) (by decide) rfl rfl Try.call22 ((spec_l00Rises_ok (H.arg h235)   e247).mono ?_)
        rintro e w244 ⟨rfl, Hc245⟩
        have H := H.call0 Hc245
        refine ⟨_, rfl, trivial, fun a S => ?_⟩
        refine lx_q (.bool (!x246)) S (want_b rfl rfl hc228) (by decide) (q_not rfl) (fun a S => ?_)
        refine lq (.bool (!x246)) S (q_pickF' rfl hc228 rfl) fun a S => ?_
        refine lx_nil ?_
        obtain rfl := Option.some.inj hm
        exact ⟨S.sub ⟨rfl, rfl, rfl, trivial⟩, H⟩
      ·rintro a w ⟨S, H⟩
       refine lx_nil (thenN ?_)
       refine cond_b S rfl (fun hc249 => ?_) (fun hc249 => ?_)
       ·have hm := ite_t hc249 hm
        refine wp_seq (region_plain ?_)
        refine lq (.bool false) S (q_assign rfl) fun a S => ?_
        refine lx_nil (thenN ?_)
        refine wp_ret (inBlock_ret ?_)
        refine then_ret ?_
        refine then_ret ?_
        refine inBlock_ret ?_
        refine then_ret ?_
        refine then_ret ?_
        obtain rfl := it_brk hm hc181
        have hm := ctl_inr hk178
        obtain rfl := Option.some.inj hm
        exact leave1 S rfl rfl ⟨rfl, H⟩
       ·have hm := ite_f hc249 hm
        refine wp_skip ?_
        refine inBlock_norm ?_
        refine thenN ?_
        refine region_plain ?_
        refine lq (.int .i64 x104) S (q_move rfl) fun a S => ?_
        refine lq (.int .i64 (W (x104 + (1 : Int)))) S (q_add rfl rfl) fun a S => ?_
        refine lq (.int .i64 (W (x104 + (1 : Int)))) S (q_assign rfl) fun a S => ?_
        refine lx_nil ?_
        exact ⟨m179, Nat.lt_succ_self _, (W (x104 + (1 : Int))), S.sub ⟨rfl, rfl, trivial⟩, H, it_cont hm hc181⟩
    ·have hm := ite_f hc182 hm
     refine wp_exit ?_
     refine then_exit ?_
     refine then_exit ?_
     refine inBlock_exit ?_
     obtain rfl := it_brk hm hc181
     exact ⟨S.sub trivial, H, rfl⟩

/-- spec.l00Own -/
def spec_l00Own_m (_ : Nat) (a0 : (List Int)) : Option ((List Int)) :=
  (app ([] : List Int) a0).bind fun x34 => some (x34)
set_option maxRecDepth 20000 in
theorem spec_l00Own_ok [dr : Dr] {w0 : World} {fuel : Nat} {p0 : Value} {a0 : (List Int)} {r : (List Int)} (h0 : Rd (rList (rInt .i64)) w0 p0 a0) (hm : spec_l00Own_m fuel a0 = some r) :
  Calls Try.prog 23 #[p0] w0 fun e w => ∃ (v0 : Value), e = .returned (v0) ∧ Heap w0 [oA (rList (rInt .i64)) v0 r] w := by
 unfold spec_l00Own_m at hm
 have H := Heap.start w0
 refine enter (args := [p0]) Try.func23 rfl 6 rfl (Nat.le_of_ble_eq_true rfl) (fun a S => ?_)
 refine wp_seq (region_plain ?_)
 refine lq (.slice none 0 0) S (q_assign rfl) fun a S => ?_
 refine lx_nil (thenN ?_)
 refine wp_seq (region_plain ?_)
 refine lx_buildSlice0 (r := (rInt .i64)) S trivial (by decide) rfl H Try.underlying32 Try.sizeOf2 (fun v31 w32 H => ⟨trivial, fun a S => ?_⟩)
 refine lq p0 S (q_move rfl) fun a S => ?_
 obtain ⟨x34, e35, hm⟩ := bind_some hm
 obtain ⟨hle, hap⟩ := app_some e35
 replace hap := hap.symm
 subst hap
 refine lx_appendRd (r := (rInt .i64)) S trivial (by decide) rfl H (flat_int _) (H.arg h0) rfl rfl Try.underlying32 Try.ti2 rfl rfl rfl (Nat.le_of_ble_eq_true rfl) (by decide) hle (fun v36 w37 H => ⟨trivial, fun a S => ?_⟩)
 refine lq v36 S (q_assign rfl) fun a S => ?_
 refine lx_nil (thenN ?_)
 refine wp_ret ?_
 obtain rfl := Option.some.inj hm
 exact leave1 S rfl rfl ⟨v36, rfl, H⟩

/-- spec.l23Own -/
def spec_l23Own_m (fuel : Nat) (a0 : (List Timpl_Vertex)) : Option ((List Timpl_Vertex)) :=
  (iter (fun (s : (List Timpl_Vertex) × (Int)) => (match s with | (xs102, x104) => (if (decide (x104 < (a0.length : Int))) = true then (idx a0 x104).bind fun x186 => (idx a0 x104).bind fun x201 => (idx a0 x104).bind fun x216 => (spec_l00Own_m fuel x216.2.2).bind fun x233 => (app xs102 [(x186.1, x201.2.1, x233)]).bind fun x241 => some (.inl (x241, (W (x104 + (1 : Int))))) else some (.inr (.inl (xs102)))) : Option (((List Timpl_Vertex) × (Int)) ⊕ (((List Timpl_Vertex)) ⊕ ((List Timpl_Vertex)))))) fuel (([] : List Timpl_Vertex), (0 : Int))).bind fun res175 => ctl (β := (List Timpl_Vertex)) (ρ := (List Timpl_Vertex)) (τ := (List Timpl_Vertex)) res175 (fun (xs173) => some (xs173)) (fun q => some (q))
set_option maxRecDepth 20000 in
theorem spec_l23Own_ok [dr : Dr] {w0 : World} {fuel : Nat} {p0 : Value} {a0 : (List Timpl_Vertex)} {r : (List Timpl_Vertex)} (h0 : Rd (rList Rimpl_Vertex) w0 p0 a0) (hm : spec_l23Own_m fuel a0 = some r) :
  Calls Try.prog 13 #[p0] w0 fun e w => ∃ (v0 : Value), e = .returned (v0) ∧ Heap w0 [oA (rList Rimpl_Vertex) v0 r] w := by
 unfold spec_l23Own_m at hm
 have H := Heap.start w0
 refine enter (args := [p0]) Try.func13 rfl 33 rfl (Nat.le_of_ble_eq_true rfl) (fun a S => ?_)
 refine wp_seq (region_plain ?_)
 refine lq (.slice none 0 0) S (q_assign rfl) fun a S => ?_
 refine lx_nil (thenN ?_)
 refine wp_seq (region_plain ?_)
 refine lx_buildSlice0 (r := Rimpl_Vertex) S trivial (by decide) rfl H Try.underlying24 Try.sizeOf37 (fun v31 w32 H => ⟨trivial, fun a S => ?_⟩)
 refine lq v31 S (q_assign rfl) fun a S => ?_
 refine lx_nil (thenN ?_)
 refine wp_seq (wp_seq (region_plain ?_))
 refine lq (.int .i64 (0 : Int)) S (q_assign rfl) fun a S => ?_
 refine lx_nil (thenN ?_)
 obtain ⟨res175, hit176, hk179⟩ := bind_some hm
 obtain ⟨f177, hf178, hit176⟩ := iter_name hit176
 refine block_loop (fun a w => ∃ (xs173 : List Timpl_Vertex) (v172 : Value), Slots a 33 [(3, v172)] ∧ Heap w0 [oA (rList Rimpl_Vertex) v172 xs173] w ∧ res175 = .inl (xs173)) ?_ ?_
 ·rintro a w ⟨xs173, v172, S, H, rfl⟩
  have hm := ctl_inl hk179
  refine thenN ?_
  refine wp_seq (region_plain ?_)
  refine lq v172 S (q_move rfl) fun a S => ?_
  refine lq v172 S (q_assign rfl) fun a S => ?_
  refine lx_nil (thenN ?_)
  refine wp_ret ?_
  obtain rfl := Option.some.inj hm
  exact leave1 S rfl rfl ⟨v172, rfl, H⟩
 ·skip
  refine loop_ghost (fun n a w => ∃ (xs102 : List Timpl_Vertex) (x104 : Int) (v101 : Value), Slots a 33 [(0, p0), (3, v101), (4, (.int .i64 x104))] ∧ Heap w0 [oA (rList Rimpl_Vertex) v101 xs102] w ∧ iter f177 n (xs102, x104) = some res175) _ ⟨([] : List Timpl_Vertex), (0 : Int), v31, S.sub ⟨rfl, rfl, rfl, trivial⟩, H, hit176⟩ ?_
  rintro n a w ⟨xs102, x104, v101, S, H, hit176⟩
  obtain ⟨m180, o181, rfl, hm, hc182⟩ := iter_step hit176
  rw [hf178] at hm
  refine wp_seq (wp_seq (region_plain ?_))
  refine lq (.int .i64 x104) S (q_move rfl) fun a S => ?_
  refine lq p0 S (q_move rfl) fun a S => ?_
  refine lq (.int .i64 (a0.length : Int)) S (q_lenSl rfl (h0).isSl rfl Try.underlying24) fun a S => ?_
  refine lq (.bool (decide (x104 < (a0.length : Int)))) S (q_lss rfl rfl) fun a S => ?_
  refine lx_nil (thenN ?_)
  refine cond_b S rfl (fun hc183 => ?_) (fun hc183 => ?_)
  ·have hm := ite_t hc183 hm
   refine wp_skip (thenN ?_)
   refine wp_seq ?_
   refine wp_block ?_
   refine region_drawG (fun w1 => Heap w0 [] w1) (fun i => [16, 18, 19].contains i) mixed (by kernel_rfl) (fun w185 he184 => ?_)
   have H := H.later he184
   refine ⟨H.sel [] (by decide), ?_⟩
   refine lq v101 S (q_move rfl) fun a S => ?_
   refine lq p0 S (q_move rfl) fun a S => ?_
   refine lq (.int .i64 x104) S (q_move rfl) fun a S => ?_
   obtain ⟨x186, e187, hm⟩ := bind_some hm
   obtain ⟨c188, h189, hat190⟩ := (h0).elem (idx_some e187).2
   obtain ⟨c193, c194, rfl, h195, h196⟩ := h189
   obtain rfl := h195
   obtain ⟨c197, c198, rfl, h199, h200⟩ := h196
   obtain rfl := h199
   obtain ⟨v191, rfl, h192⟩ := rd_list h200
   have hlt := lt_of_idx (idx_some e187).2
   refine lq (ePtr p0 (x104.toNat * 3)) S (q_indexAddr rfl (h0).isSl rfl (idx_some e187).1 hlt Try.underlying24 Try.sizeOf37) fun a S => ?_
   refine lq (pAdd (ePtr p0 (x104.toNat * 3)) 0) S (q_fieldAddr' 0 2 rfl ((hat190 0 _ rfl).isP) Try.underlying37 rfl Try.sizeOf2) fun a S => ?_
   refine lq (.int .i64 x186.1) S (q_load1 rfl Try.isAgg2 (fun w1 hC => (At.of_add (m := 0) (j := 0) ((hat190 0 _ rfl).ext hC.ext)))) fun a S => ?_
   refine lq p0 S (q_move rfl) fun a S => ?_
   refine lq (.int .i64 x104) S (q_move rfl) fun a S => ?_
   obtain ⟨x201, e202, hm⟩ := bind_some hm
   obtain ⟨c203, h204, hat205⟩ := (h0).elem (idx_some e202).2
   obtain ⟨c208, c209, rfl, h210, h211⟩ := h204
   obtain rfl := h210
   obtain ⟨c212, c213, rfl, h214, h215⟩ := h211
   obtain rfl := h214
   obtain ⟨v206, rfl, h207⟩ := rd_list h215
   have hlt := lt_of_idx (idx_some e202).2
   refine lq (ePtr p0 (x104.toNat * 3)) S (q_indexAddr rfl (h0).isSl rfl (idx_some e202).1 hlt Try.underlying24 Try.sizeOf37) fun a S => ?_
   refine lq (pAdd (ePtr p0 (x104.toNat * 3)) 1) S (q_fieldAddr' 1 2 rfl ((hat205 0 _ rfl).isP) Try.underlying37 rfl Try.sizeOf2) fun a S => ?_
   refine lq (.int .i64 x201.2.1) S (q_load1 rfl Try.isAgg2 (fun w1 hC => (At.of_add (m := 1) (j := 0) ((hat205 1 _ rfl).ext hC.ext)))) fun a S => ?_
   refine lq p0 S (q_move rfl) fun a S => ?_
   refine lq (.int .i64 x104) S (q_move rfl) fun a S => ?_
   obtain ⟨x216, e217, hm⟩ := bind_some hm
   obtain ⟨c218, h219, hat220⟩ := (h0).elem (idx_some e217).2
   obtain ⟨c223, c224, rfl, h225, h226⟩ := h219
   obtain rfl := h225
   obtain ⟨c227, c228, rfl, h229, h230⟩ := h226
   obtain rfl := h229
   obtain ⟨v221, rfl, h222⟩ := rd_list h230
   have hlt := lt_of_idx (idx_some e217).2
   refine lq (ePtr p0 (x104.toNat * 3)) S (q_indexAddr rfl (h0).isSl rfl (idx_some e217).1 hlt Try.underlying24 Try.sizeOf37) fun a S => ?_
   refine lq (pAdd (ePtr p0 (x104.toNat * 3)) 2) S (q_fieldAddr' 2 32 rfl ((hat220 0 _ rfl).isP) Try.underlying37 rfl Try.sizeOf32) fun a S => ?_
   refine lq v221 S (q_load1 rfl Try.isAgg32 (fun w1 hC => (At.of_add (m := 2) (j := 0) ((hat220 2 _ rfl).ext hC.ext)))) fun a S => ?_
   obtain ⟨x233, e234, hm⟩ := bind_some hm
   refine lx_call (xs := [.tmp 27]) S trivial (by decide) rfl rfl Try.call23 ((spec_l00Own_ok (H.arg h222) e234).mono ?_)
   rintro e w231 ⟨v235, rfl, Hc232⟩
   have H := H.call1 Hc232
   refine ⟨_, rfl, H.sel [] (by decide), fun a S => ?_⟩
   refine lq (.agg #[(.int .i64 x186.1), (.int .i64 x201.2.1), v235]) S (q_build (zs := [(.int .i64 (0 : Int)), (.int .i64 (0 : Int)), (.slice none 0 0)]) (szs := [1, 1, 1]) (ps := [(0, [(.int .i64 x186.1)]), (1, [(.int .i64 x201.2.1)]), (2, [v235])]) (parts := [(0, .tmp 17), (1, .tmp 22), (2, .tmp 28)]) rfl Try.underlying37 Try.zeroValue37 (fun w => by simp [Try.sizeOf2, Try.sizeOf32]) ⟨rfl, rfl, Nat.le_of_ble_eq_true rfl, ⟨rfl, rfl, Nat.le_of_ble_eq_true rfl, ⟨rfl, (cells_sl (H.isSl 0 rfl)), Nat.le_of_ble_eq_true rfl, trivial⟩⟩⟩ rfl) fun a S => ?_
   refine lx_buildSlice (r := Rimpl_Vertex) (xs := [(x186.1, x201.2.1, x233)]) (ps := [(0, [(.int .i64 x186.1), (.int .i64 x201.2.1), v235])]) (cs := [(.int .i64 x186.1), (.int .i64 x201.2.1), v235]) (parts := [(0, .tmp 29)]) S trivial (by decide) rfl H rfl Try.underlying24 Try.sizeOf37 Try.zeroValue37 (by decide) ⟨rfl, rfl, Nat.le_of_ble_eq_true rfl, trivial⟩ (by intro zs hz; exact fill_dense hz ⟨rfl, trivial⟩ rfl rfl) rfl (by decide) (fun w F hA => ownL_one_mk (ownF ⟨_, _, [(.int .i64 x186.1)], [(.int .i64 x201.2.1), v235], rfl, rfl, ⟨rfl, rfl⟩, ⟨_, _, [(.int .i64 x201.2.1)], [v235], rfl, rfl, ⟨rfl, rfl⟩, (oA_list.1 hA)⟩⟩)) (fun v238 w239 H => ⟨H.sel [] (by decide), fun a S => ?_⟩)
   obtain ⟨x241, e242, hm⟩ := bind_some hm
   obtain ⟨hle, hap⟩ := app_some e242
   replace hap := hap.symm
   subst hap
   have H : Heap w0 [oA (rList Rimpl_Vertex) v238 [(x186.1, x201.2.1, x233)], oA (rList Rimpl_Vertex) v101 xs102] w239 := H.front 0 rfl
   have H : Heap w0 [oA (rList Rimpl_Vertex) v101 xs102, oA (rList Rimpl_Vertex) v238 [(x186.1, x201.2.1, x233)]] w239 := H.front 1 rfl
   refine lx_appendOwn (r := Rimpl_Vertex) S trivial (by decide) rfl H rfl rfl Try.underlying24 Try.ti37 rfl rfl rfl (Nat.le_of_ble_eq_true rfl) (by decide) hle (fun v243 w244 H => ⟨H.sel [] (by decide), fun a S => ?_⟩)
   refine lq v243 S (q_assign rfl) fun a S => ?_
   refine lx_nil ?_
   refine inBlock_norm ?_
   refine thenN ?_
   refine region_plain ?_
   refine lq (.int .i64 x104) S (q_move rfl) fun a S => ?_
   refine lq (.int .i64 (W (x104 + (1 : Int)))) S (q_add rfl rfl) fun a S => ?_
   refine lq (.int .i64 (W (x104 + (1 : Int)))) S (q_assign rfl) fun a S => ?_
   refine lx_nil ?_
   exact ⟨m180, Nat.lt_succ_self _, (xs102 ++ [(x186.1, x201.2.1, x233)]), (W (x104 + (1 : Int))), v243, S.sub ⟨rfl, rfl, rfl, trivial⟩, H, it_cont hm hc182⟩
  ·have hm := ite_f hc183 hm
   refine wp_exit ?_
   refine then_exit ?_
   refine then_exit ?_
   refine inBlock_exit ?_
   obtain rfl := it_brk hm hc182
   exact ⟨xs102, v101, S.sub ⟨rfl, trivial⟩, H, rfl⟩

/-- spec.DualGame -/
def spec_DualGame_m (fuel : Nat) (a0 : (List Timpl_Vertex)) : Option (((List Timpl_Vertex) × Int)) :=
  (spec_l23Is_m fuel a0).bind fun x33 => (if (!x33) = true then some (([], (1 : Int))) else (spec_l23Own_m fuel a0).bind fun x40 => (iter (fun (s : (List Timpl_Vertex) × (Int)) => (match s with | (xs100, x101) => (if (decide (x101 < (xs100.length : Int))) = true then (idx xs100 x101).bind fun x167 => (idx xs100 x101).bind fun x182 => (idx (xs100.set x101.toNat ((W ((1 : Int) - x167.1)), x182.2.1, x182.2.2)) x101).bind fun x185 => (idx (xs100.set x101.toNat ((W ((1 : Int) - x167.1)), x182.2.1, x182.2.2)) x101).bind fun x200 => (idx ((xs100.set x101.toNat ((W ((1 : Int) - x167.1)), x182.2.1, x182.2.2)).set x101.toNat (x200.1, (W (x185.2.1 + (1 : Int))), x200.2.2)) x101).bind fun x203 => (if (decide ((9 : Int) < x203.2.1)) = true then some (.inr (.inr ([], (5 : Int)))) else some (.inl (((xs100.set x101.toNat ((W ((1 : Int) - x167.1)), x182.2.1, x182.2.2)).set x101.toNat (x200.1, (W (x185.2.1 + (1 : Int))), x200.2.2)), (W (x101 + (1 : Int)))))) else some (.inr (.inl (xs100)))) : Option (((List Timpl_Vertex) × (Int)) ⊕ (((List Timpl_Vertex)) ⊕ (((List Timpl_Vertex) × Int)))))) fuel (x40, (0 : Int))).bind fun res158 => ctl (β := (List Timpl_Vertex)) (ρ := ((List Timpl_Vertex) × Int)) (τ := ((List Timpl_Vertex) × Int)) res158 (fun (xs157) => some ((xs157, (0 : Int)))) (fun q => some (q)))
set_option maxRecDepth 20000 in
theorem spec_DualGame_ok [dr : Dr] {w0 : World} {fuel : Nat} {p0 : Value} {a0 : (List Timpl_Vertex)} {r : ((List Timpl_Vertex) × Int)} (h0 : Rd (rList Rimpl_Vertex) w0 p0 a0) (hm : spec_DualGame_m fuel a0 = some r) :
  Calls Try.prog 5 #[p0] w0 fun e w => ∃ (v0 : Value), e = .returned (.tuple #[v0, .int .i64 r.2]) ∧ Heap w0 [oA (rList Rimpl_Vertex) v0 r.1] w := by
 unfold spec_DualGame_m at hm
 have H := Heap.start w0
 refine enter (args := [p0]) Try.func5 rfl 42 rfl (Nat.le_of_ble_eq_true rfl) (fun a S => ?_)
 refine wp_seq (region_plain ?_)
 refine lq (.slice none 0 0) S (q_assign rfl) fun a S => ?_
 refine lq (.int .i64 (0 : Int)) S (q_assign rfl) fun a S => ?_
 refine lx_nil (thenN ?_)
 refine wp_seq (wp_seq (region_plain ?_))
 refine lq p0 S (q_move rfl) fun a S => ?_
 obtain ⟨x33, e34, hm⟩ := bind_some hm
 refine lx_call (xs := [.tmp 6]) S trivial (by decide) rfl rfl Try.call12 ((spec_l23Is_ok (H.arg h0) e34).mono ?_)
 rintro e w31 ⟨rfl, Hc32⟩
 have H := H.call0 Hc32
 refine ⟨_, rfl, trivial, fun a S => ?_⟩
 refine lq (.bool (!x33)) S (q_not rfl) fun a S => ?_
 refine lx_nil (thenN ?_)
 refine cond_b S rfl (fun hc36 => ?_) (fun hc36 => ?_)
 ·have hm := ite_t hc36 hm
  refine wp_seq (region_plain ?_)
  refine lq (.slice none 0 0) S (q_assign rfl) fun a S => ?_
  refine lq (.int .i64 (1 : Int)) S (q_assign rfl) fun a S => ?_
  refine lx_nil (thenN ?_)
  refine wp_ret (then_ret ?_)
  obtain rfl := Option.some.inj hm
  have H : Heap w0 [oA (rList Rimpl_Vertex) (.slice none 0 0) ([] : List Timpl_Vertex)] w31 := H.nilList Rimpl_Vertex
  exact leave2 S rfl rfl rfl ⟨(.slice none 0 0), rfl, H⟩
 ·have hm := ite_f hc36 hm
  refine wp_skip (thenN ?_)
  refine wp_seq (region_plain ?_)
  refine lq p0 S (q_move rfl) fun a S => ?_
  obtain ⟨x40, e41, hm⟩ := bind_some hm
  refine lx_call (xs := [.tmp 9]) S trivial (by decide) rfl rfl Try.call13 ((spec_l23Own_ok (H.arg h0) e41).mono ?_)
  rintro e w38 ⟨v42, rfl, Hc39⟩
  have H := H.call1 Hc39
  refine ⟨_, rfl, trivial, fun a S => ?_⟩
  refine lq v42 S (q_assign rfl) fun a S => ?_
  refine lx_nil (thenN ?_)
  refine wp_seq (wp_seq (region_plain ?_))
  refine lq (.int .i64 (0 : Int)) S (q_assign rfl) fun a S => ?_
  refine lx_nil (thenN ?_)
  obtain ⟨res158, hit159, hk162⟩ := bind_some hm
  obtain ⟨f160, hf161, hit159⟩ := iter_name hit159
  refine block_loop (fun a w => ∃ (xs157 : List Timpl_Vertex), Slots a 42 [(4, v42)] ∧ Heap w0 [oA (rList Rimpl_Vertex) v42 xs157] w ∧ res158 = .inl (xs157)) ?_ ?_
  ·rintro a w ⟨xs157, S, H, rfl⟩
   have hm := ctl_inl hk162
   refine thenN ?_
   refine wp_seq (region_plain ?_)
   refine lq v42 S (q_move rfl) fun a S => ?_
   refine lq v42 S (q_assign rfl) fun a S => ?_
   refine lq (.int .i64 (0 : Int)) S (q_assign rfl) fun a S => ?_
   refine lx_nil (thenN ?_)
   refine wp_ret ?_
   obtain rfl := Option.some.inj hm
   exact leave2 S rfl rfl rfl ⟨v42, rfl, H⟩
  ·skip
   refine loop_ghost (fun n a w => ∃ (xs100 : List Timpl_Vertex) (x101 : Int), Slots a 42 [(4, v42), (5, (.int .i64 x101))] ∧ Heap w0 [oA (rList Rimpl_Vertex) v42 xs100] w ∧ iter f160 n (xs100, x101) = some res158) _ ⟨x40, (0 : Int), S.sub ⟨rfl, rfl, trivial⟩, H, hit159⟩ ?_
   rintro n a w ⟨xs100, x101, S, H, hit159⟩
   obtain ⟨m163, o164, rfl, hm, hc165⟩ := iter_step hit159
   rw [hf161] at hm
   refine wp_seq (wp_seq (region_plain ?_))
   refine lq (.int .i64 x101) S (q_move rfl) fun a S => ?_
   refine lq v42 S (q_move rfl) fun a S => ?_
   refine lq (.int .i64 (xs100.length : Int)) S (q_lenSl rfl (H.isSl 0 rfl) rfl Try.underlying24) fun a S => ?_
   refine lq (.bool (decide (x101 < (xs100.length : Int)))) S (q_lss rfl rfl) fun a S => ?_
   refine lx_nil (thenN ?_)
   refine cond_b S rfl (fun hc166 => ?_) (fun hc166 => ?_)
   ·have hm := ite_t hc166 hm
    refine wp_skip (thenN ?_)
    refine wp_seq ?_
    refine wp_block ?_
    refine wp_seq (region_plain ?_)
    refine lq v42 S (q_move rfl) fun a S => ?_
    refine lq (.int .i64 x101) S (q_move rfl) fun a S => ?_
    refine lq v42 S (q_move rfl) fun a S => ?_
    refine lq (.int .i64 x101) S (q_move rfl) fun a S => ?_
    obtain ⟨x167, e168, hm⟩ := bind_some hm
    have hlt := lt_of_idx (idx_some e168).2
    refine lq (ePtr v42 (x101.toNat * 3)) S (q_indexAddr rfl (H.isSl 0 rfl) rfl (idx_some e168).1 hlt Try.underlying24 Try.sizeOf37) fun a S => ?_
    refine lq (pAdd (ePtr v42 (x101.toNat * 3)) 0) S (q_fieldAddr' 0 2 rfl (((H.isSl 0 rfl)).ptr (lt_of_idx (idx_some e168).2) _) Try.underlying37 rfl Try.sizeOf2) fun a S => ?_
    obtain ⟨c169, h170, hat171⟩ := (H.rdAt 0 rfl).elem (idx_some e168).2
    obtain ⟨c174, c175, rfl, h176, h177⟩ := h170
    obtain rfl := h176
    obtain ⟨c178, c179, rfl, h180, h181⟩ := h177
    obtain rfl := h180
    obtain ⟨v172, rfl, h173⟩ := rd_list h181
    refine lx_e (.int .i64 x167.1) S trivial (by decide) rfl trivial (q_load1 rfl Try.isAgg2 (by rintro _ rfl; exact (At.of_add (m := 0) (j := 0) (hat171 0 _ rfl)))) (fun a S => ?_)
    refine lq (.int .i64 (W ((1 : Int) - x167.1))) S (q_sub rfl rfl) fun a S => ?_
    obtain ⟨x182, e183, hm⟩ := bind_some hm
    have hlt := lt_of_idx (idx_some e183).2
    refine lq (ePtr v42 (x101.toNat * 3)) S (q_indexAddr rfl (H.isSl 0 rfl) rfl (idx_some e183).1 hlt Try.underlying24 Try.sizeOf37) fun a S => ?_
    refine lq (pAdd (ePtr v42 (x101.toNat * 3)) 0) S (q_fieldAddr' 0 2 rfl (((H.isSl 0 rfl)).ptr (lt_of_idx (idx_some e183).2) _) Try.underlying37 rfl Try.sizeOf2) fun a S => ?_
    refine lx_storeElem (r := Rimpl_Vertex) (us := [(.int .i64 (W ((1 : Int) - x167.1)))]) (off := 0) (e' := ((W ((1 : Int) - x167.1)), x182.2.1, x182.2.2)) S trivial rfl H.putE rfl rfl (idx_some e183).2 rfl Try.sizeOf2 (Nat.le_of_ble_eq_true rfl) (List.forall_mem_cons.2 ⟨rfl, (List.forall_mem_nil _)⟩) (Upd.fst (off := 0) (Nat.le_of_ble_eq_true rfl) (Upd.full rfl (fun w G hG => by cases (show G = [] from hG); exact ⟨rfl, rfl⟩))) (fun w184 H => ⟨trivial, fun a S => ?_⟩)
    refine lx_nil (thenN ?_)
    refine wp_seq (region_plain ?_)
    refine lq v42 S (q_move rfl) fun a S => ?_
    refine lq (.int .i64 x101) S (q_move rfl) fun a S => ?_
    obtain ⟨x185, e186, hm⟩ := bind_some hm
    have hlt := lt_of_idx (idx_some e186).2
    refine lq (ePtr v42 (x101.toNat * 3)) S (q_indexAddr rfl (H.isSl 0 rfl) rfl (idx_some e186).1 hlt Try.underlying24 Try.sizeOf37) fun a S => ?_
    refine lq (pAdd (ePtr v42 (x101.toNat * 3)) 1) S (q_fieldAddr' 1 2 rfl (((H.isSl 0 rfl)).ptr (lt_of_idx (idx_some e186).2) _) Try.underlying37 rfl Try.sizeOf2) fun a S => ?_
    obtain ⟨c187, h188, hat189⟩ := (H.rdAt 0 rfl).elem (idx_some e186).2
    obtain ⟨c192, c193, rfl, h194, h195⟩ := h188
    obtain rfl := h194
    obtain ⟨c196, c197, rfl, h198, h199⟩ := h195
    obtain rfl := h198
    obtain ⟨v190, rfl, h191⟩ := rd_list h199
    refine lx_e (.int .i64 x185.2.1) S trivial (by decide) rfl trivial (q_load1 rfl Try.isAgg2 (by rintro _ rfl; exact (At.of_add (m := 1) (j := 0) (hat189 1 _ rfl)))) (fun a S => ?_)
    refine lq (.int .i64 (W (x185.2.1 + (1 : Int)))) S (q_add rfl rfl) fun a S => ?_
    obtain ⟨x200, e201, hm⟩ := bind_some hm
    have hlt := lt_of_idx (idx_some e201).2
    refine lq (ePtr v42 (x101.toNat * 3)) S (q_indexAddr rfl (H.isSl 0 rfl) rfl (idx_some e201).1 hlt Try.underlying24 Try.sizeOf37) fun a S => ?_
    refine lq (pAdd (ePtr v42 (x101.toNat * 3)) 1) S (q_fieldAddr' 1 2 rfl (((H.isSl 0 rfl)).ptr (lt_of_idx (idx_some e201).2) _) Try.underlying37 rfl Try.sizeOf2) fun a S => ?_
    refine lx_storeElem (r := Rimpl_Vertex) (us := [(.int .i64 (W (x185.2.1 + (1 : Int))))]) (off := 1) (e' := (x200.1, (W (x185.2.1 + (1 : Int))), x200.2.2)) S trivial rfl H.putE rfl rfl (idx_some e201).2 rfl Try.sizeOf2 (Nat.le_of_ble_eq_true rfl) (List.forall_mem_cons.2 ⟨rfl, (List.forall_mem_nil _)⟩) (Upd.snd (off := 0) (Upd.fst (off := 0) (Nat.le_of_ble_eq_true rfl) (Upd.full rfl (fun w G hG => by cases (show G = [] from hG); exact ⟨rfl, rfl⟩)))) (fun w202 H => ⟨trivial, fun a S => ?_⟩)
    refine lx_nil (thenN ?_)
    refine wp_seq (region_plain ?_)
    refine lq v42 S (q_move rfl) fun a S => ?_
    refine lq (.int .i64 x101) S (q_move rfl) fun a S => ?_
    obtain ⟨x203, e204, hm⟩ := bind_some hm
    have hlt := lt_of_idx (idx_some e204).2
    refine lq (ePtr v42 (x101.toNat * 3)) S (q_indexAddr rfl (H.isSl 0 rfl) rfl (idx_some e204).1 hlt Try.underlying24 Try.sizeOf37) fun a S => ?_
    refine lq (pAdd (ePtr v42 (x101.toNat * 3)) 1) S (q_fieldAddr' 1 2 rfl (((H.isSl 0 rfl)).ptr (lt_of_idx (idx_some e204).2) _) Try.underlying37 rfl Try.sizeOf2) fun a S => ?_
    obtain ⟨c205, h206, hat207⟩ := (H.rdAt 0 rfl).elem (idx_some e204).2
    obtain ⟨c210, c211, rfl, h212, h213⟩ := h206
    obtain rfl := h212
    obtain ⟨c214, c215, rfl, h216, h217⟩ := h213
    obtain rfl := h216
    obtain ⟨v208, rfl, h209⟩ := rd_list h217
    refine lx_e (.int .i64 x203.2.1) S trivial (by decide) rfl trivial (q_load1 rfl Try.isAgg2 (by rintro _ rfl; exact (At.of_add (m := 1) (j := 0) (hat207 1 _ rfl)))) (fun a S => ?_)
    refine lq (.bool (decide ((9 : Int) < x203.2.1))) S (q_gtr rfl rfl) fun a S => ?_
    refine lx_nil (thenN ?_)
    refine cond_b S rfl (fun hc218 => ?_) (fun hc218 => ?_)
    ·have hm := ite_t hc218 hm
     refine wp_seq (region_plain ?_)
     refine lq (.slice none 0 0) S (q_assign rfl) fun a S => ?_
     refine lq (.int .i64 (5 : Int)) S (q_assign rfl) fun a S => ?_
     refine lx_nil (thenN ?_)
     refine wp_ret (inBlock_ret ?_)
     refine then_ret ?_
     refine then_ret ?_
     refine inBlock_ret ?_
     refine then_ret ?_
     refine then_ret ?_
     obtain rfl := it_brk hm hc165
     have hm := ctl_inr hk162
     obtain rfl := Option.some.inj hm
     have H : Heap w0 [oA (rList Rimpl_Vertex) (.slice none 0 0) ([] : List Timpl_Vertex), oA (rList Rimpl_Vertex) v42 ((xs100.set x101.toNat ((W ((1 : Int) - x167.1)), x182.2.1, x182.2.2)).set x101.toNat (x200.1, (W (x185.2.1 + (1 : Int))), x200.2.2))] w202 := H.nilList Rimpl_Vertex
     have H : Heap w0 [oA (rList Rimpl_Vertex) (.slice none 0 0) ([] : List Timpl_Vertex)] w202 := H.sel [0] (by decide)
     exact leave2 S rfl rfl rfl ⟨(.slice none 0 0), rfl, H⟩
    ·have hm := ite_f hc218 hm
     refine wp_skip ?_
     refine inBlock_norm ?_
     refine thenN ?_
     refine region_plain ?_
     refine lq (.int .i64 x101) S (q_move rfl) fun a S => ?_
     refine lq (.int .i64 (W (x101 + (1 : Int)))) S (q_add rfl rfl) fun a S => ?_
     refine lq (.int .i64 (W (x101 + (1 : Int)))) S (q_assign rfl) fun a S => ?_
     refine lx_nil ?_
     exact ⟨m163, Nat.lt_succ_self _, ((xs100.set x101.toNat ((W ((1 : Int) - x167.1)), x182.2.1, x182.2.2)).set x101.toNat (x200.1, (W (x185.2.1 + (1 : Int))), x200.2.2)), (W (x101 + (1 : Int))), S.sub ⟨rfl, rfl, trivial⟩, H, it_cont hm hc165⟩
   ·have hm := ite_f hc166 hm
    refine wp_exit ?_
    refine then_exit ?_
    refine then_exit ?_
    refine inBlock_exit ?_
    obtain rfl := it_brk hm hc165
    exact ⟨xs100, S.sub ⟨rfl, trivial⟩, H, rfl⟩

/-- impl.within -/
def impl_within_m (_ : Nat) (a0 : Int) (a1 : Int) (a2 : Int) : Option (Bool) :=
  (if (decide (a1 ≤ a0)) = true then some (decide (a0 ≤ a2)) else some false).bind fun t31 => some (t31)
set_option maxRecDepth 20000 in
theorem impl_within_ok [dr : Dr] {w0 : World} {fuel : Nat} {a0 : Int} {a1 : Int} {a2 : Int} {r : Bool} (hm : impl_within_m fuel a0 a1 a2 = some r) :
  Calls Try.prog 25 #[.int .i64 a0, .int .i64 a1, .int .i64 a2] w0 fun e w => e = .returned (.bool r) ∧ Heap w0 [] w := by
 unfold impl_within_m at hm
 have H := Heap.start w0
 refine enter (args := [.int .i64 a0, .int .i64 a1, .int .i64 a2]) Try.func25 rfl 15 rfl (Nat.le_of_ble_eq_true rfl) (fun a S => ?_)
 refine wp_seq (region_plain ?_)
 refine lq (.bool false) S (q_assign rfl) fun a S => ?_
 refine lx_nil (thenN ?_)
 refine wp_seq (region_plain ?_)
 refine lq (.int .i64 a0) S (q_move rfl) fun a S => ?_
 refine lq (.int .i64 a1) S (q_move rfl) fun a S => ?_
 refine lq (.bool (decide (a1 ≤ a0))) S (q_geq rfl rfl) fun a S => ?_
 refine lq (.bool (decide (a1 ≤ a0))) S (q_move rfl) fun a S => ?_
 obtain ⟨t31, e32, hm⟩ := bind_some hm
 refine lx_cut 4 (fun a w => Slots a 15 [(14, (.bool t31))] ∧ Heap w0 [] w) ?_ ?_
 ·by_cases hc33 : (decide (a1 ≤ a0)) = true
  ·have hm := ite_t hc33 e32
   refine lx_q (.int .i64 a0) S (want_b rfl rfl hc33) (by decide) (q_move rfl) (fun a S => ?_)
   refine lx_q (.int .i64 a2) S (want_b rfl rfl hc33) (by decide) (q_move rfl) (fun a S => ?_)
   refine lx_q (.bool (decide (a0 ≤ a2))) S (want_b rfl rfl hc33) (by decide) (q_leq rfl rfl) (fun a S => ?_)
   refine lq (.bool (decide (a0 ≤ a2))) S (q_pickT' rfl hc33 rfl) fun a S => ?_
   refine lx_nil ?_
   obtain rfl := Option.some.inj hm
   exact ⟨S.sub ⟨rfl, trivial⟩, H⟩
  ·have hm := ite_f (eq_false_of_ne_true hc33) e32
   have hc33 : (decide (a1 ≤ a0)) = false := eq_false_of_ne_true hc33
   refine lx_skip S rfl rfl (isB_ne hc33) (by decide) (fun a S => ?_)
   refine lx_skip S rfl rfl (isB_ne hc33) (by decide) (fun a S => ?_)
   refine lx_skip S rfl rfl (isB_ne hc33) (by decide) (fun a S => ?_)
   refine lq (.bool false) S (q_pickF' rfl hc33 rfl) fun a S => ?_
   refine lx_nil ?_
   obtain rfl := Option.some.inj hm
   exact ⟨S.sub ⟨rfl, trivial⟩, H⟩
 ·rintro a w ⟨S, H⟩
  refine lq (.bool t31) S (q_assign rfl) fun a S => ?_
  refine lx_nil (thenN ?_)
  refine wp_ret ?_
  obtain rfl := Option.some.inj hm
  exact leave1 S rfl rfl ⟨rfl, H⟩

/-- impl.index -/
def impl_index_m (fuel : Nat) (a0 : Int) (a1 : Int) : Option (Bool) :=
  (impl_within_m fuel a0 (0 : Int) (W (a1 - (1 : Int)))).bind fun x33 => some (x33)
set_option maxRecDepth 20000 in
theorem impl_index_ok [dr : Dr] {w0 : World} {fuel : Nat} {a0 : Int} {a1 : Int} {r : Bool} (hm : impl_index_m fuel a0 a1 = some r) :
  Calls Try.prog 33 #[.int .i64 a0, .int .i64 a1] w0 fun e w => e = .returned (.bool r) ∧ Heap w0 [] w := by
 unfold impl_index_m at hm
 have H := Heap.start w0
 refine enter (args := [.int .i64 a0, .int .i64 a1]) Try.func33 rfl 9 rfl (Nat.le_of_ble_eq_true rfl) (fun a S => ?_)
 refine wp_seq (region_plain ?_)
 refine lq (.bool false) S (q_assign rfl) fun a S => ?_
 refine lx_nil (thenN ?_)
 refine wp_seq (region_plain ?_)
 refine lq (.int .i64 a0) S (q_move rfl) fun a S => ?_
 refine lq (.int .i64 a1) S (q_move rfl) fun a S => ?_
 refine lq (.int .i64 (W (a1 - (1 : Int)))) S (q_sub rfl rfl) fun a S => ?_
 obtain ⟨x33, e34, hm⟩ := bind_some hm
 refine lx_call (xs := [.tmp 5, .const (.int .i64 (0)), .tmp 7]) S trivial (by decide) rfl rfl Try.call25 ((impl_within_ok    e34).mono ?_)
 rintro e w31 ⟨rfl, Hc32⟩
 have H := H.call0 Hc32
 refine ⟨_, rfl, trivial, fun a S => ?_⟩
 refine lq (.bool x33) S (q_assign rfl) fun a S => ?_
 refine lx_nil (thenN ?_)
 refine wp_ret ?_
 obtain rfl := Option.some.inj hm
 exact leave1 S rfl rfl ⟨rfl, H⟩

/-- impl.increasing -/
def impl_increasing_m (fuel : Nat) (a0 : (List Int)) (a1 : Int) : Option (Bool) :=
  (iter (fun (s : (Int)) => (match s with | (x55) => (if (decide (x55 < (a0.length : Int))) = true then (idx a0 x55).bind fun x89 => (impl_index_m fuel x89 a1).bind fun x96 => (if (!x96) = true then some true else (if (decide ((0 : Int) < x55)) = true then (idx a0 (W (x55 - (1 : Int)))).bind fun x105 => some (decide (x89 ≤ x105)) else some false).bind fun t102 => some t102).bind fun t99 => (if t99 = true then some (.inr (.inr false)) else some (.inl ((W (x55 + (1 : Int)))))) else some (.inr (.inl ()))) : Option (((Int)) ⊕ ((Unit) ⊕ (Bool))))) fuel ((0 : Int))).bind fun res80 => ctl (β := Unit) (ρ := Bool) (τ := Bool) res80 (fun _ => some (true)) (fun q => some (q))
set_option maxRecDepth 20000 in
theorem impl_increasing_ok [dr : Dr] {w0 : World} {fuel : Nat} {p0 : Value} {a0 : (List Int)} {a1 : Int} {r : Bool} (h0 : Rd (rList (rInt .i64)) w0 p0 a0) (hm : impl_increasing_m fuel a0 a1 = some r) :
  Calls Try.prog 28 #[p0, .int .i64 a1] w0 fun e w => e = .returned (.bool r) ∧ Heap w0 [] w := by
 unfold impl_increasing_m at hm
 have H := Heap.start w0
 refine enter (args := [p0, .int .i64 a1]) Try.func28 rfl 32 rfl (Nat.le_of_ble_eq_true rfl) (fun a S => ?_)
 refine wp_seq (region_plain ?_)
 refine lq (.bool false) S (q_assign rfl) fun a S => ?_
 refine lx_nil (thenN ?_)
 refine wp_seq (wp_seq (region_plain ?_))
 refine lq p0 S (q_move rfl) fun a S => ?_
 refine lq (.int .i64 (a0.length : Int)) S (q_lenSl rfl (h0).isSl rfl Try.underlying32) fun a S => ?_
 refine lq (.int .i64 (0 : Int)) S (q_move rfl) fun a S => ?_
 refine lx_nil (thenN ?_)
 obtain ⟨res80, hit81, hk84⟩ := bind_some hm
 obtain ⟨f82, hf83, hit81⟩ := iter_name hit81
 refine block_loop (fun a w => Slots a 32 [] ∧ Heap w0 [] w ∧ res80 = .inl ()) ?_ ?_
 ·rintro a w ⟨S, H, rfl⟩
  have hm := ctl_inl hk84
  refine thenN ?_
  refine wp_seq (region_plain ?_)
  refine lq (.bool true) S (q_assign rfl) fun a S => ?_
  refine lx_nil (thenN ?_)
  refine wp_ret ?_
  obtain rfl := Option.some.inj hm
  exact leave1 S rfl rfl ⟨rfl, H⟩
 ·skip
  refine loop_ghost (fun n a w => ∃ (x55 : Int), Slots a 32 [(0, p0), (1, (.int .i64 a1)), (7, p0), (8, (.int .i64 (a0.length : Int))), (9, (.int .i64 x55))] ∧ Heap w0 [] w ∧ iter f82 n (x55) = some res80) _ ⟨(0 : Int), S.sub ⟨rfl, rfl, rfl, rfl, rfl, trivial⟩, H, hit81⟩ ?_
  rintro n a w ⟨x55, S, H, hit81⟩
  obtain ⟨m85, o86, rfl, hm, hc87⟩ := iter_step hit81
  rw [hf83] at hm
  refine wp_seq (region_plain ?_)
  refine lq (.bool (decide (x55 < (a0.length : Int)))) S (q_lss rfl rfl) fun a S => ?_
  refine lx_nil (thenN ?_)
  refine wp_seq ?_
  refine cond_b S rfl (fun hc88 => ?_) (fun hc88 => ?_)
  ·have hm := ite_t hc88 hm
   refine wp_skip (thenN ?_)
   refine wp_seq ?_
   refine wp_block ?_
   refine wp_seq (region_plain ?_)
   refine lq (.int .i64 x55) S (q_move rfl) fun a S => ?_
   obtain ⟨x89, e90, hm⟩ := bind_some hm
   obtain ⟨c91, h92, hat93⟩ := (h0).elem (idx_some e90).2
   obtain rfl := h92
   have hlt := lt_of_idx (idx_some e90).2
   refine lq (ePtr p0 (x55.toNat * 1)) S (q_indexAddr rfl (h0).isSl rfl (idx_some e90).1 hlt Try.underlying32 Try.sizeOf2) fun a S => ?_
   refine lx_e (.int .i64 x89) S trivial (by decide) rfl trivial (q_load1 rfl Try.isAgg2 (by rintro _ rfl; exact ((hat93 0 _ rfl).ext H.ext))) (fun a S => ?_)
   refine lq (.int .i64 x55) S (q_assign rfl) fun a S => ?_
   refine lq (.int .i64 x89) S (q_assign rfl) fun a S => ?_
   refine lx_nil (thenN ?_)
   refine wp_seq (region_plain ?_)
   refine lq (.int .i64 x89) S (q_move rfl) fun a S => ?_
   refine lq (.int .i64 a1) S (q_move rfl) fun a S => ?_
   obtain ⟨x96, e97, hm⟩ := bind_some hm
   refine lx_call (xs := [.tmp 14, .tmp 15]) S trivial (by decide) rfl rfl Try.call33 ((impl_index_ok   e97).mono ?_)
   rintro e w94 ⟨rfl, Hc95⟩
   have H := H.call0 Hc95
   refine ⟨_, rfl, trivial, fun a S => ?_⟩
   refine lq (.bool (!x96)) S (q_not rfl) fun a S => ?_
   refine lq (.bool (!x96)) S (q_move rfl) fun a S => ?_
   obtain ⟨t99, e100, hm⟩ := bind_some hm
   refine lx_cut 12 (fun a w => Slots a 32 [(0, p0), (1, (.int .i64 a1)), (7, p0), (8, (.int .i64 (a0.length : Int))), (9, (.int .i64 x55)), (30, (.bool t99))] ∧ Heap w0 [] w) ?_ ?_
   ·by_cases hc101 : (!x96) = true
    ·have hm := ite_t hc101 e100
     refine lx_skip S rfl rfl (isB_ne hc101) (by decide) (fun a S => ?_)
     refine lx_skip S rfl rfl (isB_ne hc101) (by decide) (fun a S => ?_)
     refine lx_skip S rfl rfl (isB_ne hc101) (by decide) (fun a S => ?_)
     refine lx_skip S rfl rfl rfl (by decide) (fun a S => ?_)
     refine lx_skip S rfl rfl rfl (by decide) (fun a S => ?_)
     refine lx_skip S rfl rfl rfl (by decide) (fun a S => ?_)
     refine lx_skip S rfl rfl rfl (by decide) (fun a S => ?_)
     refine lx_skip S rfl rfl rfl (by decide) (fun a S => ?_)
     refine lx_skip S rfl rfl rfl (by decide) (fun a S => ?_)
     refine lx_skip S rfl rfl rfl (by decide) (fun a S => ?_)
     refine lx_skip S rfl rfl (isB_ne hc101) (by decide) (fun a S => ?_)
     refine lq (.bool true) S (q_pickT' rfl hc101 rfl) fun a S => ?_
     refine lx_nil ?_
     obtain rfl := Option.some.inj hm
     exact ⟨S.sub ⟨rfl, rfl, rfl, rfl, rfl, rfl, trivial⟩, H⟩
    ·have hm := ite_f (eq_false_of_ne_true hc101) e100
     have hc101 : (!x96) = false := eq_false_of_ne_true hc101
     refine lx_q (.int .i64 x55) S (want_b rfl rfl hc101) (by decide) (q_move rfl) (fun a S => ?_)
     refine lx_q (.bool (decide ((0 : Int) < x55))) S (want_b rfl rfl hc101) (by decide) (q_gtr rfl rfl) (fun a S => ?_)
     refine lx_q (.bool (decide ((0 : Int) < x55))) S (want_b rfl rfl hc101) (by decide) (q_move rfl) (fun a S => ?_)
     obtain ⟨t102, e103, hm⟩ := bind_some hm
     refine lx_cut 8 (fun a w => Slots a 32 [(0, p0), (1, (.int .i64 a1)), (7, p0), (8, (.int .i64 (a0.length : Int))), (9, (.int .i64 x55)), (18, (.bool (!x96))), (29, (.bool t102))] ∧ Heap w0 [] w) ?_ ?_
     ·by_cases hc104 : (decide ((0 : Int) < x55)) = true
      ·have hm := ite_t hc104 e103
       refine lx_q (.int .i64 x89) S (want_b rfl rfl hc104) (by decide) (q_move rfl) (fun a S => ?_)
       refine lx_q p0 S (want_b rfl rfl hc104) (by decide) (q_move rfl) (fun a S => ?_)
       refine lx_q (.int .i64 x55) S (want_b rfl rfl hc104) (by decide) (q_move rfl) (fun a S => ?_)
       refine lx_q (.int .i64 (W (x55 - (1 : Int)))) S (want_b rfl rfl hc104) (by decide) (q_sub rfl rfl) (fun a S => ?_)
       obtain ⟨x105, e106, hm⟩ := bind_some hm
       obtain ⟨c107, h108, hat109⟩ := (h0).elem (idx_some e106).2
       obtain rfl := h108
       have hlt := lt_of_idx (idx_some e106).2
       refine lx_q (ePtr p0 ((W (x55 - (1 : Int))).toNat * 1)) S (want_b rfl rfl hc104) (by decide) (q_indexAddr rfl (h0).isSl rfl (idx_some e106).1 hlt Try.underlying32 Try.sizeOf2) (fun a S => ?_)
       refine lx_e (.int .i64 x105) S (want_b rfl rfl hc104) (by decide) rfl trivial (q_load1 rfl Try.isAgg2 (by rintro _ rfl; exact ((hat109 0 _ rfl).ext H.ext))) (fun a S => ?_)
       refine lx_q (.bool (decide (x89 ≤ x105))) S (want_b rfl rfl hc104) (by decide) (q_leq rfl rfl) (fun a S => ?_)
       refine lx_q (.bool (decide (x89 ≤ x105))) S (want_b rfl rfl hc101) (by decide) (q_pickT' rfl hc104 rfl) (fun a S => ?_)
       refine lx_nil ?_
       obtain rfl := Option.some.inj hm
       exact ⟨S.sub ⟨rfl, rfl, rfl, rfl, rfl, rfl, rfl, trivial⟩, H⟩
      ·have hm := ite_f (eq_false_of_ne_true hc104) e103
       have hc104 : (decide ((0 : Int) < x55)) = false := eq_false_of_ne_true hc104
       refine lx_skip S rfl rfl (isB_ne hc104) (by decide) (fun a S => ?_)
       refine lx_skip S rfl rfl (isB_ne hc104) (by decide) (fun a S => ?_)
       refine lx_skip S rfl rfl (isB_ne hc104) (by decide) (fun a S => ?_)
       refine lx_skip S rfl rfl (isB_ne hc104) (by decide) (fun a S => ?_)
       refine lx_skip S rfl rfl (isB_ne hc104) (by decide) (fun a S => ?_)
       refine lx_skip S rfl rfl (isB_ne hc104) (by decide) (fun a S => ?_)
       refine lx_skip S rfl rfl (isB_ne hc104) (by decide) (fun a S => ?_)
       refine lx_q (.bool false) S (want_b rfl rfl hc101) (by decide) (q_pickF' rfl hc104 rfl) (fun a S => ?_)
       refine lx_nil ?_
       obtain rfl := Option.some.inj hm
       exact ⟨S.sub ⟨rfl, rfl, rfl, rfl, rfl, rfl, rfl, trivial⟩, H⟩
     ·rintro a w ⟨S, H⟩
      refine lq (.bool t102) S (q_pickF' rfl hc101 rfl) fun a S => ?_
      refine lx_nil ?_
      obtain rfl := Option.some.inj hm
      exact ⟨S.sub ⟨rfl, rfl, rfl, rfl, rfl, rfl, trivial⟩, H⟩
   ·rintro a w ⟨S, H⟩
    refine lx_nil (thenN ?_)
    refine cond_b S rfl (fun hc110 => ?_) (fun hc110 => ?_)
    ·have hm := ite_t hc110 hm
     refine wp_seq (region_plain ?_)
     refine lq (.bool false) S (q_assign rfl) fun a S => ?_
     refine lx_nil (thenN ?_)
     refine wp_ret (inBlock_ret ?_)
     refine then_ret ?_
     refine then_ret ?_
     refine inBlock_ret ?_
     refine then_ret ?_
     refine then_ret ?_
     obtain rfl := it_brk hm hc87
     have hm := ctl_inr hk84
     obtain rfl := Option.some.inj hm
     exact leave1 S rfl rfl ⟨rfl, H⟩
    ·have hm := ite_f hc110 hm
     refine wp_skip ?_
     refine inBlock_norm ?_
     refine thenN ?_
     refine region_plain ?_
     refine lq (.int .i64 (W (x55 + (1 : Int)))) S (q_add rfl rfl) fun a S => ?_
     refine lq (.int .i64 (W (x55 + (1 : Int)))) S (q_move rfl) fun a S => ?_
     refine lx_nil ?_
     exact ⟨m85, Nat.lt_succ_self _, (W (x55 + (1 : Int))), S.sub ⟨rfl, rfl, rfl, rfl, rfl, trivial⟩, H, it_cont hm hc87⟩
  ·have hm := ite_f hc88 hm
   refine wp_exit ?_
   refine then_exit ?_
   refine then_exit ?_
   refine inBlock_exit ?_
   obtain rfl := it_brk hm hc87
   exact ⟨S.sub trivial, H, rfl⟩

/-- impl.ValidGame$1 -/
def impl_ValidGame_1_m (fuel : Nat) (a0 : Timpl_Vertex) (a1 : (List Timpl_Vertex)) : Option (Bool) :=
  (impl_within_m fuel a0.1 (0 : Int) (1 : Int)).bind fun x53 => (if (!x53) = true then some true else (impl_within_m fuel a0.2.1 (0 : Int) (9 : Int)).bind fun x61 => some (!x61)).bind fun t56 => (if t56 = true then some true else (impl_increasing_m fuel a0.2.2 (a1.length : Int)).bind fun x69 => some (!x69)).bind fun t64 => some (t64)
set_option maxRecDepth 20000 in
theorem impl_ValidGame_1_ok [dr : Dr] {w0 : World} {fuel : Nat} {p0 p1 : Value} {a0 : Timpl_Vertex} {a1 : (List Timpl_Vertex)} {r : Bool} (h0 : Rd Rimpl_Vertex w0 p0 a0) (h1 : Rd (rPtr (rList Rimpl_Vertex)) w0 p1 a1) (hm : impl_ValidGame_1_m fuel a0 a1 = some r) :
  Calls Try.prog 27 #[p0, p1] w0 fun e w => e = .returned (.bool r) ∧ Heap w0 [] w := by
 unfold impl_ValidGame_1_m at hm
 have H := Heap.start w0
 obtain ⟨c31, rfl, h32⟩ := h0
 obtain ⟨c35, c36, rfl, h37, h38⟩ := h32
 obtain rfl := h37
 obtain ⟨c39, c40, rfl, h41, h42⟩ := h38
 obtain rfl := h41
 obtain ⟨v33, rfl, h34⟩ := rd_list h42
 obtain ⟨c43, h44, hat45⟩ := h1.ptr
 obtain ⟨v46, rfl, h47⟩ := rd_list h44
 refine enter (args := [(.agg #[(.int .i64 a0.1), (.int .i64 a0.2.1), v33]), p1]) Try.func27 rfl 22 rfl (Nat.le_of_ble_eq_true rfl) (fun a S => ?_)
 refine wp_seq (region_plain ?_)
 refine lx_box S trivial (by decide) rfl H rfl rfl (fun b48 w49 H => ⟨trivial, fun a S => ?_⟩)
 refine lq (.bool false) S (q_assign rfl) fun a S => ?_
 refine lx_nil (thenN ?_)
 refine wp_seq (region_plain ?_)
 refine lq (pAdd (bp b48) 0) S (q_fieldAddr' 0 2 rfl (isP_bp _) Try.underlying37 rfl Try.sizeOf2) fun a S => ?_
 refine lx_e (.int .i64 a0.1) S trivial (by decide) rfl trivial (q_load1 rfl Try.isAgg2 (by rintro _ rfl; exact (At.of_add (m := 0) (j := 0) (boxAt (i := 0) H rfl (j := 0) rfl)))) (fun a S => ?_)
 obtain ⟨x53, e54, hm⟩ := bind_some hm
 refine lx_call (xs := [.tmp 5, .const (.int .i64 (0)), .const (.int .i64 (1))]) S trivial (by decide) rfl rfl Try.call25 ((impl_within_ok    e54).mono ?_)
 rintro e w51 ⟨rfl, Hc52⟩
 have H := H.call0 Hc52
 refine ⟨_, rfl, trivial, fun a S => ?_⟩
 refine lq (.bool (!x53)) S (q_not rfl) fun a S => ?_
 refine lq (.bool (!x53)) S (q_move rfl) fun a S => ?_
 obtain ⟨t56, e57, hm⟩ := bind_some hm
 refine lx_cut 5 (fun a w => Slots a 22 [(1, p1), (2, (bp b48)), (13, (.bool t56))] ∧ Heap w0 [bA b48 [(.int .i64 a0.1), (.int .i64 a0.2.1), v33] 37] w) ?_ ?_
 ·by_cases hc58 : (!x53) = true
  ·have hm := ite_t hc58 e57
   refine lx_skip S rfl rfl (isB_ne hc58) (by decide) (fun a S => ?_)
   refine lx_skip S rfl rfl (isB_ne hc58) (by decide) (fun a S => ?_)
   refine lx_skip S rfl rfl (isB_ne hc58) (by decide) (fun a S => ?_)
   refine lx_skip S rfl rfl (isB_ne hc58) (by decide) (fun a S => ?_)
   refine lq (.bool true) S (q_pickT' rfl hc58 rfl) fun a S => ?_
   refine lx_nil ?_
   obtain rfl := Option.some.inj hm
   exact ⟨S.sub ⟨rfl, rfl, rfl, trivial⟩, H⟩
  ·have hm := ite_f (eq_false_of_ne_true hc58) e57
   have hc58 : (!x53) = false := eq_false_of_ne_true hc58
   refine lx_q (pAdd (bp b48) 1) S (want_b rfl rfl hc58) (by decide) (q_fieldAddr' 1 2 rfl (isP_bp _) Try.underlying37 rfl Try.sizeOf2) (fun a S => ?_)
   refine lx_e (.int .i64 a0.2.1) S (want_b rfl rfl hc58) (by decide) rfl trivial (q_load1 rfl Try.isAgg2 (by rintro _ rfl; exact (At.of_add (m := 1) (j := 0) (boxAt (i := 0) H rfl (j := 1) rfl)))) (fun a S => ?_)
   obtain ⟨x61, e62, hm⟩ := bind_some hm
   refine lx_call (xs := [.tmp 10, .const (.int .i64 (0)), .const (.int .i64 (9))]) S (want_b rfl rfl hc58) (by decide) rfl rfl Try.call25 ((impl_within_ok    e62).mono ?_)
   rintro e w59 ⟨rfl, Hc60⟩
   have H := H.call0 Hc60
   refine ⟨_, rfl, trivial, fun a S => ?_⟩
   refine lx_q (.bool (!x61)) S (want_b rfl rfl hc58) (by decide) (q_not rfl) (fun a S => ?_)
   refine lq (.bool (!x61)) S (q_pickF' rfl hc58 rfl) fun a S => ?_
   refine lx_nil ?_
   obtain rfl := Option.some.inj hm
   exact ⟨S.sub ⟨rfl, rfl, rfl, trivial⟩, H⟩
 ·rintro a w ⟨S, H⟩
  refine lq (.bool t56) S (q_move rfl) fun a S => ?_
  obtain ⟨t64, e65, hm⟩ := bind_some hm
  refine lx_cut 7 (fun a w => Slots a 22 [(21, (.bool t64))] ∧ Heap w0 [] w) ?_ ?_
  ·by_cases hc66 : t56 = true
   ·have hm := ite_t hc66 e65
    refine lx_skip S rfl rfl (isB_ne hc66) (by decide) (fun a S => ?_)
    refine lx_skip S rfl rfl (isB_ne hc66) (by decide) (fun a S => ?_)
    refine lx_skip S rfl rfl (isB_ne hc66) (by decide) (fun a S => ?_)
    refine lx_skip S rfl rfl (isB_ne hc66) (by decide) (fun a S => ?_)
    refine lx_skip S rfl rfl (isB_ne hc66) (by decide) (fun a S => ?_)
    refine lx_skip S rfl rfl (isB_ne hc66) (by decide) (fun a S => ?_)
    refine lq (.bool true) S (q_pickT' rfl hc66 rfl) fun a S => ?_
    refine lx_nil ?_
    obtain rfl := Option.some.inj hm
    have H := H.sel [] (by decide)
    exact ⟨S.sub ⟨rfl, trivial⟩, H⟩
   ·have hm := ite_f (eq_false_of_ne_true hc66) e65
    have hc66 : t56 = false := eq_false_of_ne_true hc66
    refine lx_q (pAdd (bp b48) 2) S (want_b rfl rfl hc66) (by decide) (q_fieldAddr' 2 32 rfl (isP_bp _) Try.underlying37 rfl Try.sizeOf32) (fun a S => ?_)
    refine lx_e v33 S (want_b rfl rfl hc66) (by decide) rfl trivial (q_load1 rfl Try.isAgg32 (by rintro _ rfl; exact (At.of_add (m := 2) (j := 0) (boxAt (i := 0) H rfl (j := 2) rfl)))) (fun a S => ?_)
    refine lx_e v46 S (want_b rfl rfl hc66) (by decide) rfl trivial (q_load1 rfl Try.isAgg24 (by rintro _ rfl; exact ((hat45 0 _ rfl).ext H.ext))) (fun a S => ?_)
    refine lx_q (.int .i64 (a1.length : Int)) S (want_b rfl rfl hc66) (by decide) (q_lenSl rfl (h47).isSl rfl Try.underlying24) (fun a S => ?_)
    obtain ⟨x69, e70, hm⟩ := bind_some hm
    refine lx_call (xs := [.tmp 16, .tmp 18]) S (want_b rfl rfl hc66) (by decide) rfl rfl Try.call28 ((impl_increasing_ok (H.arg h34)  e70).mono ?_)
    rintro e w67 ⟨rfl, Hc68⟩
    have H := H.call0 Hc68
    refine ⟨_, rfl, trivial, fun a S => ?_⟩
    refine lx_q (.bool (!x69)) S (want_b rfl rfl hc66) (by decide) (q_not rfl) (fun a S => ?_)
    refine lq (.bool (!x69)) S (q_pickF' rfl hc66 rfl) fun a S => ?_
    refine lx_nil ?_
    obtain rfl := Option.some.inj hm
    have H := H.sel [] (by decide)
    exact ⟨S.sub ⟨rfl, trivial⟩, H⟩
  ·rintro a w ⟨S, H⟩
   refine lq (.bool t64) S (q_assign rfl) fun a S => ?_
   refine lx_nil (thenN ?_)
   refine wp_ret ?_
   obtain rfl := Option.some.inj hm
   exact leave1 S rfl rfl ⟨rfl, H⟩

/-- slices.IndexFunc[[]impl.Vertex,impl.Vertex] -/
def slices_IndexFunc__impl_Vertex_impl_Vertex_m (fuel : Nat) (a0 : (List Timpl_Vertex)) (a1 : (Timpl_Vertex → Option Bool)) : Option (Int) :=
  (iter (fun (s : (Int)) => (match s with | (x56) => (if (decide (x56 < (a0.length : Int))) = true then (idx a0 x56).bind fun x91 => (a1 (x91.1, x91.2.1, x91.2.2)).bind fun x110 => (if x110 = true then some (.inr (.inr x56)) else some (.inl ((W (x56 + (1 : Int)))))) else some (.inr (.inl ()))) : Option (((Int)) ⊕ ((Unit) ⊕ (Int))))) fuel ((0 : Int))).bind fun res82 => ctl (β := Unit) (ρ := Int) (τ := Int) res82 (fun _ => some ((-1 : Int))) (fun q => some (q))
set_option maxRecDepth 20000 in
theorem slices_IndexFunc__impl_Vertex_impl_Vertex_ok [dr : Dr] {w0 : World} {fuel : Nat} {p0 : Value} {a0 : (List Timpl_Vertex)} {a1 : (Timpl_Vertex → Option Bool)} {f1 : Nat} {fs1 cp1 : List Value} {r : Int} (h0 : Rd (rList Rimpl_Vertex) w0 p0 a0) (hcf1 : ∀ args w, (callFunc f1 args).run Try.prog w = .ok (.enter f1 args) w) (hf1 : ∀ {w : World} {x0_ : Timpl_Vertex} {v0_ : Value} {y : Bool}, Ext w0 w → Rd Rimpl_Vertex w v0_ x0_ → a1 x0_ = some y → Calls Try.prog f1 (fs1 ++ ([v0_] : List Value) ++ cp1).toArray w fun e w' => e = .returned (.bool y) ∧ Heap w [] w') (hm : slices_IndexFunc__impl_Vertex_impl_Vertex_m fuel a0 a1 = some r) :
  Calls Try.prog 32 #[p0, .func (.func f1) fs1.toArray cp1.toArray] w0 fun e w => e = .returned (.int .i64 r) ∧ Heap w0 [] w := by
 unfold slices_IndexFunc__impl_Vertex_impl_Vertex_m at hm
 have H := Heap.start w0
 refine enter (args := [p0, .func (.func f1) fs1.toArray cp1.toArray]) Try.func32 rfl 19 rfl (Nat.le_of_ble_eq_true rfl) (fun a S => ?_)
 refine wp_seq (region_plain ?_)
 refine lq (.int .i64 (0 : Int)) S (q_assign rfl) fun a S => ?_
 refine lx_nil (thenN ?_)
 refine wp_seq (wp_seq (region_plain ?_))
 refine lq p0 S (q_move rfl) fun a S => ?_
 refine lq (.int .i64 (a0.length : Int)) S (q_lenSl rfl (h0).isSl rfl Try.underlying24) fun a S => ?_
 refine lq (.int .i64 (0 : Int)) S (q_move rfl) fun a S => ?_
 refine lx_nil (thenN ?_)
 obtain ⟨res82, hit83, hk86⟩ := bind_some hm
 obtain ⟨f84, hf85, hit83⟩ := iter_name hit83
 refine block_loop (fun a w => Slots a 19 [] ∧ Heap w0 [] w ∧ res82 = .inl ()) ?_ ?_
 ·rintro a w ⟨S, H, rfl⟩
  have hm := ctl_inl hk86
  refine thenN ?_
  refine wp_seq (region_plain ?_)
  refine lq (.int .i64 (-1 : Int)) S (q_assign rfl) fun a S => ?_
  refine lx_nil (thenN ?_)
  refine wp_ret ?_
  obtain rfl := Option.some.inj hm
  exact leave1 S rfl rfl ⟨rfl, H⟩
 ·skip
  refine loop_ghost (fun n a w => ∃ (x56 : Int), Slots a 19 [(0, p0), (1, (.func (.func f1) fs1.toArray cp1.toArray)), (7, (.int .i64 (a0.length : Int))), (8, (.int .i64 x56))] ∧ Heap w0 [] w ∧ iter f84 n (x56) = some res82) _ ⟨(0 : Int), S.sub ⟨rfl, rfl, rfl, rfl, trivial⟩, H, hit83⟩ ?_
  rintro n a w ⟨x56, S, H, hit83⟩
  obtain ⟨m87, o88, rfl, hm, hc89⟩ := iter_step hit83
  rw [hf85] at hm
  refine wp_seq (region_plain ?_)
  refine lq (.bool (decide (x56 < (a0.length : Int)))) S (q_lss rfl rfl) fun a S => ?_
  refine lx_nil (thenN ?_)
  refine wp_seq ?_
  refine cond_b S rfl (fun hc90 => ?_) (fun hc90 => ?_)
  ·have hm := ite_t hc90 hm
   refine wp_skip (thenN ?_)
   refine wp_seq ?_
   refine wp_block ?_
   refine wp_seq (region_plain ?_)
   refine lq (.int .i64 x56) S (q_move rfl) fun a S => ?_
   refine lq (.int .i64 x56) S (q_assign rfl) fun a S => ?_
   refine lx_nil (thenN ?_)
   refine wp_seq (region_plain ?_)
   refine lq (.func (.func f1) fs1.toArray cp1.toArray) S (q_move rfl) fun a S => ?_
   refine lq p0 S (q_move rfl) fun a S => ?_
   refine lq (.int .i64 x56) S (q_move rfl) fun a S => ?_
   obtain ⟨x91, e92, hm⟩ := bind_some hm
   obtain ⟨c93, h94, hat95⟩ := (h0).elem (idx_some e92).2
   obtain ⟨c98, c99, rfl, h100, h101⟩ := h94
   obtain rfl := h100
   obtain ⟨c102, c103, rfl, h104, h105⟩ := h101
   obtain rfl := h104
   obtain ⟨v96, rfl, h97⟩ := rd_list h105
   have hlt := lt_of_idx (idx_some e92).2
   refine lq (ePtr p0 (x56.toNat * 3)) S (q_indexAddr rfl (h0).isSl rfl (idx_some e92).1 hlt Try.underlying24 Try.sizeOf37) fun a S => ?_
   refine lx_e (.agg #[(.int .i64 x91.1), (.int .i64 x91.2.1), v96]) S trivial (by decide) rfl trivial (q_loadA (cs := [(.int .i64 x91.1), (.int .i64 x91.2.1), v96]) rfl ((hat95 0 _ rfl).isP) Try.isAgg37 Try.sizeOf37 (by rintro _ rfl; exact (fun j u hu => (hat95 j u hu).ext H.ext))) (fun a S => ?_)
   obtain ⟨x110, e111, hm⟩ := bind_some hm
   refine lx_callV (f := f1) (first := fs1) (cap := cp1) (xs := [.tmp 15]) S trivial (by decide) rfl rfl rfl hcf1 ((hf1 H.ext ⟨[(.int .i64 x91.1), (.int .i64 x91.2.1), v96], rfl, ⟨[(.int .i64 x91.1)], [(.int .i64 x91.2.1), v96], rfl, rfl, ⟨[(.int .i64 x91.2.1)], [v96], rfl, rfl, ((H.arg h97)).list_rd⟩⟩⟩ e111).mono ?_)
   rintro e w108 ⟨rfl, Hc109⟩
   have H := H.call0 Hc109
   refine ⟨_, rfl, trivial, fun a S => ?_⟩
   refine lx_nil (thenN ?_)
   refine cond_b S rfl (fun hc113 => ?_) (fun hc113 => ?_)
   ·have hm := ite_t hc113 hm
    refine wp_seq (region_plain ?_)
    refine lq (.int .i64 x56) S (q_move rfl) fun a S => ?_
    refine lq (.int .i64 x56) S (q_assign rfl) fun a S => ?_
    refine lx_nil (thenN ?_)
    refine wp_ret (inBlock_ret ?_)
    refine then_ret ?_
    refine then_ret ?_
    refine inBlock_ret ?_
    refine then_ret ?_
    refine then_ret ?_
    obtain rfl := it_brk hm hc89
    have hm := ctl_inr hk86
    obtain rfl := Option.some.inj hm
    exact leave1 S rfl rfl ⟨rfl, H⟩
   ·have hm := ite_f hc113 hm
    refine wp_skip ?_
    refine inBlock_norm ?_
    refine thenN ?_
    refine region_plain ?_
    refine lq (.int .i64 (W (x56 + (1 : Int)))) S (q_add rfl rfl) fun a S => ?_
    refine lq (.int .i64 (W (x56 + (1 : Int)))) S (q_move rfl) fun a S => ?_
    refine lx_nil ?_
    exact ⟨m87, Nat.lt_succ_self _, (W (x56 + (1 : Int))), S.sub ⟨rfl, rfl, rfl, rfl, trivial⟩, H, it_cont hm hc89⟩
  ·have hm := ite_f hc90 hm
   refine wp_exit ?_
   refine then_exit ?_
   refine then_exit ?_
   refine inBlock_exit ?_
   obtain rfl := it_brk hm hc89
   exact ⟨S.sub trivial, H, rfl⟩
end Go.Proofs.Ytcaedcalbjkkgaa
