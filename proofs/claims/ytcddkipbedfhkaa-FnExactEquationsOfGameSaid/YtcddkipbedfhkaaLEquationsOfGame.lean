/- The model of a statement and its walk (printed by a program of this repo). -/
import Derived.Test.YtcddkipbedfhkaaF0
import Derived.Test.YtcddkipbedfhkaaF1
import Derived.Test.YtcddkipbedfhkaaF2
import Derived.Test.YtcddkipbedfhkaaF3
import Derived.Test.YtcddkipbedfhkaaF6
import Derived.Test.YtcddkipbedfhkaaFS
import Derived.Test.YtcddkipbedfhkaaGxT
import Derived.Test.YtcddkipbedfhkaaGxY
namespace Go.Proofs.Ytcddkipbedfhkaa
open Go.RowKit Go.Gx

/-- impl.EquationsOfGame -/
def impl_EquationsOfGame_m (fuel : Nat) (a0 : (List Timpl_Vertex)) : Option (((List Timpl_Equation) × (List Int) × Int)) :=
  (impl_ValidGame_m fuel a0).bind fun x36 => (if (!x36) = true then some (([], [], (1 : Int))) else (impl_upTo_m fuel (a0.length : Int)).bind fun x44 => (slices_SortFunc__int64_int64_m fuel x44 (fun (z0 : Int) (z1 : Int) => impl_EquationsOfGame_1_m fuel z0 z1 a0)).bind fun x51 => (iter (fun (s : (List Timpl_Equation) × (Int)) => (match s with | (xs127, x129) => (if (decide (x129 < (x51.length : Int))) = true then (idx x51 x129).bind fun x223 => (idx a0 x223).bind fun x230 => (idx a0 x223).bind fun x245 => (idx a0 x223).bind fun x260 => (impl_placesIn_m fuel x51 x260.2.2).bind fun x277 => (app xs127 [(((x230.2.1.tmod (2 : Int)) == (0 : Int)), (x245.1 == (1 : Int)), x277)]).bind fun x285 => some (.inl (x285, (W (x129 + (1 : Int))))) else some (.inr (.inl (xs127)))) : Option (((List Timpl_Equation) × (Int)) ⊕ (((List Timpl_Equation)) ⊕ (((List Timpl_Equation) × (List Int) × Int)))))) fuel ([], (0 : Int))).bind fun res205 => ctl (β := (List Timpl_Equation)) (ρ := ((List Timpl_Equation) × (List Int) × Int)) (τ := ((List Timpl_Equation) × (List Int) × Int)) res205 (fun (xs203) => (impl_blocksFit_m fuel xs203).bind fun x212 => (if (!x212) = true then some (([], [], (5 : Int))) else some ((xs203, x51, (0 : Int))))) (fun q => some (q)))
set_option maxRecDepth 20000 in
theorem impl_EquationsOfGame_ok [dr : Dr] {w0 : World} {fuel : Nat} {p0 : Value} {a0 : (List Timpl_Vertex)} {r : ((List Timpl_Equation) × (List Int) × Int)} (h0 : Rd (rList Rimpl_Vertex) w0 p0 a0) (hm : impl_EquationsOfGame_m fuel a0 = some r) :
  Calls Try.prog 20 #[p0] w0 fun e w => ∃ (v0 : Value) (v1 : Value), e = .returned (.tuple #[v0, v1, .int .i64 r.2.2]) ∧ Heap w0 [oA (rList Rimpl_Equation) v0 r.1, oA (rList (rInt .i64)) v1 r.2.1] w := by
 unfold impl_EquationsOfGame_m at hm
 have H := Heap.start w0
 refine enter (args := [p0]) Try.func20 rfl 54 rfl (Nat.le_of_ble_eq_true rfl) (fun a S => ?_)
 refine wp_seq (region_plain ?_)
 refine lx_box S trivial (by decide) rfl H rfl (cells_sl (h0).isSl) (fun b31 w32 H => ⟨trivial, fun a S => ?_⟩)
 refine lq (.slice none 0 0) S (q_assign rfl) fun a S => ?_
 refine lq (.slice none 0 0) S (q_assign rfl) fun a S => ?_
 refine lq (.int .i64 (0 : Int)) S (q_assign rfl) fun a S => ?_
 refine lx_nil (thenN ?_)
 refine wp_seq (wp_seq (region_plain ?_))
 refine lx_e p0 S trivial (by decide) rfl trivial (q_load1 rfl Try.isAgg27 (by rintro _ rfl; exact (boxAt (i := 0) H rfl (j := 0) rfl))) (fun a S => ?_)
 obtain ⟨x36, e37, hm⟩ := bind_some hm
 refine lx_call (xs := [.tmp 9]) S trivial (by decide) rfl rfl Try.call35 ((impl_ValidGame_ok (H.arg h0) e37).mono ?_)
 rintro e w34 ⟨rfl, Hc35⟩
 have H := H.call0 Hc35
 refine ⟨_, rfl, trivial, fun a S => ?_⟩
 refine lq (.bool (!x36)) S (q_not rfl) fun a S => ?_
 refine lx_nil (thenN ?_)
 refine cond_b S rfl (fun hc39 => ?_) (fun hc39 => ?_)
 ·have hm := ite_t hc39 hm
  refine wp_seq (region_plain ?_)
  refine lq (.slice none 0 0) S (q_assign rfl) fun a S => ?_
  refine lq (.slice none 0 0) S (q_assign rfl) fun a S => ?_
  refine lq (.int .i64 (1 : Int)) S (q_assign rfl) fun a S => ?_
  refine lx_nil (thenN ?_)
  refine wp_ret (then_ret ?_)
  obtain rfl := Option.some.inj hm
  have H : Heap w0 [oA (rList Rimpl_Equation) (.slice none 0 0) ([] : List Timpl_Equation), bA b31 [p0] 27] w34 := H.nilList Rimpl_Equation
  have H : Heap w0 [oA (rList (rInt .i64)) (.slice none 0 0) ([] : List Int), oA (rList Rimpl_Equation) (.slice none 0 0) ([] : List Timpl_Equation), bA b31 [p0] 27] w34 := H.nilList (rInt .i64)
  have H : Heap w0 [oA (rList Rimpl_Equation) (.slice none 0 0) ([] : List Timpl_Equation), oA (rList (rInt .i64)) (.slice none 0 0) ([] : List Int), bA b31 [p0] 27] w34 := H.front 1 rfl
  have H : Heap w0 [oA (rList Rimpl_Equation) (.slice none 0 0) ([] : List Timpl_Equation), oA (rList (rInt .i64)) (.slice none 0 0) ([] : List Int)] w34 := H.sel [0, 1] (by decide)
  exact leave3 S rfl rfl rfl rfl ⟨(.slice none 0 0), (.slice none 0 0), rfl, H⟩
 ·have hm := ite_f hc39 hm
  refine wp_skip (thenN ?_)
  refine wp_seq (region_plain ?_)
  refine lx_e p0 S trivial (by decide) rfl trivial (q_load1 rfl Try.isAgg27 (by rintro _ rfl; exact (boxAt (i := 0) H rfl (j := 0) rfl))) (fun a S => ?_)
  refine lq (.int .i64 (a0.length : Int)) S (q_lenSl rfl (h0).isSl rfl Try.underlying27) fun a S => ?_
  obtain ⟨x44, e45, hm⟩ := bind_some hm
  refine lx_call (xs := [.tmp 13]) S trivial (by decide) rfl rfl Try.call52 ((impl_upTo_ok  e45).mono ?_)
  rintro e w42 ⟨v46, rfl, Hc43⟩
  have H := H.call1 Hc43
  refine ⟨_, rfl, trivial, fun a S => ?_⟩
  refine lq v46 S (q_assign rfl) fun a S => ?_
  refine lx_nil (thenN ?_)
  refine wp_seq (region_plain ?_)
  refine lq v46 S (q_move rfl) fun a S => ?_
  refine lq (.func (.func 54) #[] #[(bp b31)]) S (q_makeFunc (xs := []) (ys := [.tmp 1]) rfl rfl) fun a S => ?_
  obtain ⟨x51, e52, hm⟩ := bind_some hm
  refine lx_call (xs := [.tmp 15, .tmp 16]) S trivial (by decide) rfl rfl Try.call53 ((slices_SortFunc__int64_int64_ok (f1 := 54) (fs1 := ([] : List Value)) (cp1 := ([(bp b31)] : List Value)) (a1 := (fun (z0 : Int) (z1 : Int) => impl_EquationsOfGame_1_m fuel z0 z1 a0)) H Try.call54 (fun H  hm => gr_on (impl_EquationsOfGame_1_ok (dr := drOn)  (rdPtr_box H 0 rfl ((H.arg h0)).list_rd) hm)) e52).mono ?_)
  rintro e w49 ⟨rfl, H⟩
  refine ⟨_, rfl, trivial, fun a S => ?_⟩
  refine lx_nil (thenN ?_)
  refine wp_seq (region_plain ?_)
  refine lq (.slice none 0 0) S (q_assign rfl) fun a S => ?_
  refine lx_nil (thenN ?_)
  refine wp_seq (wp_seq (region_plain ?_))
  refine lq v46 S (q_move rfl) fun a S => ?_
  refine lq (.int .i64 (x51.length : Int)) S (q_lenSl rfl (H.isSl 0 rfl) rfl Try.underlying38) fun a S => ?_
  refine lq (.int .i64 (0 : Int)) S (q_move rfl) fun a S => ?_
  refine lx_nil (thenN ?_)
  obtain ⟨res205, hit206, hk209⟩ := bind_some hm
  obtain ⟨f207, hf208, hit206⟩ := iter_name hit206
  refine block_loop (fun a w => ∃ (xs203 : List Timpl_Equation) (v202 : Value), Slots a 54 [(5, v46), (6, v202)] ∧ Heap w0 [oA (rList (rInt .i64)) v46 x51, oA (rList Rimpl_Equation) v202 xs203] w ∧ res205 = .inl (xs203)) ?_ ?_
  ·rintro a w ⟨xs203, v202, S, H, rfl⟩
   have hm := ctl_inl hk209
   refine thenN ?_
   refine wp_seq (wp_seq (region_plain ?_))
   refine lq v202 S (q_move rfl) fun a S => ?_
   obtain ⟨x212, e213, hm⟩ := bind_some hm
   refine lx_call (xs := [.tmp 49]) S trivial (by decide) rfl rfl Try.call58 ((impl_blocksFit_ok (H.rdAt 1 rfl) e213).mono ?_)
   rintro e w210 ⟨rfl, Hc211⟩
   have H := H.call0 Hc211
   refine ⟨_, rfl, trivial, fun a S => ?_⟩
   refine lq (.bool (!x212)) S (q_not rfl) fun a S => ?_
   refine lx_nil (thenN ?_)
   refine cond_b S rfl (fun hc215 => ?_) (fun hc215 => ?_)
   ·have hm := ite_t hc215 hm
    refine wp_seq (region_plain ?_)
    refine lq (.slice none 0 0) S (q_assign rfl) fun a S => ?_
    refine lq (.slice none 0 0) S (q_assign rfl) fun a S => ?_
    refine lq (.int .i64 (5 : Int)) S (q_assign rfl) fun a S => ?_
    refine lx_nil (thenN ?_)
    refine wp_ret (then_ret ?_)
    obtain rfl := Option.some.inj hm
    have H : Heap w0 [oA (rList Rimpl_Equation) (.slice none 0 0) ([] : List Timpl_Equation), oA (rList (rInt .i64)) v46 x51, oA (rList Rimpl_Equation) v202 xs203] w210 := H.nilList Rimpl_Equation
    have H : Heap w0 [oA (rList (rInt .i64)) (.slice none 0 0) ([] : List Int), oA (rList Rimpl_Equation) (.slice none 0 0) ([] : List Timpl_Equation), oA (rList (rInt .i64)) v46 x51, oA (rList Rimpl_Equation) v202 xs203] w210 := H.nilList (rInt .i64)
    have H : Heap w0 [oA (rList Rimpl_Equation) (.slice none 0 0) ([] : List Timpl_Equation), oA (rList (rInt .i64)) (.slice none 0 0) ([] : List Int), oA (rList (rInt .i64)) v46 x51, oA (rList Rimpl_Equation) v202 xs203] w210 := H.front 1 rfl
    have H : Heap w0 [oA (rList Rimpl_Equation) (.slice none 0 0) ([] : List Timpl_Equation), oA (rList (rInt .i64)) (.slice none 0 0) ([] : List Int)] w210 := H.sel [0, 1] (by decide)
    exact leave3 S rfl rfl rfl rfl ⟨(.slice none 0 0), (.slice none 0 0), rfl, H⟩
   ·have hm := ite_f hc215 hm
    refine wp_skip (thenN ?_)
    refine wp_seq (region_plain ?_)
    refine lq v202 S (q_move rfl) fun a S => ?_
    refine lq v46 S (q_move rfl) fun a S => ?_
    refine lq v202 S (q_assign rfl) fun a S => ?_
    refine lq v46 S (q_assign rfl) fun a S => ?_
    refine lq (.int .i64 (0 : Int)) S (q_assign rfl) fun a S => ?_
    refine lx_nil (thenN ?_)
    refine wp_ret ?_
    obtain rfl := Option.some.inj hm
    have H : Heap w0 [oA (rList Rimpl_Equation) v202 xs203, oA (rList (rInt .i64)) v46 x51] w210 := H.front 1 rfl
    exact leave3 S rfl rfl rfl rfl ⟨v202, v46, rfl, H⟩
  ·skip
   have H : Heap w0 [oA (rList Rimpl_Equation) (.slice none 0 0) ([] : List Timpl_Equation), oA (rList (rInt .i64)) v46 x51, bA b31 [p0] 27] w49 := H.nilList Rimpl_Equation
   have H : Heap w0 [oA (rList (rInt .i64)) v46 x51, oA (rList Rimpl_Equation) (.slice none 0 0) ([] : List Timpl_Equation), bA b31 [p0] 27] w49 := H.front 1 rfl
   have H : Heap w0 [bA b31 [p0] 27, oA (rList (rInt .i64)) v46 x51, oA (rList Rimpl_Equation) (.slice none 0 0) ([] : List Timpl_Equation)] w49 := H.front 2 rfl
   refine loop_ghost (fun n a w => ∃ (xs127 : List Timpl_Equation) (x129 : Int) (v126 : Value), Slots a 54 [(1, (bp b31)), (5, v46), (6, v126), (18, v46), (19, (.int .i64 (x51.length : Int))), (20, (.int .i64 x129))] ∧ Heap w0 [bA b31 [p0] 27, oA (rList (rInt .i64)) v46 x51, oA (rList Rimpl_Equation) v126 xs127] w ∧ iter f207 n (xs127, x129) = some res205) _ ⟨[], (0 : Int), (.slice none 0 0), S.sub ⟨rfl, rfl, rfl, rfl, rfl, rfl, trivial⟩, H, hit206⟩ ?_
   rintro n a w ⟨xs127, x129, v126, S, H, hit206⟩
   obtain ⟨m219, o220, rfl, hm, hc221⟩ := iter_step hit206
   rw [hf208] at hm
   refine wp_seq (region_plain ?_)
   refine lq (.bool (decide (x129 < (x51.length : Int)))) S (q_lss rfl rfl) fun a S => ?_
   refine lx_nil (thenN ?_)
   refine wp_seq ?_
   refine cond_b S rfl (fun hc222 => ?_) (fun hc222 => ?_)
   ·have hm := ite_t hc222 hm
    refine wp_skip (thenN ?_)
    refine wp_seq ?_
    refine wp_block ?_
    refine wp_seq (region_plain ?_)
    obtain ⟨x223, e224, hm⟩ := bind_some hm
    have hlt := lt_of_idx (idx_some e224).2
    refine lq (ePtr v46 (x129.toNat * 1)) S (q_indexAddr rfl (H.isSl 1 rfl) rfl (idx_some e224).1 hlt Try.underlying38 Try.sizeOf2) fun a S => ?_
    obtain ⟨c225, h226, hat227⟩ := (H.rdAt 1 rfl).elem (idx_some e224).2
    obtain rfl := h226
    refine lx_e (.int .i64 x223) S trivial (by decide) rfl trivial (q_load1 rfl Try.isAgg2 (by rintro _ rfl; exact (hat227 0 _ rfl))) (fun a S => ?_)
    refine lq (.int .i64 x223) S (q_assign rfl) fun a S => ?_
    refine lx_nil (thenN ?_)
    refine region_drawG (fun w1 => Heap w0 [bA b31 [p0] 27] w1) (fun i => [20, 22, 23].contains i) mixed (by kernel_rfl) (fun w229 he228 => ?_)
    have H := H.later he228
    refine ⟨H.sel [0] (by decide), ?_⟩
    refine lq v126 S (q_move rfl) fun a S => ?_
    refine lq p0 S (q_load1 rfl Try.isAgg27 (fun w1 hC => (boxAt (i := 0) hC rfl (j := 0) rfl))) fun a S => ?_
    refine lq (.int .i64 x223) S (q_move rfl) fun a S => ?_
    obtain ⟨x230, e231, hm⟩ := bind_some hm
    obtain ⟨c232, h233, hat234⟩ := (h0).elem (idx_some e231).2
    obtain ⟨c237, c238, rfl, h239, h240⟩ := h233
    obtain rfl := h239
    obtain ⟨c241, c242, rfl, h243, h244⟩ := h240
    obtain rfl := h243
    obtain ⟨v235, rfl, h236⟩ := rd_list h244
    have hlt := lt_of_idx (idx_some e231).2
    refine lq (ePtr p0 (x223.toNat * 3)) S (q_indexAddr rfl (h0).isSl rfl (idx_some e231).1 hlt Try.underlying27 Try.sizeOf53) fun a S => ?_
    refine lq (pAdd (ePtr p0 (x223.toNat * 3)) 1) S (q_fieldAddr' 1 2 rfl ((hat234 0 _ rfl).isP) Try.underlying53 rfl Try.sizeOf2) fun a S => ?_
    refine lq (.int .i64 x230.2.1) S (q_load1 rfl Try.isAgg2 (fun w1 hC => (At.of_add (m := 1) (j := 0) ((hat234 1 _ rfl).ext hC.ext)))) fun a S => ?_
    refine lq (.int .i64 (x230.2.1.tmod (2 : Int))) S (q_rem rfl rfl (show (2 : Int) ≠ 0 from by decide)) fun a S => ?_
    refine lq (.bool ((x230.2.1.tmod (2 : Int)) == (0 : Int))) S (q_eql rfl rfl) fun a S => ?_
    refine lq p0 S (q_load1 rfl Try.isAgg27 (fun w1 hC => (boxAt (i := 0) hC rfl (j := 0) rfl))) fun a S => ?_
    refine lq (.int .i64 x223) S (q_move rfl) fun a S => ?_
    obtain ⟨x245, e246, hm⟩ := bind_some hm
    obtain ⟨c247, h248, hat249⟩ := (h0).elem (idx_some e246).2
    obtain ⟨c252, c253, rfl, h254, h255⟩ := h248
    obtain rfl := h254
    obtain ⟨c256, c257, rfl, h258, h259⟩ := h255
    obtain rfl := h258
    obtain ⟨v250, rfl, h251⟩ := rd_list h259
    have hlt := lt_of_idx (idx_some e246).2
    refine lq (ePtr p0 (x223.toNat * 3)) S (q_indexAddr rfl (h0).isSl rfl (idx_some e246).1 hlt Try.underlying27 Try.sizeOf53) fun a S => ?_
    refine lq (pAdd (ePtr p0 (x223.toNat * 3)) 0) S (q_fieldAddr' 0 2 rfl ((hat249 0 _ rfl).isP) Try.underlying53 rfl Try.sizeOf2) fun a S => ?_
    refine lq (.int .i64 x245.1) S (q_load1 rfl Try.isAgg2 (fun w1 hC => (At.of_add (m := 0) (j := 0) ((hat249 0 _ rfl).ext hC.ext)))) fun a S => ?_
    refine lq (.bool (x245.1 == (1 : Int))) S (q_eql rfl rfl) fun a S => ?_
    refine lq v46 S (q_move rfl) fun a S => ?_
    refine lq p0 S (q_load1 rfl Try.isAgg27 (fun w1 hC => (boxAt (i := 0) hC rfl (j := 0) rfl))) fun a S => ?_
    refine lq (.int .i64 x223) S (q_move rfl) fun a S => ?_
    obtain ⟨x260, e261, hm⟩ := bind_some hm
    obtain ⟨c262, h263, hat264⟩ := (h0).elem (idx_some e261).2
    obtain ⟨c267, c268, rfl, h269, h270⟩ := h263
    obtain rfl := h269
    obtain ⟨c271, c272, rfl, h273, h274⟩ := h270
    obtain rfl := h273
    obtain ⟨v265, rfl, h266⟩ := rd_list h274
    have hlt := lt_of_idx (idx_some e261).2
    refine lq (ePtr p0 (x223.toNat * 3)) S (q_indexAddr rfl (h0).isSl rfl (idx_some e261).1 hlt Try.underlying27 Try.sizeOf53) fun a S => ?_
    refine lq (pAdd (ePtr p0 (x223.toNat * 3)) 2) S (q_fieldAddr' 2 38 rfl ((hat264 0 _ rfl).isP) Try.underlying53 rfl Try.sizeOf38) fun a S => ?_
    refine lq v265 S (q_load1 rfl Try.isAgg38 (fun w1 hC => (At.of_add (m := 2) (j := 0) ((hat264 2 _ rfl).ext hC.ext)))) fun a S => ?_
    obtain ⟨x277, e278, hm⟩ := bind_some hm
    refine lx_call (xs := [.tmp 38, .tmp 43]) S trivial (by decide) rfl rfl Try.call57 ((impl_placesIn_ok (H.rdAt 1 rfl) (H.arg h266) e278).mono ?_)
    rintro e w275 ⟨v279, rfl, Hc276⟩
    have H := H.call1 Hc276
    refine ⟨_, rfl, H.sel [1] (by decide), fun a S => ?_⟩
    refine lq (.agg #[(.bool ((x230.2.1.tmod (2 : Int)) == (0 : Int))), (.bool (x245.1 == (1 : Int))), v279]) S (q_build (zs := [(.bool false), (.bool false), (.slice none 0 0)]) (szs := [1, 1, 1]) (ps := [(0, [(.bool ((x230.2.1.tmod (2 : Int)) == (0 : Int)))]), (1, [(.bool (x245.1 == (1 : Int)))]), (2, [v279])]) (parts := [(0, .tmp 31), (1, .tmp 37), (2, .tmp 44)]) rfl Try.underlying70 Try.zeroValue70 (fun w => by simp [Try.sizeOf38, Try.sizeOf4]) ⟨rfl, rfl, Nat.le_of_ble_eq_true rfl, ⟨rfl, rfl, Nat.le_of_ble_eq_true rfl, ⟨rfl, (cells_sl (H.isSl 0 rfl)), Nat.le_of_ble_eq_true rfl, trivial⟩⟩⟩ rfl) fun a S => ?_
    refine lx_buildSlice (r := Rimpl_Equation) (xs := [(((x230.2.1.tmod (2 : Int)) == (0 : Int)), (x245.1 == (1 : Int)), x277)]) (ps := [(0, [(.bool ((x230.2.1.tmod (2 : Int)) == (0 : Int))), (.bool (x245.1 == (1 : Int))), v279])]) (cs := [(.bool ((x230.2.1.tmod (2 : Int)) == (0 : Int))), (.bool (x245.1 == (1 : Int))), v279]) (parts := [(0, .tmp 45)]) S trivial (by decide) rfl H rfl Try.underlying37 Try.sizeOf70 Try.zeroValue70 (by decide) ⟨rfl, rfl, Nat.le_of_ble_eq_true rfl, trivial⟩ (by intro zs hz; exact fill_dense hz ⟨rfl, trivial⟩ rfl rfl) rfl (by decide) (fun w F hA => ownL_one_mk (ownF ⟨_, _, [(.bool ((x230.2.1.tmod (2 : Int)) == (0 : Int)))], [(.bool (x245.1 == (1 : Int))), v279], rfl, rfl, ⟨rfl, rfl⟩, ⟨_, _, [(.bool (x245.1 == (1 : Int)))], [v279], rfl, rfl, ⟨rfl, rfl⟩, (oA_list.1 hA)⟩⟩)) (fun v282 w283 H => ⟨H.sel [1] (by decide), fun a S => ?_⟩)
    obtain ⟨x285, e286, hm⟩ := bind_some hm
    obtain ⟨hle, hap⟩ := app_some e286
    replace hap := hap.symm
    subst hap
    have H : Heap w0 [oA (rList Rimpl_Equation) v282 [(((x230.2.1.tmod (2 : Int)) == (0 : Int)), (x245.1 == (1 : Int)), x277)], bA b31 [p0] 27, oA (rList (rInt .i64)) v46 x51, oA (rList Rimpl_Equation) v126 xs127] w283 := H.front 0 rfl
    have H : Heap w0 [oA (rList Rimpl_Equation) v126 xs127, oA (rList Rimpl_Equation) v282 [(((x230.2.1.tmod (2 : Int)) == (0 : Int)), (x245.1 == (1 : Int)), x277)], bA b31 [p0] 27, oA (rList (rInt .i64)) v46 x51] w283 := H.front 3 rfl
    refine lx_appendOwn (r := Rimpl_Equation) S trivial (by decide) rfl H rfl rfl Try.underlying37 Try.ti70 rfl rfl rfl (Nat.le_of_ble_eq_true rfl) (by decide) hle (fun v287 w288 H => ⟨H.sel [1] (by decide), fun a S => ?_⟩)
    refine lq v287 S (q_assign rfl) fun a S => ?_
    refine lx_nil ?_
    refine inBlock_norm ?_
    refine thenN ?_
    refine region_plain ?_
    refine lq (.int .i64 (W (x129 + (1 : Int)))) S (q_add rfl rfl) fun a S => ?_
    refine lq (.int .i64 (W (x129 + (1 : Int)))) S (q_move rfl) fun a S => ?_
    refine lx_nil ?_
    have H : Heap w0 [oA (rList (rInt .i64)) v46 x51, oA (rList Rimpl_Equation) v287 (xs127 ++ [(((x230.2.1.tmod (2 : Int)) == (0 : Int)), (x245.1 == (1 : Int)), x277)]), bA b31 [p0] 27] w288 := H.front 2 rfl
    have H : Heap w0 [bA b31 [p0] 27, oA (rList (rInt .i64)) v46 x51, oA (rList Rimpl_Equation) v287 (xs127 ++ [(((x230.2.1.tmod (2 : Int)) == (0 : Int)), (x245.1 == (1 : Int)), x277)])] w288 := H.front 2 rfl
    exact ⟨m219, Nat.lt_succ_self _, (xs127 ++ [(((x230.2.1.tmod (2 : Int)) == (0 : Int)), (x245.1 == (1 : Int)), x277)]), (W (x129 + (1 : Int))), v287, S.sub ⟨rfl, rfl, rfl, rfl, rfl, rfl, trivial⟩, H, it_cont hm hc221⟩
   ·have hm := ite_f hc222 hm
    refine wp_exit ?_
    refine then_exit ?_
    refine then_exit ?_
    refine inBlock_exit ?_
    obtain rfl := it_brk hm hc221
    have H : Heap w0 [oA (rList (rInt .i64)) v46 x51, oA (rList Rimpl_Equation) v126 xs127] w := H.sel [1, 2] (by decide)
    exact ⟨xs127, v126, S.sub ⟨rfl, rfl, trivial⟩, H, rfl⟩

/-- laws.eqEquation -/
def laws_eqEquation_m (fuel : Nat) (a0 : Timpl_Equation) (a1 : Timpl_Equation) : Option (Bool) :=
  (if (a0.1 != a1.1) = true then some (false) else (if (a0.2.1 != a1.2.1) = true then some (false) else (laws_eqInt64S_m fuel a0.2.2 a1.2.2).bind fun x65 => (if (!x65) = true then some (false) else some (true))))
set_option maxRecDepth 20000 in
theorem laws_eqEquation_ok [dr : Dr] {w0 : World} {fuel : Nat} {p0 p1 : Value} {a0 : Timpl_Equation} {a1 : Timpl_Equation} {r : Bool} (h0 : Rd Rimpl_Equation w0 p0 a0) (h1 : Rd Rimpl_Equation w0 p1 a1) (hm : laws_eqEquation_m fuel a0 a1 = some r) :
  Calls Try.prog 59 #[p0, p1] w0 fun e w => e = .returned (.bool r) ∧ Heap w0 [] w := by
 unfold laws_eqEquation_m at hm
 have H := Heap.start w0
 obtain ⟨c31, rfl, h32⟩ := h0
 obtain ⟨c35, c36, rfl, h37, h38⟩ := h32
 obtain rfl := h37
 obtain ⟨c39, c40, rfl, h41, h42⟩ := h38
 obtain rfl := h41
 obtain ⟨v33, rfl, h34⟩ := rd_list h42
 obtain ⟨c43, rfl, h44⟩ := h1
 obtain ⟨c47, c48, rfl, h49, h50⟩ := h44
 obtain rfl := h49
 obtain ⟨c51, c52, rfl, h53, h54⟩ := h50
 obtain rfl := h53
 obtain ⟨v45, rfl, h46⟩ := rd_list h54
 refine enter (args := [(.agg #[(.bool a0.1), (.bool a0.2.1), v33]), (.agg #[(.bool a1.1), (.bool a1.2.1), v45])]) Try.func59 rfl 21 rfl (Nat.le_of_ble_eq_true rfl) (fun a S => ?_)
 refine wp_seq (region_plain ?_)
 refine lx_box S trivial (by decide) rfl H rfl rfl (fun b55 w56 H => ⟨trivial, fun a S => ?_⟩)
 refine lx_box S trivial (by decide) rfl H rfl rfl (fun b58 w59 H => ⟨trivial, fun a S => ?_⟩)
 refine lq (.bool false) S (q_assign rfl) fun a S => ?_
 refine lx_nil (thenN ?_)
 refine wp_seq (wp_seq (region_plain ?_))
 refine lq (pAdd (bp b55) 0) S (q_fieldAddr' 0 4 rfl (isP_bp _) Try.underlying70 rfl Try.sizeOf4) fun a S => ?_
 refine lx_e (.bool a0.1) S trivial (by decide) rfl trivial (q_load1 rfl Try.isAgg4 (by rintro _ rfl; exact (At.of_add (m := 0) (j := 0) (boxAt (i := 1) H rfl (j := 0) rfl)))) (fun a S => ?_)
 refine lq (pAdd (bp b58) 0) S (q_fieldAddr' 0 4 rfl (isP_bp _) Try.underlying70 rfl Try.sizeOf4) fun a S => ?_
 refine lx_e (.bool a1.1) S trivial (by decide) rfl trivial (q_load1 rfl Try.isAgg4 (by rintro _ rfl; exact (At.of_add (m := 0) (j := 0) (boxAt (i := 0) H rfl (j := 0) rfl)))) (fun a S => ?_)
 refine lq (.bool (a0.1 != a1.1)) S (q_bneq rfl rfl Try.underlying4) fun a S => ?_
 refine lx_nil (thenN ?_)
 refine cond_b S rfl (fun hc61 => ?_) (fun hc61 => ?_)
 ·have hm := ite_t hc61 hm
  refine wp_seq (region_plain ?_)
  refine lq (.bool false) S (q_assign rfl) fun a S => ?_
  refine lx_nil (thenN ?_)
  refine wp_ret (then_ret ?_)
  obtain rfl := Option.some.inj hm
  have H : Heap w0 [] w59 := H.sel [] (by decide)
  exact leave1 S rfl rfl ⟨rfl, H⟩
 ·have hm := ite_f hc61 hm
  refine wp_skip (thenN ?_)
  refine wp_seq (wp_seq (region_plain ?_))
  refine lq (pAdd (bp b55) 1) S (q_fieldAddr' 1 4 rfl (isP_bp _) Try.underlying70 rfl Try.sizeOf4) fun a S => ?_
  refine lx_e (.bool a0.2.1) S trivial (by decide) rfl trivial (q_load1 rfl Try.isAgg4 (by rintro _ rfl; exact (At.of_add (m := 1) (j := 0) (boxAt (i := 1) H rfl (j := 1) rfl)))) (fun a S => ?_)
  refine lq (pAdd (bp b58) 1) S (q_fieldAddr' 1 4 rfl (isP_bp _) Try.underlying70 rfl Try.sizeOf4) fun a S => ?_
  refine lx_e (.bool a1.2.1) S trivial (by decide) rfl trivial (q_load1 rfl Try.isAgg4 (by rintro _ rfl; exact (At.of_add (m := 1) (j := 0) (boxAt (i := 0) H rfl (j := 1) rfl)))) (fun a S => ?_)
  refine lq (.bool (a0.2.1 != a1.2.1)) S (q_bneq rfl rfl Try.underlying4) fun a S => ?_
  refine lx_nil (thenN ?_)
  refine cond_b S rfl (fun hc62 => ?_) (fun hc62 => ?_)
  ·have hm := ite_t hc62 hm
   refine wp_seq (region_plain ?_)
   refine lq (.bool false) S (q_assign rfl) fun a S => ?_
   refine lx_nil (thenN ?_)
   refine wp_ret (then_ret ?_)
   obtain rfl := Option.some.inj hm
   have H : Heap w0 [] w59 := H.sel [] (by decide)
   exact leave1 S rfl rfl ⟨rfl, H⟩
  ·have hm := ite_f hc62 hm
   refine wp_skip (thenN ?_)
   refine wp_seq (wp_seq (region_plain ?_))
   refine lq (pAdd (bp b55) 2) S (q_fieldAddr' 2 38 rfl (isP_bp _) Try.underlying70 rfl Try.sizeOf38) fun a S => ?_
   refine lx_e v33 S trivial (by decide) rfl trivial (q_load1 rfl Try.isAgg38 (by rintro _ rfl; exact (At.of_add (m := 2) (j := 0) (boxAt (i := 1) H rfl (j := 2) rfl)))) (fun a S => ?_)
   refine lq (pAdd (bp b58) 2) S (q_fieldAddr' 2 38 rfl (isP_bp _) Try.underlying70 rfl Try.sizeOf38) fun a S => ?_
   refine lx_e v45 S trivial (by decide) rfl trivial (q_load1 rfl Try.isAgg38 (by rintro _ rfl; exact (At.of_add (m := 2) (j := 0) (boxAt (i := 0) H rfl (j := 2) rfl)))) (fun a S => ?_)
   obtain ⟨x65, e66, hm⟩ := bind_some hm
   refine lx_call (xs := [.tmp 16, .tmp 18]) S trivial (by decide) rfl rfl Try.call22 ((laws_eqInt64S_ok (H.arg h34) (H.arg h46) e66).mono ?_)
   rintro e w63 ⟨rfl, Hc64⟩
   have H := H.call0 Hc64
   refine ⟨_, rfl, trivial, fun a S => ?_⟩
   refine lq (.bool (!x65)) S (q_not rfl) fun a S => ?_
   refine lx_nil (thenN ?_)
   refine cond_b S rfl (fun hc68 => ?_) (fun hc68 => ?_)
   ·have hm := ite_t hc68 hm
    refine wp_seq (region_plain ?_)
    refine lq (.bool false) S (q_assign rfl) fun a S => ?_
    refine lx_nil (thenN ?_)
    refine wp_ret (then_ret ?_)
    obtain rfl := Option.some.inj hm
    have H : Heap w0 [] w63 := H.sel [] (by decide)
    exact leave1 S rfl rfl ⟨rfl, H⟩
   ·have hm := ite_f hc68 hm
    refine wp_skip (thenN ?_)
    refine wp_seq (region_plain ?_)
    refine lq (.bool true) S (q_assign rfl) fun a S => ?_
    refine lx_nil (thenN ?_)
    refine wp_ret ?_
    obtain rfl := Option.some.inj hm
    have H : Heap w0 [] w63 := H.sel [] (by decide)
    exact leave1 S rfl rfl ⟨rfl, H⟩

/-- laws.eqEquationS -/
def laws_eqEquationS_m (fuel : Nat) (a0 : (List Timpl_Equation)) (a1 : (List Timpl_Equation)) : Option (Bool) :=
  (if ((a0.length : Int) != (a1.length : Int)) = true then some (false) else (iter (fun (s : (Int)) => (match s with | (x72) => (if (decide (x72 < (a0.length : Int))) = true then (idx a0 x72).bind fun x124 => (idx a1 x72).bind fun x139 => (laws_eqEquation_m fuel (x124.1, x124.2.1, x124.2.2) (x139.1, x139.2.1, x139.2.2)).bind fun x156 => (if (!x156) = true then some (.inr (.inr false)) else some (.inl ((W (x72 + (1 : Int)))))) else some (.inr (.inl ()))) : Option (((Int)) ⊕ ((Unit) ⊕ (Bool))))) fuel ((0 : Int))).bind fun res113 => ctl (β := Unit) (ρ := Bool) (τ := Bool) res113 (fun _ => some (true)) (fun q => some (q)))
set_option maxRecDepth 20000 in
theorem laws_eqEquationS_ok [dr : Dr] {w0 : World} {fuel : Nat} {p0 p1 : Value} {a0 : (List Timpl_Equation)} {a1 : (List Timpl_Equation)} {r : Bool} (h0 : Rd (rList Rimpl_Equation) w0 p0 a0) (h1 : Rd (rList Rimpl_Equation) w0 p1 a1) (hm : laws_eqEquationS_m fuel a0 a1 = some r) :
  Calls Try.prog 21 #[p0, p1] w0 fun e w => e = .returned (.bool r) ∧ Heap w0 [] w := by
 unfold laws_eqEquationS_m at hm
 have H := Heap.start w0
 refine enter (args := [p0, p1]) Try.func21 rfl 27 rfl (Nat.le_of_ble_eq_true rfl) (fun a S => ?_)
 refine wp_seq (region_plain ?_)
 refine lq (.bool false) S (q_assign rfl) fun a S => ?_
 refine lx_nil (thenN ?_)
 refine wp_seq (wp_seq (region_plain ?_))
 refine lq p0 S (q_move rfl) fun a S => ?_
 refine lq (.int .i64 (a0.length : Int)) S (q_lenSl rfl (h0).isSl rfl Try.underlying37) fun a S => ?_
 refine lq p1 S (q_move rfl) fun a S => ?_
 refine lq (.int .i64 (a1.length : Int)) S (q_lenSl rfl (h1).isSl rfl Try.underlying37) fun a S => ?_
 refine lq (.bool ((a0.length : Int) != (a1.length : Int))) S (q_neq rfl rfl) fun a S => ?_
 refine lx_nil (thenN ?_)
 refine cond_b S rfl (fun hc31 => ?_) (fun hc31 => ?_)
 ·have hm := ite_t hc31 hm
  refine wp_seq (region_plain ?_)
  refine lq (.bool false) S (q_assign rfl) fun a S => ?_
  refine lx_nil (thenN ?_)
  refine wp_ret (then_ret ?_)
  obtain rfl := Option.some.inj hm
  exact leave1 S rfl rfl ⟨rfl, H⟩
 ·have hm := ite_f hc31 hm
  refine wp_skip (thenN ?_)
  refine wp_seq (wp_seq (region_plain ?_))
  refine lq (.int .i64 (0 : Int)) S (q_assign rfl) fun a S => ?_
  refine lx_nil (thenN ?_)
  obtain ⟨res113, hit114, hk117⟩ := bind_some hm
  obtain ⟨f115, hf116, hit114⟩ := iter_name hit114
  refine block_loop (fun a w => Slots a 27 [] ∧ Heap w0 [] w ∧ res113 = .inl ()) ?_ ?_
  ·rintro a w ⟨S, H, rfl⟩
   have hm := ctl_inl hk117
   refine thenN ?_
   refine wp_seq (region_plain ?_)
   refine lq (.bool true) S (q_assign rfl) fun a S => ?_
   refine lx_nil (thenN ?_)
   refine wp_ret ?_
   obtain rfl := Option.some.inj hm
   exact leave1 S rfl rfl ⟨rfl, H⟩
  ·skip
   refine loop_ghost (fun n a w => ∃ (x72 : Int), Slots a 27 [(0, p0), (1, p1), (5, (.int .i64 x72))] ∧ Heap w0 [] w ∧ iter f115 n (x72) = some res113) _ ⟨(0 : Int), S.sub ⟨rfl, rfl, rfl, trivial⟩, H, hit114⟩ ?_
   rintro n a w ⟨x72, S, H, hit114⟩
   obtain ⟨m118, o119, rfl, hm, hc120⟩ := iter_step hit114
   rw [hf116] at hm
   refine wp_seq (wp_seq (region_plain ?_))
   refine lq (.int .i64 x72) S (q_move rfl) fun a S => ?_
   refine lq p0 S (q_move rfl) fun a S => ?_
   refine lq (.int .i64 (a0.length : Int)) S (q_lenSl rfl (h0).isSl rfl Try.underlying37) fun a S => ?_
   refine lq (.bool (decide (x72 < (a0.length : Int)))) S (q_lss rfl rfl) fun a S => ?_
   refine lx_nil (thenN ?_)
   refine cond_b S rfl (fun hc121 => ?_) (fun hc121 => ?_)
   ·have hm := ite_t hc121 hm
    refine wp_skip (thenN ?_)
    refine wp_seq ?_
    refine wp_block ?_
    refine wp_seq ?_
    refine region_drawG (fun w1 => Heap w0 [] w1) (fun i => [8].contains i) mixed (by kernel_rfl) (fun w123 he122 => ?_)
    have H := H.later he122
    refine ⟨H.sel [] (by decide), ?_⟩
    refine lq p0 S (q_move rfl) fun a S => ?_
    refine lq (.int .i64 x72) S (q_move rfl) fun a S => ?_
    obtain ⟨x124, e125, hm⟩ := bind_some hm
    obtain ⟨c126, h127, hat128⟩ := (h0).elem (idx_some e125).2
    obtain ⟨c131, c132, rfl, h133, h134⟩ := h127
    obtain rfl := h133
    obtain ⟨c135, c136, rfl, h137, h138⟩ := h134
    obtain rfl := h137
    obtain ⟨v129, rfl, h130⟩ := rd_list h138
    have hlt := lt_of_idx (idx_some e125).2
    refine lq (ePtr p0 (x72.toNat * 3)) S (q_indexAddr rfl (h0).isSl rfl (idx_some e125).1 hlt Try.underlying37 Try.sizeOf70) fun a S => ?_
    refine lq (.agg #[(.bool x124.1), (.bool x124.2.1), v129]) S (q_loadA (cs := [(.bool x124.1), (.bool x124.2.1), v129]) rfl ((hat128 0 _ rfl).isP) Try.isAgg70 Try.sizeOf70 (fun w1 hC => (fun j u hu => (hat128 j u hu).ext hC.ext))) fun a S => ?_
    refine lq p1 S (q_move rfl) fun a S => ?_
    refine lq (.int .i64 x72) S (q_move rfl) fun a S => ?_
    obtain ⟨x139, e140, hm⟩ := bind_some hm
    obtain ⟨c141, h142, hat143⟩ := (h1).elem (idx_some e140).2
    obtain ⟨c146, c147, rfl, h148, h149⟩ := h142
    obtain rfl := h148
    obtain ⟨c150, c151, rfl, h152, h153⟩ := h149
    obtain rfl := h152
    obtain ⟨v144, rfl, h145⟩ := rd_list h153
    have hlt := lt_of_idx (idx_some e140).2
    refine lq (ePtr p1 (x72.toNat * 3)) S (q_indexAddr rfl (h1).isSl rfl (idx_some e140).1 hlt Try.underlying37 Try.sizeOf70) fun a S => ?_
    refine lq (.agg #[(.bool x139.1), (.bool x139.2.1), v144]) S (q_loadA (cs := [(.bool x139.1), (.bool x139.2.1), v144]) rfl ((hat143 0 _ rfl).isP) Try.isAgg70 Try.sizeOf70 (fun w1 hC => (fun j u hu => (hat143 j u hu).ext hC.ext))) fun a S => ?_
    obtain ⟨x156, e157, hm⟩ := bind_some hm
    refine lx_call (xs := [.tmp 20, .tmp 24]) S trivial (by decide) rfl rfl Try.call59 ((laws_eqEquation_ok ⟨[(.bool x124.1), (.bool x124.2.1), v129], rfl, ⟨[(.bool x124.1)], [(.bool x124.2.1), v129], rfl, rfl, ⟨[(.bool x124.2.1)], [v129], rfl, rfl, ((H.arg h130)).list_rd⟩⟩⟩ ⟨[(.bool x139.1), (.bool x139.2.1), v144], rfl, ⟨[(.bool x139.1)], [(.bool x139.2.1), v144], rfl, rfl, ⟨[(.bool x139.2.1)], [v144], rfl, rfl, ((H.arg h145)).list_rd⟩⟩⟩ e157).mono ?_)
    rintro e w154 ⟨rfl, Hc155⟩
    have H := H.call0 Hc155
    refine ⟨_, rfl, H.sel [] (by decide), fun a S => ?_⟩
    refine lq (.bool (!x156)) S (q_not rfl) fun a S => ?_
    refine lx_nil (thenN ?_)
    refine cond_b S rfl (fun hc159 => ?_) (fun hc159 => ?_)
    ·have hm := ite_t hc159 hm
     refine wp_seq (region_plain ?_)
     refine lq (.bool false) S (q_assign rfl) fun a S => ?_
     refine lx_nil (thenN ?_)
     refine wp_ret (inBlock_ret ?_)
     refine then_ret ?_
     refine then_ret ?_
     refine inBlock_ret ?_
     refine then_ret ?_
     refine then_ret ?_
     obtain rfl := it_brk hm hc120
     have hm := ctl_inr hk117
     obtain rfl := Option.some.inj hm
     exact leave1 S rfl rfl ⟨rfl, H⟩
    ·have hm := ite_f hc159 hm
     refine wp_skip ?_
     refine inBlock_norm ?_
     refine thenN ?_
     refine region_plain ?_
     refine lq (.int .i64 x72) S (q_move rfl) fun a S => ?_
     refine lq (.int .i64 (W (x72 + (1 : Int)))) S (q_add rfl rfl) fun a S => ?_
     refine lq (.int .i64 (W (x72 + (1 : Int)))) S (q_assign rfl) fun a S => ?_
     refine lx_nil ?_
     exact ⟨m118, Nat.lt_succ_self _, (W (x72 + (1 : Int))), S.sub ⟨rfl, rfl, rfl, trivial⟩, H, it_cont hm hc120⟩
   ·have hm := ite_f hc121 hm
    refine wp_exit ?_
    refine then_exit ?_
    refine then_exit ?_
    refine inBlock_exit ?_
    obtain rfl := it_brk hm hc120
    exact ⟨S.sub trivial, H, rfl⟩

/-- laws.markEquationS -/
def laws_markEquationS_m (fuel : Nat) (a0 : (List Timpl_Equation)) (a1 : Int) : Option (Int × (List Timpl_Equation)) :=
  (iter (fun (s : (List Timpl_Equation) × (Int) × (Int)) => (match s with | (xs62, x63, x64) => (if (decide (x64 < (xs62.length : Int))) = true then (idx xs62 x64).bind fun x107 => (idx (xs62.set x64.toNat (((x63.tmod (3 : Int)) == (0 : Int)), x107.2.1, x107.2.2)) x64).bind fun x110 => (idx ((xs62.set x64.toNat (((x63.tmod (3 : Int)) == (0 : Int)), x107.2.1, x107.2.2)).set x64.toNat (x110.1, (((W (x63 + (1 : Int))).tmod (3 : Int)) == (0 : Int)), x110.2.2)) x64).bind fun x113 => (laws_markInt64S_m fuel x113.2.2 (W ((W (x63 + (1 : Int))) + (1 : Int)))).bind fun x130 => some (.inl ((((xs62.set x64.toNat (((x63.tmod (3 : Int)) == (0 : Int)), x107.2.1, x107.2.2)).set x64.toNat (x110.1, (((W (x63 + (1 : Int))).tmod (3 : Int)) == (0 : Int)), x110.2.2)).set x64.toNat (x113.1, x113.2.1, x130.2)), x130.1, (W (x64 + (1 : Int))))) else some (.inr (.inl (x63, xs62)))) : Option (((List Timpl_Equation) × (Int) × (Int)) ⊕ ((Int × (List Timpl_Equation)) ⊕ (Int × (List Timpl_Equation)))))) fuel (a0, a1, (0 : Int))).bind fun res98 => ctl (β := Int × (List Timpl_Equation)) (ρ := Int × (List Timpl_Equation)) (τ := Int × (List Timpl_Equation)) res98 (fun (x96, xs97) => some ((x96, xs97))) (fun q => some (q))
set_option maxRecDepth 20000 in
theorem laws_markEquationS_ok [dr : Dr] {w0 : World} {fuel : Nat} {p0 : Value} {a0 : (List Timpl_Equation)} {a1 : Int} {w00 : World} {L : List Asrt} {r : Int × (List Timpl_Equation)} (H : Heap w00 (oA (rList Rimpl_Equation) p0 a0 :: L) w0) (hm : laws_markEquationS_m fuel a0 a1 = some r) :
  Calls Try.prog 23 #[p0, .int .i64 a1] w0 fun e w => e = .returned (.int .i64 r.1) ∧ Heap w00 (oA (rList Rimpl_Equation) p0 r.2 :: L) w := by
 unfold laws_markEquationS_m at hm
 refine enter (args := [p0, .int .i64 a1]) Try.func23 rfl 38 rfl (Nat.le_of_ble_eq_true rfl) (fun a S => ?_)
 refine wp_seq (region_plain ?_)
 refine lq (.int .i64 (0 : Int)) S (q_assign rfl) fun a S => ?_
 refine lx_nil (thenN ?_)
 refine wp_seq (wp_seq (region_plain ?_))
 refine lq (.int .i64 (0 : Int)) S (q_assign rfl) fun a S => ?_
 refine lx_nil (thenN ?_)
 obtain ⟨res98, hit99, hk102⟩ := bind_some hm
 obtain ⟨f100, hf101, hit99⟩ := iter_name hit99
 refine block_loop (fun a w => ∃ (x96 : Int) (xs97 : List Timpl_Equation), Slots a 38 [(1, (.int .i64 x96))] ∧ Heap w00 (oA (rList Rimpl_Equation) p0 xs97 :: L) w ∧ res98 = .inl (x96, xs97)) ?_ ?_
 ·rintro a w ⟨x96, xs97, S, H, rfl⟩
  have hm := ctl_inl hk102
  refine thenN ?_
  refine wp_seq (region_plain ?_)
  refine lq (.int .i64 x96) S (q_move rfl) fun a S => ?_
  refine lq (.int .i64 x96) S (q_assign rfl) fun a S => ?_
  refine lx_nil (thenN ?_)
  refine wp_ret ?_
  obtain rfl := Option.some.inj hm
  exact leave1 S rfl rfl ⟨rfl, H⟩
 ·skip
  refine loop_ghost (fun n a w => ∃ (xs62 : List Timpl_Equation) (x63 : Int) (x64 : Int), Slots a 38 [(0, p0), (1, (.int .i64 x63)), (5, (.int .i64 x64))] ∧ Heap w00 (oA (rList Rimpl_Equation) p0 xs62 :: L) w ∧ iter f100 n (xs62, x63, x64) = some res98) _ ⟨a0, a1, (0 : Int), S.sub ⟨rfl, rfl, rfl, trivial⟩, H, hit99⟩ ?_
  rintro n a w ⟨xs62, x63, x64, S, H, hit99⟩
  obtain ⟨m103, o104, rfl, hm, hc105⟩ := iter_step hit99
  rw [hf101] at hm
  refine wp_seq (wp_seq (region_plain ?_))
  refine lq (.int .i64 x64) S (q_move rfl) fun a S => ?_
  refine lq p0 S (q_move rfl) fun a S => ?_
  refine lq (.int .i64 (xs62.length : Int)) S (q_lenSl rfl (H.isSl 0 rfl) rfl Try.underlying37) fun a S => ?_
  refine lq (.bool (decide (x64 < (xs62.length : Int)))) S (q_lss rfl rfl) fun a S => ?_
  refine lx_nil (thenN ?_)
  refine cond_b S rfl (fun hc106 => ?_) (fun hc106 => ?_)
  ·have hm := ite_t hc106 hm
   refine wp_skip (thenN ?_)
   refine wp_seq ?_
   refine wp_block ?_
   refine wp_seq (region_plain ?_)
   refine lq p0 S (q_move rfl) fun a S => ?_
   refine lq (.int .i64 x64) S (q_move rfl) fun a S => ?_
   refine lq (.int .i64 x63) S (q_move rfl) fun a S => ?_
   refine lq (.int .i64 (x63.tmod (3 : Int))) S (q_rem rfl rfl (show (3 : Int) ≠ 0 from by decide)) fun a S => ?_
   refine lq (.bool ((x63.tmod (3 : Int)) == (0 : Int))) S (q_eql rfl rfl) fun a S => ?_
   obtain ⟨x107, e108, hm⟩ := bind_some hm
   have hlt := lt_of_idx (idx_some e108).2
   refine lq (ePtr p0 (x64.toNat * 3)) S (q_indexAddr rfl (H.isSl 0 rfl) rfl (idx_some e108).1 hlt Try.underlying37 Try.sizeOf70) fun a S => ?_
   refine lq (pAdd (ePtr p0 (x64.toNat * 3)) 0) S (q_fieldAddr' 0 4 rfl (((H.isSl 0 rfl)).ptr (lt_of_idx (idx_some e108).2) _) Try.underlying70 rfl Try.sizeOf4) fun a S => ?_
   refine lx_storeElem (r := Rimpl_Equation) (us := [(.bool ((x63.tmod (3 : Int)) == (0 : Int)))]) (off := 0) (e' := (((x63.tmod (3 : Int)) == (0 : Int)), x107.2.1, x107.2.2)) S trivial rfl H.putE rfl rfl (idx_some e108).2 rfl Try.sizeOf4 (Nat.le_of_ble_eq_true rfl) (List.forall_mem_cons.2 ⟨rfl, (List.forall_mem_nil _)⟩) (Upd.fst (off := 0) (Nat.le_of_ble_eq_true rfl) (Upd.full rfl (fun w G hG => by cases (show G = [] from hG); exact ⟨rfl, rfl⟩))) (fun w109 H => ⟨trivial, fun a S => ?_⟩)
   refine lx_nil (thenN ?_)
   refine wp_seq (region_plain ?_)
   refine lq (.int .i64 x63) S (q_move rfl) fun a S => ?_
   refine lq (.int .i64 (W (x63 + (1 : Int)))) S (q_add rfl rfl) fun a S => ?_
   refine lq (.int .i64 (W (x63 + (1 : Int)))) S (q_assign rfl) fun a S => ?_
   refine lx_nil (thenN ?_)
   refine wp_seq (region_plain ?_)
   refine lq p0 S (q_move rfl) fun a S => ?_
   refine lq (.int .i64 x64) S (q_move rfl) fun a S => ?_
   refine lq (.int .i64 (W (x63 + (1 : Int)))) S (q_move rfl) fun a S => ?_
   refine lq (.int .i64 ((W (x63 + (1 : Int))).tmod (3 : Int))) S (q_rem rfl rfl (show (3 : Int) ≠ 0 from by decide)) fun a S => ?_
   refine lq (.bool (((W (x63 + (1 : Int))).tmod (3 : Int)) == (0 : Int))) S (q_eql rfl rfl) fun a S => ?_
   obtain ⟨x110, e111, hm⟩ := bind_some hm
   have hlt := lt_of_idx (idx_some e111).2
   refine lq (ePtr p0 (x64.toNat * 3)) S (q_indexAddr rfl (H.isSl 0 rfl) rfl (idx_some e111).1 hlt Try.underlying37 Try.sizeOf70) fun a S => ?_
   refine lq (pAdd (ePtr p0 (x64.toNat * 3)) 1) S (q_fieldAddr' 1 4 rfl (((H.isSl 0 rfl)).ptr (lt_of_idx (idx_some e111).2) _) Try.underlying70 rfl Try.sizeOf4) fun a S => ?_
   refine lx_storeElem (r := Rimpl_Equation) (us := [(.bool (((W (x63 + (1 : Int))).tmod (3 : Int)) == (0 : Int)))]) (off := 1) (e' := (x110.1, (((W (x63 + (1 : Int))).tmod (3 : Int)) == (0 : Int)), x110.2.2)) S trivial rfl H.putE rfl rfl (idx_some e111).2 rfl Try.sizeOf4 (Nat.le_of_ble_eq_true rfl) (List.forall_mem_cons.2 ⟨rfl, (List.forall_mem_nil _)⟩) (Upd.snd (off := 0) (Upd.fst (off := 0) (Nat.le_of_ble_eq_true rfl) (Upd.full rfl (fun w G hG => by cases (show G = [] from hG); exact ⟨rfl, rfl⟩)))) (fun w112 H => ⟨trivial, fun a S => ?_⟩)
   refine lx_nil (thenN ?_)
   refine wp_seq (region_plain ?_)
   refine lq (.int .i64 (W (x63 + (1 : Int)))) S (q_move rfl) fun a S => ?_
   refine lq (.int .i64 (W ((W (x63 + (1 : Int))) + (1 : Int)))) S (q_add rfl rfl) fun a S => ?_
   refine lq (.int .i64 (W ((W (x63 + (1 : Int))) + (1 : Int)))) S (q_assign rfl) fun a S => ?_
   refine lx_nil (thenN ?_)
   refine region_plain ?_
   refine lq p0 S (q_move rfl) fun a S => ?_
   refine lq (.int .i64 x64) S (q_move rfl) fun a S => ?_
   obtain ⟨x113, e114, hm⟩ := bind_some hm
   have hlt := lt_of_idx (idx_some e114).2
   refine lq (ePtr p0 (x64.toNat * 3)) S (q_indexAddr rfl (H.isSl 0 rfl) rfl (idx_some e114).1 hlt Try.underlying37 Try.sizeOf70) fun a S => ?_
   refine lq (pAdd (ePtr p0 (x64.toNat * 3)) 2) S (q_fieldAddr' 2 38 rfl (((H.isSl 0 rfl)).ptr (lt_of_idx (idx_some e114).2) _) Try.underlying70 rfl Try.sizeOf38) fun a S => ?_
   obtain ⟨c115, h116, hat117⟩ := (H.rdAt 0 rfl).elem (idx_some e114).2
   obtain ⟨c120, c121, rfl, h122, h123⟩ := h116
   obtain rfl := h122
   obtain ⟨c124, c125, rfl, h126, h127⟩ := h123
   obtain rfl := h126
   obtain ⟨v118, rfl, h119⟩ := rd_list h127
   refine lx_e v118 S trivial (by decide) rfl trivial (q_load1 rfl Try.isAgg38 (by rintro _ rfl; exact (At.of_add (m := 2) (j := 0) (hat117 2 _ rfl)))) (fun a S => ?_)
   refine lq (.int .i64 (W ((W (x63 + (1 : Int))) + (1 : Int)))) S (q_move rfl) fun a S => ?_
   obtain ⟨x130, e131, hm⟩ := bind_some hm
   obtain ⟨u132, hat133, H⟩ := H.lend (idx_some e114).2 (Lend.snd (off := 1) (Lend.snd (off := 0) (Lend.here)))
   obtain rfl : v118 = u132 := At.eq (hat117 2 _ rfl) hat133
   refine lx_call (xs := [.tmp 34, .tmp 35]) S trivial (by decide) rfl rfl Try.call24 ((laws_markInt64S_ok H  e131).mono ?_)
   rintro e w128 ⟨rfl, H⟩
   have H : Heap w00 (oA (rList Rimpl_Equation) p0 (((xs62.set x64.toNat (((x63.tmod (3 : Int)) == (0 : Int)), x107.2.1, x107.2.2)).set x64.toNat (x110.1, (((W (x63 + (1 : Int))).tmod (3 : Int)) == (0 : Int)), x110.2.2)).set x64.toNat (x113.1, x113.2.1, x130.2)) :: L) w128 := H.back
   refine ⟨_, rfl, trivial, fun a S => ?_⟩
   refine lq (.int .i64 x130.1) S (q_assign rfl) fun a S => ?_
   refine lx_nil ?_
   refine inBlock_norm ?_
   refine thenN ?_
   refine region_plain ?_
   refine lq (.int .i64 x64) S (q_move rfl) fun a S => ?_
   refine lq (.int .i64 (W (x64 + (1 : Int)))) S (q_add rfl rfl) fun a S => ?_
   refine lq (.int .i64 (W (x64 + (1 : Int)))) S (q_assign rfl) fun a S => ?_
   refine lx_nil ?_
   exact ⟨m103, Nat.lt_succ_self _, (((xs62.set x64.toNat (((x63.tmod (3 : Int)) == (0 : Int)), x107.2.1, x107.2.2)).set x64.toNat (x110.1, (((W (x63 + (1 : Int))).tmod (3 : Int)) == (0 : Int)), x110.2.2)).set x64.toNat (x113.1, x113.2.1, x130.2)), x130.1, (W (x64 + (1 : Int))), S.sub ⟨rfl, rfl, rfl, trivial⟩, H, it_cont hm hc105⟩
  ·have hm := ite_f hc106 hm
   refine wp_exit ?_
   refine then_exit ?_
   refine then_exit ?_
   refine inBlock_exit ?_
   obtain rfl := it_brk hm hc105
   exact ⟨x63, xs62, S.sub ⟨rfl, trivial⟩, H, rfl⟩

/-- laws.heldEquationS -/
def laws_heldEquationS_m (fuel : Nat) (a0 : (List Timpl_Equation)) (a1 : Int) : Option (Int) :=
  (iter (fun (s : (Int) × (Int)) => (match s with | (x87, x88) => (if (decide (x88 < (a0.length : Int))) = true then (idx a0 x88).bind fun x155 => (if (x155.1 != ((x87.tmod (3 : Int)) == (0 : Int))) = true then some (.inr (.inr (-1 : Int))) else (idx a0 x88).bind fun x171 => (if (x171.2.1 != (((W (x87 + (1 : Int))).tmod (3 : Int)) == (0 : Int))) = true then some (.inr (.inr (-1 : Int))) else (idx a0 x88).bind fun x187 => (laws_heldInt64S_m fuel x187.2.2 (W ((W (x87 + (1 : Int))) + (1 : Int)))).bind fun x204 => (if (decide (x204 < (0 : Int))) = true then some (.inr (.inr (-1 : Int))) else some (.inl (x204, (W (x88 + (1 : Int)))))))) else some (.inr (.inl (x87)))) : Option (((Int) × (Int)) ⊕ ((Int) ⊕ (Int))))) fuel (a1, (0 : Int))).bind fun res146 => ctl (β := Int) (ρ := Int) (τ := Int) res146 (fun (x145) => some (x145)) (fun q => some (q))
set_option maxRecDepth 20000 in
theorem laws_heldEquationS_ok [dr : Dr] {w0 : World} {fuel : Nat} {p0 : Value} {a0 : (List Timpl_Equation)} {a1 : Int} {r : Int} (h0 : Rd (rList Rimpl_Equation) w0 p0 a0) (hm : laws_heldEquationS_m fuel a0 a1 = some r) :
  Calls Try.prog 25 #[p0, .int .i64 a1] w0 fun e w => e = .returned (.int .i64 r) ∧ Heap w0 [] w := by
 unfold laws_heldEquationS_m at hm
 have H := Heap.start w0
 refine enter (args := [p0, .int .i64 a1]) Try.func25 rfl 44 rfl (Nat.le_of_ble_eq_true rfl) (fun a S => ?_)
 refine wp_seq (region_plain ?_)
 refine lq (.int .i64 (0 : Int)) S (q_assign rfl) fun a S => ?_
 refine lx_nil (thenN ?_)
 refine wp_seq (wp_seq (region_plain ?_))
 refine lq (.int .i64 (0 : Int)) S (q_assign rfl) fun a S => ?_
 refine lx_nil (thenN ?_)
 obtain ⟨res146, hit147, hk150⟩ := bind_some hm
 obtain ⟨f148, hf149, hit147⟩ := iter_name hit147
 refine block_loop (fun a w => ∃ (x145 : Int), Slots a 44 [(1, (.int .i64 x145))] ∧ Heap w0 [] w ∧ res146 = .inl (x145)) ?_ ?_
 ·rintro a w ⟨x145, S, H, rfl⟩
  have hm := ctl_inl hk150
  refine thenN ?_
  refine wp_seq (region_plain ?_)
  refine lq (.int .i64 x145) S (q_move rfl) fun a S => ?_
  refine lq (.int .i64 x145) S (q_assign rfl) fun a S => ?_
  refine lx_nil (thenN ?_)
  refine wp_ret ?_
  obtain rfl := Option.some.inj hm
  exact leave1 S rfl rfl ⟨rfl, H⟩
 ·skip
  refine loop_ghost (fun n a w => ∃ (x87 : Int) (x88 : Int), Slots a 44 [(0, p0), (1, (.int .i64 x87)), (5, (.int .i64 x88))] ∧ Heap w0 [] w ∧ iter f148 n (x87, x88) = some res146) _ ⟨a1, (0 : Int), S.sub ⟨rfl, rfl, rfl, trivial⟩, H, hit147⟩ ?_
  rintro n a w ⟨x87, x88, S, H, hit147⟩
  obtain ⟨m151, o152, rfl, hm, hc153⟩ := iter_step hit147
  rw [hf149] at hm
  refine wp_seq (wp_seq (region_plain ?_))
  refine lq (.int .i64 x88) S (q_move rfl) fun a S => ?_
  refine lq p0 S (q_move rfl) fun a S => ?_
  refine lq (.int .i64 (a0.length : Int)) S (q_lenSl rfl (h0).isSl rfl Try.underlying37) fun a S => ?_
  refine lq (.bool (decide (x88 < (a0.length : Int)))) S (q_lss rfl rfl) fun a S => ?_
  refine lx_nil (thenN ?_)
  refine cond_b S rfl (fun hc154 => ?_) (fun hc154 => ?_)
  ·have hm := ite_t hc154 hm
   refine wp_skip (thenN ?_)
   refine wp_seq ?_
   refine wp_block ?_
   refine wp_seq (wp_seq (region_plain ?_))
   refine lq p0 S (q_move rfl) fun a S => ?_
   refine lq (.int .i64 x88) S (q_move rfl) fun a S => ?_
   obtain ⟨x155, e156, hm⟩ := bind_some hm
   obtain ⟨c157, h158, hat159⟩ := (h0).elem (idx_some e156).2
   obtain ⟨c162, c163, rfl, h164, h165⟩ := h158
   obtain rfl := h164
   obtain ⟨c166, c167, rfl, h168, h169⟩ := h165
   obtain rfl := h168
   obtain ⟨v160, rfl, h161⟩ := rd_list h169
   have hlt := lt_of_idx (idx_some e156).2
   refine lq (ePtr p0 (x88.toNat * 3)) S (q_indexAddr rfl (h0).isSl rfl (idx_some e156).1 hlt Try.underlying37 Try.sizeOf70) fun a S => ?_
   refine lq (pAdd (ePtr p0 (x88.toNat * 3)) 0) S (q_fieldAddr' 0 4 rfl ((hat159 0 _ rfl).isP) Try.underlying70 rfl Try.sizeOf4) fun a S => ?_
   refine lx_e (.bool x155.1) S trivial (by decide) rfl trivial (q_load1 rfl Try.isAgg4 (by rintro _ rfl; exact (At.of_add (m := 0) (j := 0) ((hat159 0 _ rfl).ext H.ext)))) (fun a S => ?_)
   refine lq (.int .i64 x87) S (q_move rfl) fun a S => ?_
   refine lq (.int .i64 (x87.tmod (3 : Int))) S (q_rem rfl rfl (show (3 : Int) ≠ 0 from by decide)) fun a S => ?_
   refine lq (.bool ((x87.tmod (3 : Int)) == (0 : Int))) S (q_eql rfl rfl) fun a S => ?_
   refine lq (.bool (x155.1 != ((x87.tmod (3 : Int)) == (0 : Int)))) S (q_bneq rfl rfl Try.underlying4) fun a S => ?_
   refine lx_nil (thenN ?_)
   refine cond_b S rfl (fun hc170 => ?_) (fun hc170 => ?_)
   ·have hm := ite_t hc170 hm
    refine wp_seq (region_plain ?_)
    refine lq (.int .i64 (-1 : Int)) S (q_assign rfl) fun a S => ?_
    refine lx_nil (thenN ?_)
    refine wp_ret (then_ret ?_)
    refine inBlock_ret ?_
    refine then_ret ?_
    refine then_ret ?_
    refine inBlock_ret ?_
    refine then_ret ?_
    refine then_ret ?_
    obtain rfl := it_brk hm hc153
    have hm := ctl_inr hk150
    obtain rfl := Option.some.inj hm
    exact leave1 S rfl rfl ⟨rfl, H⟩
   ·have hm := ite_f hc170 hm
    refine wp_skip (thenN ?_)
    refine wp_seq (region_plain ?_)
    refine lq (.int .i64 x87) S (q_move rfl) fun a S => ?_
    refine lq (.int .i64 (W (x87 + (1 : Int)))) S (q_add rfl rfl) fun a S => ?_
    refine lq (.int .i64 (W (x87 + (1 : Int)))) S (q_assign rfl) fun a S => ?_
    refine lx_nil (thenN ?_)
    refine wp_seq (wp_seq (region_plain ?_))
    refine lq p0 S (q_move rfl) fun a S => ?_
    refine lq (.int .i64 x88) S (q_move rfl) fun a S => ?_
    obtain ⟨x171, e172, hm⟩ := bind_some hm
    obtain ⟨c173, h174, hat175⟩ := (h0).elem (idx_some e172).2
    obtain ⟨c178, c179, rfl, h180, h181⟩ := h174
    obtain rfl := h180
    obtain ⟨c182, c183, rfl, h184, h185⟩ := h181
    obtain rfl := h184
    obtain ⟨v176, rfl, h177⟩ := rd_list h185
    have hlt := lt_of_idx (idx_some e172).2
    refine lq (ePtr p0 (x88.toNat * 3)) S (q_indexAddr rfl (h0).isSl rfl (idx_some e172).1 hlt Try.underlying37 Try.sizeOf70) fun a S => ?_
    refine lq (pAdd (ePtr p0 (x88.toNat * 3)) 1) S (q_fieldAddr' 1 4 rfl ((hat175 0 _ rfl).isP) Try.underlying70 rfl Try.sizeOf4) fun a S => ?_
    refine lx_e (.bool x171.2.1) S trivial (by decide) rfl trivial (q_load1 rfl Try.isAgg4 (by rintro _ rfl; exact (At.of_add (m := 1) (j := 0) ((hat175 1 _ rfl).ext H.ext)))) (fun a S => ?_)
    refine lq (.int .i64 (W (x87 + (1 : Int)))) S (q_move rfl) fun a S => ?_
    refine lq (.int .i64 ((W (x87 + (1 : Int))).tmod (3 : Int))) S (q_rem rfl rfl (show (3 : Int) ≠ 0 from by decide)) fun a S => ?_
    refine lq (.bool (((W (x87 + (1 : Int))).tmod (3 : Int)) == (0 : Int))) S (q_eql rfl rfl) fun a S => ?_
    refine lq (.bool (x171.2.1 != (((W (x87 + (1 : Int))).tmod (3 : Int)) == (0 : Int)))) S (q_bneq rfl rfl Try.underlying4) fun a S => ?_
    refine lx_nil (thenN ?_)
    refine cond_b S rfl (fun hc186 => ?_) (fun hc186 => ?_)
    ·have hm := ite_t hc186 hm
     refine wp_seq (region_plain ?_)
     refine lq (.int .i64 (-1 : Int)) S (q_assign rfl) fun a S => ?_
     refine lx_nil (thenN ?_)
     refine wp_ret (then_ret ?_)
     refine inBlock_ret ?_
     refine then_ret ?_
     refine then_ret ?_
     refine inBlock_ret ?_
     refine then_ret ?_
     refine then_ret ?_
     obtain rfl := it_brk hm hc153
     have hm := ctl_inr hk150
     obtain rfl := Option.some.inj hm
     exact leave1 S rfl rfl ⟨rfl, H⟩
    ·have hm := ite_f hc186 hm
     refine wp_skip (thenN ?_)
     refine wp_seq (region_plain ?_)
     refine lq (.int .i64 (W (x87 + (1 : Int)))) S (q_move rfl) fun a S => ?_
     refine lq (.int .i64 (W ((W (x87 + (1 : Int))) + (1 : Int)))) S (q_add rfl rfl) fun a S => ?_
     refine lq (.int .i64 (W ((W (x87 + (1 : Int))) + (1 : Int)))) S (q_assign rfl) fun a S => ?_
     refine lx_nil (thenN ?_)
     refine wp_seq (region_plain ?_)
     refine lq p0 S (q_move rfl) fun a S => ?_
     refine lq (.int .i64 x88) S (q_move rfl) fun a S => ?_
     obtain ⟨x187, e188, hm⟩ := bind_some hm
     obtain ⟨c189, h190, hat191⟩ := (h0).elem (idx_some e188).2
     obtain ⟨c194, c195, rfl, h196, h197⟩ := h190
     obtain rfl := h196
     obtain ⟨c198, c199, rfl, h200, h201⟩ := h197
     obtain rfl := h200
     obtain ⟨v192, rfl, h193⟩ := rd_list h201
     have hlt := lt_of_idx (idx_some e188).2
     refine lq (ePtr p0 (x88.toNat * 3)) S (q_indexAddr rfl (h0).isSl rfl (idx_some e188).1 hlt Try.underlying37 Try.sizeOf70) fun a S => ?_
     refine lq (pAdd (ePtr p0 (x88.toNat * 3)) 2) S (q_fieldAddr' 2 38 rfl ((hat191 0 _ rfl).isP) Try.underlying70 rfl Try.sizeOf38) fun a S => ?_
     refine lx_e v192 S trivial (by decide) rfl trivial (q_load1 rfl Try.isAgg38 (by rintro _ rfl; exact (At.of_add (m := 2) (j := 0) ((hat191 2 _ rfl).ext H.ext)))) (fun a S => ?_)
     refine lq (.int .i64 (W ((W (x87 + (1 : Int))) + (1 : Int)))) S (q_move rfl) fun a S => ?_
     obtain ⟨x204, e205, hm⟩ := bind_some hm
     refine lx_call (xs := [.tmp 38, .tmp 39]) S trivial (by decide) rfl rfl Try.call26 ((laws_heldInt64S_ok (H.arg h193)  e205).mono ?_)
     rintro e w202 ⟨rfl, Hc203⟩
     have H := H.call0 Hc203
     refine ⟨_, rfl, trivial, fun a S => ?_⟩
     refine lq (.int .i64 x204) S (q_assign rfl) fun a S => ?_
     refine lx_nil (thenN ?_)
     refine wp_seq (region_plain ?_)
     refine lq (.int .i64 x204) S (q_move rfl) fun a S => ?_
     refine lq (.bool (decide (x204 < (0 : Int)))) S (q_lss rfl rfl) fun a S => ?_
     refine lx_nil (thenN ?_)
     refine cond_b S rfl (fun hc207 => ?_) (fun hc207 => ?_)
     ·have hm := ite_t hc207 hm
      refine wp_seq (region_plain ?_)
      refine lq (.int .i64 (-1 : Int)) S (q_assign rfl) fun a S => ?_
      refine lx_nil (thenN ?_)
      refine wp_ret (inBlock_ret ?_)
      refine then_ret ?_
      refine then_ret ?_
      refine inBlock_ret ?_
      refine then_ret ?_
      refine then_ret ?_
      obtain rfl := it_brk hm hc153
      have hm := ctl_inr hk150
      obtain rfl := Option.some.inj hm
      exact leave1 S rfl rfl ⟨rfl, H⟩
     ·have hm := ite_f hc207 hm
      refine wp_skip ?_
      refine inBlock_norm ?_
      refine thenN ?_
      refine region_plain ?_
      refine lq (.int .i64 x88) S (q_move rfl) fun a S => ?_
      refine lq (.int .i64 (W (x88 + (1 : Int)))) S (q_add rfl rfl) fun a S => ?_
      refine lq (.int .i64 (W (x88 + (1 : Int)))) S (q_assign rfl) fun a S => ?_
      refine lx_nil ?_
      exact ⟨m151, Nat.lt_succ_self _, x204, (W (x88 + (1 : Int))), S.sub ⟨rfl, rfl, rfl, trivial⟩, H, it_cont hm hc153⟩
  ·have hm := ite_f hc154 hm
   refine wp_exit ?_
   refine then_exit ?_
   refine then_exit ?_
   refine inBlock_exit ?_
   obtain rfl := it_brk hm hc153
   exact ⟨x87, S.sub ⟨rfl, trivial⟩, H, rfl⟩

/-- laws.FnExactEquationsOfGame -/
def laws_FnExactEquationsOfGame_m (fuel : Nat) (a0 : (List Tlaws_Vertex)) : Option (Bool) :=
  (laws_szVertexS_m fuel a0 (1048576 : Int)).bind fun x33 => (if (decide (x33 < (0 : Int))) = true then some (true) else (laws_toVertexS_m fuel a0).bind fun x39 => (spec_EquationsOfGame_m fuel x39).bind fun x46 => (laws_toVertexS_m fuel a0).bind fun x55 => (impl_EquationsOfGame_m fuel x55).bind fun x62 => (laws_eqEquationS_m fuel x62.1 x46.1).bind fun x71 => (if (!x71) = true then some true else (laws_eqInt64S_m fuel x62.2.1 x46.2.1).bind fun x79 => some (!x79)).bind fun t74 => (if t74 = true then some true else some (x62.2.2 != x46.2.2)).bind fun t82 => (if t82 = true then some (false) else (laws_toVertexS_m fuel a0).bind fun x88 => (laws_eqVertexS_m fuel x55 x88).bind fun x95 => (if (!x95) = true then some (false) else (laws_markVertexS_m fuel x55 (1 : Int)).bind fun x101 => (if (decide (x101.1 < (0 : Int))) = true then some true else (laws_eqEquationS_m fuel x62.1 x46.1).bind fun x108 => some (!x108)).bind fun t103 => (if t103 = true then some true else (laws_eqInt64S_m fuel x62.2.1 x46.2.1).bind fun x116 => some (!x116)).bind fun t111 => (if t111 = true then some true else some (x62.2.2 != x46.2.2)).bind fun t119 => (if t119 = true then some (false) else (laws_markEquationS_m fuel x62.1 (1 : Int)).bind fun x125 => (laws_markInt64S_m fuel x62.2.1 x125.1).bind fun x129 => (laws_heldEquationS_m fuel x125.2 (1 : Int)).bind fun x133 => (if (decide (x133 < (0 : Int))) = true then some (false) else (laws_heldInt64S_m fuel x129.2 x133).bind fun x139 => (if (decide (x139 < (0 : Int))) = true then some (false) else (if (x139 != x129.1) = true then some (false) else (laws_toVertexS_m fuel a0).bind fun x146 => (impl_EquationsOfGame_m fuel x146).bind fun x153 => (laws_eqEquationS_m fuel x153.1 x46.1).bind fun x162 => (if (!x162) = true then some true else (laws_eqInt64S_m fuel x153.2.1 x46.2.1).bind fun x170 => some (!x170)).bind fun t165 => (if t165 = true then some true else some (x153.2.2 != x46.2.2)).bind fun t173 => (if t173 = true then some (false) else (laws_heldEquationS_m fuel x125.2 (1 : Int)).bind fun x179 => (if (decide (x179 < (0 : Int))) = true then some (false) else (laws_heldInt64S_m fuel x129.2 x179).bind fun x185 => (if (decide (x185 < (0 : Int))) = true then some (false) else (if (x185 != x129.1) = true then some (false) else some (true))))))))))))
set_option maxRecDepth 20000 in
theorem laws_FnExactEquationsOfGame_ok [dr : Dr] {w0 : World} {fuel : Nat} {p0 : Value} {a0 : (List Tlaws_Vertex)} {r : Bool} (h0 : Rd (rList Rlaws_Vertex) w0 p0 a0) (hm : laws_FnExactEquationsOfGame_m fuel a0 = some r) :
  Calls Try.prog 5 #[p0] w0 fun e w => e = .returned (.bool r) ∧ Heap w0 [] w := by
 unfold laws_FnExactEquationsOfGame_m at hm
 have H := Heap.start w0
 refine enter (args := [p0]) Try.func5 rfl 133 rfl (Nat.le_of_ble_eq_true rfl) (fun a S => ?_)
 refine wp_seq (region_plain ?_)
 refine lq (.bool false) S (q_assign rfl) fun a S => ?_
 refine lx_nil (thenN ?_)
 refine wp_seq (region_plain ?_)
 refine lq (.int .i64 (1048576 : Int)) S (q_assign rfl) fun a S => ?_
 refine lx_nil (thenN ?_)
 refine wp_seq (region_plain ?_)
 refine lq p0 S (q_move rfl) fun a S => ?_
 refine lq (.int .i64 (1048576 : Int)) S (q_move rfl) fun a S => ?_
 obtain ⟨x33, e34, hm⟩ := bind_some hm
 refine lx_call (xs := [.tmp 17, .tmp 18]) S trivial (by decide) rfl rfl Try.call6 ((laws_szVertexS_ok (H.arg h0)  e34).mono ?_)
 rintro e w31 ⟨rfl, Hc32⟩
 have H := H.call0 Hc32
 refine ⟨_, rfl, trivial, fun a S => ?_⟩
 refine lq (.int .i64 x33) S (q_assign rfl) fun a S => ?_
 refine lx_nil (thenN ?_)
 refine wp_seq (wp_seq (region_plain ?_))
 refine lq (.int .i64 x33) S (q_move rfl) fun a S => ?_
 refine lq (.bool (decide (x33 < (0 : Int)))) S (q_lss rfl rfl) fun a S => ?_
 refine lx_nil (thenN ?_)
 refine cond_b S rfl (fun hc36 => ?_) (fun hc36 => ?_)
 ·have hm := ite_t hc36 hm
  refine wp_seq (region_plain ?_)
  refine lq (.bool true) S (q_assign rfl) fun a S => ?_
  refine lx_nil (thenN ?_)
  refine wp_ret (then_ret ?_)
  obtain rfl := Option.some.inj hm
  exact leave1 S rfl rfl ⟨rfl, H⟩
 ·have hm := ite_f hc36 hm
  refine wp_skip (thenN ?_)
  refine wp_seq (region_plain ?_)
  refine lq p0 S (q_move rfl) fun a S => ?_
  obtain ⟨x39, e40, hm⟩ := bind_some hm
  refine lx_call (xs := [.tmp 23]) S trivial (by decide) rfl rfl Try.call9 ((laws_toVertexS_ok (H.arg h0) e40).mono ?_)
  rintro e w37 ⟨v41, rfl, Hc38⟩
  have H := H.call1 Hc38
  refine ⟨_, rfl, trivial, fun a S => ?_⟩
  obtain ⟨x46, e47, hm⟩ := bind_some hm
  refine lx_call (xs := [.tmp 24]) S trivial (by decide) rfl rfl Try.call19 ((spec_EquationsOfGame_ok (H.rdAt 0 rfl) e47).mono ?_)
  rintro e w44 ⟨v48, v49, rfl, Hc45⟩
  have H := H.call2 Hc45
  refine ⟨_, rfl, trivial, fun a S => ?_⟩
  refine lq (.tuple #[v48, v49, (.int .i64 x46.2.2)]) S (q_move rfl) fun a S => ?_
  refine lq v48 S (q_extract rfl rfl) fun a S => ?_
  refine lq v49 S (q_extract rfl rfl) fun a S => ?_
  refine lq (.int .i64 x46.2.2) S (q_extract rfl rfl) fun a S => ?_
  refine lq v48 S (q_assign rfl) fun a S => ?_
  refine lq v49 S (q_assign rfl) fun a S => ?_
  refine lq (.int .i64 x46.2.2) S (q_assign rfl) fun a S => ?_
  refine lx_nil (thenN ?_)
  refine wp_seq (region_plain ?_)
  refine lq p0 S (q_move rfl) fun a S => ?_
  obtain ⟨x55, e56, hm⟩ := bind_some hm
  refine lx_call (xs := [.tmp 29]) S trivial (by decide) rfl rfl Try.call9 ((laws_toVertexS_ok (H.arg h0) e56).mono ?_)
  rintro e w53 ⟨v57, rfl, Hc54⟩
  have H := H.call1 Hc54
  refine ⟨_, rfl, trivial, fun a S => ?_⟩
  refine lq v57 S (q_assign rfl) fun a S => ?_
  refine lx_nil (thenN ?_)
  refine wp_seq (region_plain ?_)
  refine lq v57 S (q_move rfl) fun a S => ?_
  obtain ⟨x62, e63, hm⟩ := bind_some hm
  refine lx_call (xs := [.tmp 32]) S trivial (by decide) rfl rfl Try.call20 ((impl_EquationsOfGame_ok (H.rdAt 0 rfl) e63).mono ?_)
  rintro e w60 ⟨v64, v65, rfl, Hc61⟩
  have H := H.call2 Hc61
  refine ⟨_, rfl, trivial, fun a S => ?_⟩
  refine lq (.tuple #[v64, v65, (.int .i64 x62.2.2)]) S (q_move rfl) fun a S => ?_
  refine lq v64 S (q_extract rfl rfl) fun a S => ?_
  refine lq v65 S (q_extract rfl rfl) fun a S => ?_
  refine lq (.int .i64 x62.2.2) S (q_extract rfl rfl) fun a S => ?_
  refine lq v64 S (q_assign rfl) fun a S => ?_
  refine lq v65 S (q_assign rfl) fun a S => ?_
  refine lq (.int .i64 x62.2.2) S (q_assign rfl) fun a S => ?_
  refine lx_nil (thenN ?_)
  refine wp_seq (wp_seq (region_plain ?_))
  refine lq v64 S (q_move rfl) fun a S => ?_
  refine lq v48 S (q_move rfl) fun a S => ?_
  obtain ⟨x71, e72, hm⟩ := bind_some hm
  refine lx_call (xs := [.tmp 37, .tmp 38]) S trivial (by decide) rfl rfl Try.call21 ((laws_eqEquationS_ok (H.rdAt 0 rfl) (H.rdAt 3 rfl) e72).mono ?_)
  rintro e w69 ⟨rfl, Hc70⟩
  have H := H.call0 Hc70
  refine ⟨_, rfl, trivial, fun a S => ?_⟩
  refine lq (.bool (!x71)) S (q_not rfl) fun a S => ?_
  refine lq (.bool (!x71)) S (q_move rfl) fun a S => ?_
  obtain ⟨t74, e75, hm⟩ := bind_some hm
  refine lx_cut 5 (fun a w => Slots a 133 [(0, p0), (4, v48), (5, v49), (6, (.int .i64 x46.2.2)), (7, v57), (8, v64), (9, v65), (10, (.int .i64 x62.2.2)), (46, (.bool t74))] ∧ Heap w0 [oA (rList Rimpl_Equation) v64 x62.1, oA (rList (rInt .i64)) v65 x62.2.1, oA (rList Rimpl_Vertex) v57 x55, oA (rList Rimpl_Equation) v48 x46.1, oA (rList (rInt .i64)) v49 x46.2.1] w) ?_ ?_
  ·by_cases hc76 : (!x71) = true
   ·have hm := ite_t hc76 e75
    refine lx_skip S rfl rfl (isB_ne hc76) (by decide) (fun a S => ?_)
    refine lx_skip S rfl rfl (isB_ne hc76) (by decide) (fun a S => ?_)
    refine lx_skip S rfl rfl (isB_ne hc76) (by decide) (fun a S => ?_)
    refine lx_skip S rfl rfl (isB_ne hc76) (by decide) (fun a S => ?_)
    refine lq (.bool true) S (q_pickT' rfl hc76 rfl) fun a S => ?_
    refine lx_nil ?_
    obtain rfl := Option.some.inj hm
    have H := H.sel [0, 1, 2, 3, 4] (by decide)
    exact ⟨S.sub ⟨rfl, rfl, rfl, rfl, rfl, rfl, rfl, rfl, rfl, trivial⟩, H⟩
   ·have hm := ite_f (eq_false_of_ne_true hc76) e75
    have hc76 : (!x71) = false := eq_false_of_ne_true hc76
    refine lx_q v65 S (want_b rfl rfl hc76) (by decide) (q_move rfl) (fun a S => ?_)
    refine lx_q v49 S (want_b rfl rfl hc76) (by decide) (q_move rfl) (fun a S => ?_)
    obtain ⟨x79, e80, hm⟩ := bind_some hm
    refine lx_call (xs := [.tmp 42, .tmp 43]) S (want_b rfl rfl hc76) (by decide) rfl rfl Try.call22 ((laws_eqInt64S_ok (H.rdAt 1 rfl) (H.rdAt 4 rfl) e80).mono ?_)
    rintro e w77 ⟨rfl, Hc78⟩
    have H := H.call0 Hc78
    refine ⟨_, rfl, trivial, fun a S => ?_⟩
    refine lx_q (.bool (!x79)) S (want_b rfl rfl hc76) (by decide) (q_not rfl) (fun a S => ?_)
    refine lq (.bool (!x79)) S (q_pickF' rfl hc76 rfl) fun a S => ?_
    refine lx_nil ?_
    obtain rfl := Option.some.inj hm
    have H := H.sel [0, 1, 2, 3, 4] (by decide)
    exact ⟨S.sub ⟨rfl, rfl, rfl, rfl, rfl, rfl, rfl, rfl, rfl, trivial⟩, H⟩
  ·rintro a w ⟨S, H⟩
   refine lq (.bool t74) S (q_move rfl) fun a S => ?_
   obtain ⟨t82, e83, hm⟩ := bind_some hm
   refine lx_cut 4 (fun a w => Slots a 133 [(0, p0), (4, v48), (5, v49), (6, (.int .i64 x46.2.2)), (7, v57), (8, v64), (9, v65), (10, (.int .i64 x62.2.2)), (51, (.bool t82))] ∧ Heap w0 [oA (rList Rimpl_Equation) v64 x62.1, oA (rList (rInt .i64)) v65 x62.2.1, oA (rList Rimpl_Vertex) v57 x55, oA (rList Rimpl_Equation) v48 x46.1, oA (rList (rInt .i64)) v49 x46.2.1] w) ?_ ?_
   ·by_cases hc84 : t74 = true
    ·have hm := ite_t hc84 e83
     refine lx_skip S rfl rfl (isB_ne hc84) (by decide) (fun a S => ?_)
     refine lx_skip S rfl rfl (isB_ne hc84) (by decide) (fun a S => ?_)
     refine lx_skip S rfl rfl (isB_ne hc84) (by decide) (fun a S => ?_)
     refine lq (.bool true) S (q_pickT' rfl hc84 rfl) fun a S => ?_
     refine lx_nil ?_
     obtain rfl := Option.some.inj hm
     exact ⟨S.sub ⟨rfl, rfl, rfl, rfl, rfl, rfl, rfl, rfl, rfl, trivial⟩, H⟩
    ·have hm := ite_f (eq_false_of_ne_true hc84) e83
     have hc84 : t74 = false := eq_false_of_ne_true hc84
     refine lx_q (.int .i64 x62.2.2) S (want_b rfl rfl hc84) (by decide) (q_move rfl) (fun a S => ?_)
     refine lx_q (.int .i64 x46.2.2) S (want_b rfl rfl hc84) (by decide) (q_move rfl) (fun a S => ?_)
     refine lx_q (.bool (x62.2.2 != x46.2.2)) S (want_b rfl rfl hc84) (by decide) (q_neq rfl rfl) (fun a S => ?_)
     refine lq (.bool (x62.2.2 != x46.2.2)) S (q_pickF' rfl hc84 rfl) fun a S => ?_
     refine lx_nil ?_
     obtain rfl := Option.some.inj hm
     exact ⟨S.sub ⟨rfl, rfl, rfl, rfl, rfl, rfl, rfl, rfl, rfl, trivial⟩, H⟩
   ·rintro a w ⟨S, H⟩
    refine lx_nil (thenN ?_)
    refine cond_b S rfl (fun hc85 => ?_) (fun hc85 => ?_)
    ·have hm := ite_t hc85 hm
     refine wp_seq (region_plain ?_)
     refine lq (.bool false) S (q_assign rfl) fun a S => ?_
     refine lx_nil (thenN ?_)
     refine wp_ret (then_ret ?_)
     obtain rfl := Option.some.inj hm
     have H : Heap w0 [] w := H.sel [] (by decide)
     exact leave1 S rfl rfl ⟨rfl, H⟩
    ·have hm := ite_f hc85 hm
     refine wp_skip (thenN ?_)
     refine wp_seq (wp_seq (region_plain ?_))
     refine lq v57 S (q_move rfl) fun a S => ?_
     refine lq p0 S (q_move rfl) fun a S => ?_
     obtain ⟨x88, e89, hm⟩ := bind_some hm
     refine lx_call (xs := [.tmp 53]) S trivial (by decide) rfl rfl Try.call9 ((laws_toVertexS_ok (H.arg h0) e89).mono ?_)
     rintro e w86 ⟨v90, rfl, Hc87⟩
     have H := H.call1 Hc87
     refine ⟨_, rfl, trivial, fun a S => ?_⟩
     obtain ⟨x95, e96, hm⟩ := bind_some hm
     refine lx_call (xs := [.tmp 52, .tmp 54]) S trivial (by decide) rfl rfl Try.call12 ((laws_eqVertexS_ok (H.rdAt 3 rfl) (H.rdAt 0 rfl) e96).mono ?_)
     rintro e w93 ⟨rfl, Hc94⟩
     have H := H.call0 Hc94
     refine ⟨_, rfl, trivial, fun a S => ?_⟩
     refine lq (.bool (!x95)) S (q_not rfl) fun a S => ?_
     refine lx_nil (thenN ?_)
     refine cond_b S rfl (fun hc98 => ?_) (fun hc98 => ?_)
     ·have hm := ite_t hc98 hm
      refine wp_seq (region_plain ?_)
      refine lq (.bool false) S (q_assign rfl) fun a S => ?_
      refine lx_nil (thenN ?_)
      refine wp_ret (then_ret ?_)
      obtain rfl := Option.some.inj hm
      have H : Heap w0 [] w93 := H.sel [] (by decide)
      exact leave1 S rfl rfl ⟨rfl, H⟩
     ·have hm := ite_f hc98 hm
      refine wp_skip (thenN ?_)
      refine wp_seq (region_plain ?_)
      refine lq (.int .i64 (1 : Int)) S (q_assign rfl) fun a S => ?_
      refine lx_nil (thenN ?_)
      refine wp_seq (region_plain ?_)
      refine lq v57 S (q_move rfl) fun a S => ?_
      refine lq (.int .i64 (1 : Int)) S (q_move rfl) fun a S => ?_
      obtain ⟨x101, e102, hm⟩ := bind_some hm
      have H : Heap w0 [oA (rList Rimpl_Vertex) v57 x55, oA (rList Rimpl_Vertex) v90 x88, oA (rList Rimpl_Equation) v64 x62.1, oA (rList (rInt .i64)) v65 x62.2.1, oA (rList Rimpl_Equation) v48 x46.1, oA (rList (rInt .i64)) v49 x46.2.1] w93 := H.front 3 rfl
      refine lx_call (xs := [.tmp 57, .tmp 58]) S trivial (by decide) rfl rfl Try.call16 ((laws_markVertexS_ok H  e102).mono ?_)
      rintro e w99 ⟨rfl, H⟩
      refine ⟨_, rfl, trivial, fun a S => ?_⟩
      refine lq (.int .i64 x101.1) S (q_assign rfl) fun a S => ?_
      refine lx_nil (thenN ?_)
      refine wp_seq (wp_seq (region_plain ?_))
      refine lq (.int .i64 x101.1) S (q_move rfl) fun a S => ?_
      refine lq (.bool (decide (x101.1 < (0 : Int)))) S (q_lss rfl rfl) fun a S => ?_
      refine lq (.bool (decide (x101.1 < (0 : Int)))) S (q_move rfl) fun a S => ?_
      obtain ⟨t103, e104, hm⟩ := bind_some hm
      refine lx_cut 5 (fun a w => Slots a 133 [(0, p0), (4, v48), (5, v49), (6, (.int .i64 x46.2.2)), (8, v64), (9, v65), (10, (.int .i64 x62.2.2)), (67, (.bool t103))] ∧ Heap w0 [oA (rList Rimpl_Equation) v64 x62.1, oA (rList (rInt .i64)) v65 x62.2.1, oA (rList Rimpl_Equation) v48 x46.1, oA (rList (rInt .i64)) v49 x46.2.1] w) ?_ ?_
      ·by_cases hc105 : (decide (x101.1 < (0 : Int))) = true
       ·have hm := ite_t hc105 e104
        refine lx_skip S rfl rfl (isB_ne hc105) (by decide) (fun a S => ?_)
        refine lx_skip S rfl rfl (isB_ne hc105) (by decide) (fun a S => ?_)
        refine lx_skip S rfl rfl (isB_ne hc105) (by decide) (fun a S => ?_)
        refine lx_skip S rfl rfl (isB_ne hc105) (by decide) (fun a S => ?_)
        refine lq (.bool true) S (q_pickT' rfl hc105 rfl) fun a S => ?_
        refine lx_nil ?_
        obtain rfl := Option.some.inj hm
        have H := H.sel [2, 3, 4, 5] (by decide)
        exact ⟨S.sub ⟨rfl, rfl, rfl, rfl, rfl, rfl, rfl, rfl, trivial⟩, H⟩
       ·have hm := ite_f (eq_false_of_ne_true hc105) e104
        have hc105 : (decide (x101.1 < (0 : Int))) = false := eq_false_of_ne_true hc105
        refine lx_q v64 S (want_b rfl rfl hc105) (by decide) (q_move rfl) (fun a S => ?_)
        refine lx_q v48 S (want_b rfl rfl hc105) (by decide) (q_move rfl) (fun a S => ?_)
        obtain ⟨x108, e109, hm⟩ := bind_some hm
        refine lx_call (xs := [.tmp 63, .tmp 64]) S (want_b rfl rfl hc105) (by decide) rfl rfl Try.call21 ((laws_eqEquationS_ok (H.rdAt 2 rfl) (H.rdAt 4 rfl) e109).mono ?_)
        rintro e w106 ⟨rfl, Hc107⟩
        have H := H.call0 Hc107
        refine ⟨_, rfl, trivial, fun a S => ?_⟩
        refine lx_q (.bool (!x108)) S (want_b rfl rfl hc105) (by decide) (q_not rfl) (fun a S => ?_)
        refine lq (.bool (!x108)) S (q_pickF' rfl hc105 rfl) fun a S => ?_
        refine lx_nil ?_
        obtain rfl := Option.some.inj hm
        have H := H.sel [2, 3, 4, 5] (by decide)
        exact ⟨S.sub ⟨rfl, rfl, rfl, rfl, rfl, rfl, rfl, rfl, trivial⟩, H⟩
      ·rintro a w ⟨S, H⟩
       refine lq (.bool t103) S (q_move rfl) fun a S => ?_
       obtain ⟨t111, e112, hm⟩ := bind_some hm
       refine lx_cut 5 (fun a w => Slots a 133 [(0, p0), (4, v48), (5, v49), (6, (.int .i64 x46.2.2)), (8, v64), (9, v65), (10, (.int .i64 x62.2.2)), (73, (.bool t111))] ∧ Heap w0 [oA (rList Rimpl_Equation) v64 x62.1, oA (rList (rInt .i64)) v65 x62.2.1, oA (rList Rimpl_Equation) v48 x46.1, oA (rList (rInt .i64)) v49 x46.2.1] w) ?_ ?_
       ·by_cases hc113 : t103 = true
        ·have hm := ite_t hc113 e112
         refine lx_skip S rfl rfl (isB_ne hc113) (by decide) (fun a S => ?_)
         refine lx_skip S rfl rfl (isB_ne hc113) (by decide) (fun a S => ?_)
         refine lx_skip S rfl rfl (isB_ne hc113) (by decide) (fun a S => ?_)
         refine lx_skip S rfl rfl (isB_ne hc113) (by decide) (fun a S => ?_)
         refine lq (.bool true) S (q_pickT' rfl hc113 rfl) fun a S => ?_
         refine lx_nil ?_
         obtain rfl := Option.some.inj hm
         exact ⟨S.sub ⟨rfl, rfl, rfl, rfl, rfl, rfl, rfl, rfl, trivial⟩, H⟩
        ·have hm := ite_f (eq_false_of_ne_true hc113) e112
         have hc113 : t103 = false := eq_false_of_ne_true hc113
         refine lx_q v65 S (want_b rfl rfl hc113) (by decide) (q_move rfl) (fun a S => ?_)
         refine lx_q v49 S (want_b rfl rfl hc113) (by decide) (q_move rfl) (fun a S => ?_)
         obtain ⟨x116, e117, hm⟩ := bind_some hm
         refine lx_call (xs := [.tmp 69, .tmp 70]) S (want_b rfl rfl hc113) (by decide) rfl rfl Try.call22 ((laws_eqInt64S_ok (H.rdAt 1 rfl) (H.rdAt 3 rfl) e117).mono ?_)
         rintro e w114 ⟨rfl, Hc115⟩
         have H := H.call0 Hc115
         refine ⟨_, rfl, trivial, fun a S => ?_⟩
         refine lx_q (.bool (!x116)) S (want_b rfl rfl hc113) (by decide) (q_not rfl) (fun a S => ?_)
         refine lq (.bool (!x116)) S (q_pickF' rfl hc113 rfl) fun a S => ?_
         refine lx_nil ?_
         obtain rfl := Option.some.inj hm
         exact ⟨S.sub ⟨rfl, rfl, rfl, rfl, rfl, rfl, rfl, rfl, trivial⟩, H⟩
       ·rintro a w ⟨S, H⟩
        refine lq (.bool t111) S (q_move rfl) fun a S => ?_
        obtain ⟨t119, e120, hm⟩ := bind_some hm
        refine lx_cut 4 (fun a w => Slots a 133 [(0, p0), (4, v48), (5, v49), (6, (.int .i64 x46.2.2)), (8, v64), (9, v65), (78, (.bool t119))] ∧ Heap w0 [oA (rList Rimpl_Equation) v64 x62.1, oA (rList (rInt .i64)) v65 x62.2.1, oA (rList Rimpl_Equation) v48 x46.1, oA (rList (rInt .i64)) v49 x46.2.1] w) ?_ ?_
        ·by_cases hc121 : t111 = true
         ·have hm := ite_t hc121 e120
          refine lx_skip S rfl rfl (isB_ne hc121) (by decide) (fun a S => ?_)
          refine lx_skip S rfl rfl (isB_ne hc121) (by decide) (fun a S => ?_)
          refine lx_skip S rfl rfl (isB_ne hc121) (by decide) (fun a S => ?_)
          refine lq (.bool true) S (q_pickT' rfl hc121 rfl) fun a S => ?_
          refine lx_nil ?_
          obtain rfl := Option.some.inj hm
          exact ⟨S.sub ⟨rfl, rfl, rfl, rfl, rfl, rfl, rfl, trivial⟩, H⟩
         ·have hm := ite_f (eq_false_of_ne_true hc121) e120
          have hc121 : t111 = false := eq_false_of_ne_true hc121
          refine lx_q (.int .i64 x62.2.2) S (want_b rfl rfl hc121) (by decide) (q_move rfl) (fun a S => ?_)
          refine lx_q (.int .i64 x46.2.2) S (want_b rfl rfl hc121) (by decide) (q_move rfl) (fun a S => ?_)
          refine lx_q (.bool (x62.2.2 != x46.2.2)) S (want_b rfl rfl hc121) (by decide) (q_neq rfl rfl) (fun a S => ?_)
          refine lq (.bool (x62.2.2 != x46.2.2)) S (q_pickF' rfl hc121 rfl) fun a S => ?_
          refine lx_nil ?_
          obtain rfl := Option.some.inj hm
          exact ⟨S.sub ⟨rfl, rfl, rfl, rfl, rfl, rfl, rfl, trivial⟩, H⟩
        ·rintro a w ⟨S, H⟩
         refine lx_nil (thenN ?_)
         refine cond_b S rfl (fun hc122 => ?_) (fun hc122 => ?_)
         ·have hm := ite_t hc122 hm
          refine wp_seq (region_plain ?_)
          refine lq (.bool false) S (q_assign rfl) fun a S => ?_
          refine lx_nil (thenN ?_)
          refine wp_ret (then_ret ?_)
          obtain rfl := Option.some.inj hm
          have H : Heap w0 [] w := H.sel [] (by decide)
          exact leave1 S rfl rfl ⟨rfl, H⟩
         ·have hm := ite_f hc122 hm
          refine wp_skip (thenN ?_)
          refine wp_seq (region_plain ?_)
          refine lq (.int .i64 (1 : Int)) S (q_assign rfl) fun a S => ?_
          refine lx_nil (thenN ?_)
          refine wp_seq (region_plain ?_)
          refine lq v64 S (q_move rfl) fun a S => ?_
          refine lq (.int .i64 (1 : Int)) S (q_move rfl) fun a S => ?_
          obtain ⟨x125, e126, hm⟩ := bind_some hm
          refine lx_call (xs := [.tmp 79, .tmp 80]) S trivial (by decide) rfl rfl Try.call23 ((laws_markEquationS_ok H  e126).mono ?_)
          rintro e w123 ⟨rfl, H⟩
          refine ⟨_, rfl, trivial, fun a S => ?_⟩
          refine lq (.int .i64 x125.1) S (q_assign rfl) fun a S => ?_
          refine lx_nil (thenN ?_)
          refine wp_seq (region_plain ?_)
          refine lq v65 S (q_move rfl) fun a S => ?_
          refine lq (.int .i64 x125.1) S (q_move rfl) fun a S => ?_
          obtain ⟨x129, e130, hm⟩ := bind_some hm
          have H : Heap w0 [oA (rList (rInt .i64)) v65 x62.2.1, oA (rList Rimpl_Equation) v64 x125.2, oA (rList Rimpl_Equation) v48 x46.1, oA (rList (rInt .i64)) v49 x46.2.1] w123 := H.front 1 rfl
          refine lx_call (xs := [.tmp 82, .tmp 83]) S trivial (by decide) rfl rfl Try.call24 ((laws_markInt64S_ok H  e130).mono ?_)
          rintro e w127 ⟨rfl, H⟩
          refine ⟨_, rfl, trivial, fun a S => ?_⟩
          refine lq (.int .i64 x129.1) S (q_assign rfl) fun a S => ?_
          refine lx_nil (thenN ?_)
          refine wp_seq (region_plain ?_)
          refine lq (.int .i64 (1 : Int)) S (q_assign rfl) fun a S => ?_
          refine lx_nil (thenN ?_)
          refine wp_seq (region_plain ?_)
          refine lq v64 S (q_move rfl) fun a S => ?_
          refine lq (.int .i64 (1 : Int)) S (q_move rfl) fun a S => ?_
          obtain ⟨x133, e134, hm⟩ := bind_some hm
          refine lx_call (xs := [.tmp 85, .tmp 86]) S trivial (by decide) rfl rfl Try.call25 ((laws_heldEquationS_ok (H.rdAt 1 rfl)  e134).mono ?_)
          rintro e w131 ⟨rfl, Hc132⟩
          have H := H.call0 Hc132
          refine ⟨_, rfl, trivial, fun a S => ?_⟩
          refine lq (.int .i64 x133) S (q_assign rfl) fun a S => ?_
          refine lx_nil (thenN ?_)
          refine wp_seq (wp_seq (region_plain ?_))
          refine lq (.int .i64 x133) S (q_move rfl) fun a S => ?_
          refine lq (.bool (decide (x133 < (0 : Int)))) S (q_lss rfl rfl) fun a S => ?_
          refine lx_nil (thenN ?_)
          refine cond_b S rfl (fun hc136 => ?_) (fun hc136 => ?_)
          ·have hm := ite_t hc136 hm
           refine wp_seq (region_plain ?_)
           refine lq (.bool false) S (q_assign rfl) fun a S => ?_
           refine lx_nil (thenN ?_)
           refine wp_ret (then_ret ?_)
           obtain rfl := Option.some.inj hm
           have H : Heap w0 [] w131 := H.sel [] (by decide)
           exact leave1 S rfl rfl ⟨rfl, H⟩
          ·have hm := ite_f hc136 hm
           refine wp_skip (thenN ?_)
           refine wp_seq (region_plain ?_)
           refine lq v65 S (q_move rfl) fun a S => ?_
           refine lq (.int .i64 x133) S (q_move rfl) fun a S => ?_
           obtain ⟨x139, e140, hm⟩ := bind_some hm
           refine lx_call (xs := [.tmp 90, .tmp 91]) S trivial (by decide) rfl rfl Try.call26 ((laws_heldInt64S_ok (H.rdAt 0 rfl)  e140).mono ?_)
           rintro e w137 ⟨rfl, Hc138⟩
           have H := H.call0 Hc138
           refine ⟨_, rfl, trivial, fun a S => ?_⟩
           refine lq (.int .i64 x139) S (q_assign rfl) fun a S => ?_
           refine lx_nil (thenN ?_)
           refine wp_seq (wp_seq (region_plain ?_))
           refine lq (.int .i64 x139) S (q_move rfl) fun a S => ?_
           refine lq (.bool (decide (x139 < (0 : Int)))) S (q_lss rfl rfl) fun a S => ?_
           refine lx_nil (thenN ?_)
           refine cond_b S rfl (fun hc142 => ?_) (fun hc142 => ?_)
           ·have hm := ite_t hc142 hm
            refine wp_seq (region_plain ?_)
            refine lq (.bool false) S (q_assign rfl) fun a S => ?_
            refine lx_nil (thenN ?_)
            refine wp_ret (then_ret ?_)
            obtain rfl := Option.some.inj hm
            have H : Heap w0 [] w137 := H.sel [] (by decide)
            exact leave1 S rfl rfl ⟨rfl, H⟩
           ·have hm := ite_f hc142 hm
            refine wp_skip (thenN ?_)
            refine wp_seq (wp_seq (region_plain ?_))
            refine lq (.int .i64 x139) S (q_move rfl) fun a S => ?_
            refine lq (.int .i64 x129.1) S (q_move rfl) fun a S => ?_
            refine lq (.bool (x139 != x129.1)) S (q_neq rfl rfl) fun a S => ?_
            refine lx_nil (thenN ?_)
            refine cond_b S rfl (fun hc143 => ?_) (fun hc143 => ?_)
            ·have hm := ite_t hc143 hm
             refine wp_seq (region_plain ?_)
             refine lq (.bool false) S (q_assign rfl) fun a S => ?_
             refine lx_nil (thenN ?_)
             refine wp_ret (then_ret ?_)
             obtain rfl := Option.some.inj hm
             have H : Heap w0 [] w137 := H.sel [] (by decide)
             exact leave1 S rfl rfl ⟨rfl, H⟩
            ·have hm := ite_f hc143 hm
             refine wp_skip (thenN ?_)
             refine wp_seq (region_plain ?_)
             refine lq p0 S (q_move rfl) fun a S => ?_
             obtain ⟨x146, e147, hm⟩ := bind_some hm
             refine lx_call (xs := [.tmp 99]) S trivial (by decide) rfl rfl Try.call9 ((laws_toVertexS_ok (H.arg h0) e147).mono ?_)
             rintro e w144 ⟨v148, rfl, Hc145⟩
             have H := H.call1 Hc145
             refine ⟨_, rfl, trivial, fun a S => ?_⟩
             obtain ⟨x153, e154, hm⟩ := bind_some hm
             refine lx_call (xs := [.tmp 100]) S trivial (by decide) rfl rfl Try.call20 ((impl_EquationsOfGame_ok (H.rdAt 0 rfl) e154).mono ?_)
             rintro e w151 ⟨v155, v156, rfl, Hc152⟩
             have H := H.call2 Hc152
             refine ⟨_, rfl, trivial, fun a S => ?_⟩
             refine lq (.tuple #[v155, v156, (.int .i64 x153.2.2)]) S (q_move rfl) fun a S => ?_
             refine lq v155 S (q_extract rfl rfl) fun a S => ?_
             refine lq v156 S (q_extract rfl rfl) fun a S => ?_
             refine lq (.int .i64 x153.2.2) S (q_extract rfl rfl) fun a S => ?_
             refine lq v155 S (q_assign rfl) fun a S => ?_
             refine lq v156 S (q_assign rfl) fun a S => ?_
             refine lq (.int .i64 x153.2.2) S (q_assign rfl) fun a S => ?_
             refine lx_nil (thenN ?_)
             refine wp_seq (wp_seq (region_plain ?_))
             refine lq v155 S (q_move rfl) fun a S => ?_
             refine lq v48 S (q_move rfl) fun a S => ?_
             obtain ⟨x162, e163, hm⟩ := bind_some hm
             refine lx_call (xs := [.tmp 105, .tmp 106]) S trivial (by decide) rfl rfl Try.call21 ((laws_eqEquationS_ok (H.rdAt 0 rfl) (H.rdAt 5 rfl) e163).mono ?_)
             rintro e w160 ⟨rfl, Hc161⟩
             have H := H.call0 Hc161
             refine ⟨_, rfl, trivial, fun a S => ?_⟩
             refine lq (.bool (!x162)) S (q_not rfl) fun a S => ?_
             refine lq (.bool (!x162)) S (q_move rfl) fun a S => ?_
             obtain ⟨t165, e166, hm⟩ := bind_some hm
             refine lx_cut 5 (fun a w => Slots a 133 [(6, (.int .i64 x46.2.2)), (8, v64), (9, v65), (12, (.int .i64 x129.1)), (16, (.int .i64 x153.2.2)), (114, (.bool t165))] ∧ Heap w0 [oA (rList (rInt .i64)) v65 x129.2, oA (rList Rimpl_Equation) v64 x125.2] w) ?_ ?_
             ·by_cases hc167 : (!x162) = true
              ·have hm := ite_t hc167 e166
               refine lx_skip S rfl rfl (isB_ne hc167) (by decide) (fun a S => ?_)
               refine lx_skip S rfl rfl (isB_ne hc167) (by decide) (fun a S => ?_)
               refine lx_skip S rfl rfl (isB_ne hc167) (by decide) (fun a S => ?_)
               refine lx_skip S rfl rfl (isB_ne hc167) (by decide) (fun a S => ?_)
               refine lq (.bool true) S (q_pickT' rfl hc167 rfl) fun a S => ?_
               refine lx_nil ?_
               obtain rfl := Option.some.inj hm
               have H := H.sel [3, 4] (by decide)
               exact ⟨S.sub ⟨rfl, rfl, rfl, rfl, rfl, rfl, trivial⟩, H⟩
              ·have hm := ite_f (eq_false_of_ne_true hc167) e166
               have hc167 : (!x162) = false := eq_false_of_ne_true hc167
               refine lx_q v156 S (want_b rfl rfl hc167) (by decide) (q_move rfl) (fun a S => ?_)
               refine lx_q v49 S (want_b rfl rfl hc167) (by decide) (q_move rfl) (fun a S => ?_)
               obtain ⟨x170, e171, hm⟩ := bind_some hm
               refine lx_call (xs := [.tmp 110, .tmp 111]) S (want_b rfl rfl hc167) (by decide) rfl rfl Try.call22 ((laws_eqInt64S_ok (H.rdAt 1 rfl) (H.rdAt 6 rfl) e171).mono ?_)
               rintro e w168 ⟨rfl, Hc169⟩
               have H := H.call0 Hc169
               refine ⟨_, rfl, trivial, fun a S => ?_⟩
               refine lx_q (.bool (!x170)) S (want_b rfl rfl hc167) (by decide) (q_not rfl) (fun a S => ?_)
               refine lq (.bool (!x170)) S (q_pickF' rfl hc167 rfl) fun a S => ?_
               refine lx_nil ?_
               obtain rfl := Option.some.inj hm
               have H := H.sel [3, 4] (by decide)
               exact ⟨S.sub ⟨rfl, rfl, rfl, rfl, rfl, rfl, trivial⟩, H⟩
             ·rintro a w ⟨S, H⟩
              refine lq (.bool t165) S (q_move rfl) fun a S => ?_
              obtain ⟨t173, e174, hm⟩ := bind_some hm
              refine lx_cut 4 (fun a w => Slots a 133 [(8, v64), (9, v65), (12, (.int .i64 x129.1)), (119, (.bool t173))] ∧ Heap w0 [oA (rList (rInt .i64)) v65 x129.2, oA (rList Rimpl_Equation) v64 x125.2] w) ?_ ?_
              ·by_cases hc175 : t165 = true
               ·have hm := ite_t hc175 e174
                refine lx_skip S rfl rfl (isB_ne hc175) (by decide) (fun a S => ?_)
                refine lx_skip S rfl rfl (isB_ne hc175) (by decide) (fun a S => ?_)
                refine lx_skip S rfl rfl (isB_ne hc175) (by decide) (fun a S => ?_)
                refine lq (.bool true) S (q_pickT' rfl hc175 rfl) fun a S => ?_
                refine lx_nil ?_
                obtain rfl := Option.some.inj hm
                exact ⟨S.sub ⟨rfl, rfl, rfl, rfl, trivial⟩, H⟩
               ·have hm := ite_f (eq_false_of_ne_true hc175) e174
                have hc175 : t165 = false := eq_false_of_ne_true hc175
                refine lx_q (.int .i64 x153.2.2) S (want_b rfl rfl hc175) (by decide) (q_move rfl) (fun a S => ?_)
                refine lx_q (.int .i64 x46.2.2) S (want_b rfl rfl hc175) (by decide) (q_move rfl) (fun a S => ?_)
                refine lx_q (.bool (x153.2.2 != x46.2.2)) S (want_b rfl rfl hc175) (by decide) (q_neq rfl rfl) (fun a S => ?_)
                refine lq (.bool (x153.2.2 != x46.2.2)) S (q_pickF' rfl hc175 rfl) fun a S => ?_
                refine lx_nil ?_
                obtain rfl := Option.some.inj hm
                exact ⟨S.sub ⟨rfl, rfl, rfl, rfl, trivial⟩, H⟩
              ·rintro a w ⟨S, H⟩
               refine lx_nil (thenN ?_)
               refine cond_b S rfl (fun hc176 => ?_) (fun hc176 => ?_)
               ·have hm := ite_t hc176 hm
                refine wp_seq (region_plain ?_)
                refine lq (.bool false) S (q_assign rfl) fun a S => ?_
                refine lx_nil (thenN ?_)
                refine wp_ret (then_ret ?_)
                obtain rfl := Option.some.inj hm
                have H : Heap w0 [] w := H.sel [] (by decide)
                exact leave1 S rfl rfl ⟨rfl, H⟩
               ·have hm := ite_f hc176 hm
                refine wp_skip (thenN ?_)
                refine wp_seq (region_plain ?_)
                refine lq (.int .i64 (1 : Int)) S (q_assign rfl) fun a S => ?_
                refine lx_nil (thenN ?_)
                refine wp_seq (region_plain ?_)
                refine lq v64 S (q_move rfl) fun a S => ?_
                refine lq (.int .i64 (1 : Int)) S (q_move rfl) fun a S => ?_
                obtain ⟨x179, e180, hm⟩ := bind_some hm
                refine lx_call (xs := [.tmp 120, .tmp 121]) S trivial (by decide) rfl rfl Try.call25 ((laws_heldEquationS_ok (H.rdAt 1 rfl)  e180).mono ?_)
                rintro e w177 ⟨rfl, Hc178⟩
                have H := H.call0 Hc178
                refine ⟨_, rfl, trivial, fun a S => ?_⟩
                refine lq (.int .i64 x179) S (q_assign rfl) fun a S => ?_
                refine lx_nil (thenN ?_)
                refine wp_seq (wp_seq (region_plain ?_))
                refine lq (.int .i64 x179) S (q_move rfl) fun a S => ?_
                refine lq (.bool (decide (x179 < (0 : Int)))) S (q_lss rfl rfl) fun a S => ?_
                refine lx_nil (thenN ?_)
                refine cond_b S rfl (fun hc182 => ?_) (fun hc182 => ?_)
                ·have hm := ite_t hc182 hm
                 refine wp_seq (region_plain ?_)
                 refine lq (.bool false) S (q_assign rfl) fun a S => ?_
                 refine lx_nil (thenN ?_)
                 refine wp_ret (then_ret ?_)
                 obtain rfl := Option.some.inj hm
                 have H : Heap w0 [] w177 := H.sel [] (by decide)
                 exact leave1 S rfl rfl ⟨rfl, H⟩
                ·have hm := ite_f hc182 hm
                 refine wp_skip (thenN ?_)
                 refine wp_seq (region_plain ?_)
                 refine lq v65 S (q_move rfl) fun a S => ?_
                 refine lq (.int .i64 x179) S (q_move rfl) fun a S => ?_
                 obtain ⟨x185, e186, hm⟩ := bind_some hm
                 refine lx_call (xs := [.tmp 125, .tmp 126]) S trivial (by decide) rfl rfl Try.call26 ((laws_heldInt64S_ok (H.rdAt 0 rfl)  e186).mono ?_)
                 rintro e w183 ⟨rfl, Hc184⟩
                 have H := H.call0 Hc184
                 refine ⟨_, rfl, trivial, fun a S => ?_⟩
                 refine lq (.int .i64 x185) S (q_assign rfl) fun a S => ?_
                 refine lx_nil (thenN ?_)
                 refine wp_seq (wp_seq (region_plain ?_))
                 refine lq (.int .i64 x185) S (q_move rfl) fun a S => ?_
                 refine lq (.bool (decide (x185 < (0 : Int)))) S (q_lss rfl rfl) fun a S => ?_
                 refine lx_nil (thenN ?_)
                 refine cond_b S rfl (fun hc188 => ?_) (fun hc188 => ?_)
                 ·have hm := ite_t hc188 hm
                  refine wp_seq (region_plain ?_)
                  refine lq (.bool false) S (q_assign rfl) fun a S => ?_
                  refine lx_nil (thenN ?_)
                  refine wp_ret (then_ret ?_)
                  obtain rfl := Option.some.inj hm
                  have H : Heap w0 [] w183 := H.sel [] (by decide)
                  exact leave1 S rfl rfl ⟨rfl, H⟩
                 ·have hm := ite_f hc188 hm
                  refine wp_skip (thenN ?_)
                  refine wp_seq (wp_seq (region_plain ?_))
                  refine lq (.int .i64 x185) S (q_move rfl) fun a S => ?_
                  refine lq (.int .i64 x129.1) S (q_move rfl) fun a S => ?_
                  refine lq (.bool (x185 != x129.1)) S (q_neq rfl rfl) fun a S => ?_
                  refine lx_nil (thenN ?_)
                  refine cond_b S rfl (fun hc189 => ?_) (fun hc189 => ?_)
                  ·have hm := ite_t hc189 hm
                   refine wp_seq (region_plain ?_)
                   refine lq (.bool false) S (q_assign rfl) fun a S => ?_
                   refine lx_nil (thenN ?_)
                   refine wp_ret (then_ret ?_)
                   obtain rfl := Option.some.inj hm
                   have H : Heap w0 [] w183 := H.sel [] (by decide)
                   exact leave1 S rfl rfl ⟨rfl, H⟩
                  ·have hm := ite_f hc189 hm
                   refine wp_skip (thenN ?_)
                   refine wp_seq (region_plain ?_)
                   refine lq (.bool true) S (q_assign rfl) fun a S => ?_
                   refine lx_nil (thenN ?_)
                   refine wp_ret ?_
                   obtain rfl := Option.some.inj hm
                   have H : Heap w0 [] w183 := H.sel [] (by decide)
                   exact leave1 S rfl rfl ⟨rfl, H⟩
end Go.Proofs.Ytcddkipbedfhkaa
