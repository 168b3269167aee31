/- The models of some functions and their walks (printed by a program of this repo). -/
import Derived.Test.YtlmopoaeekhmeaaGreatDoorF0
import Derived.Test.YtlmopoaeekhmeaaGreatDoorF1
import Derived.Test.YtlmopoaeekhmeaaGreatDoorF2
import Derived.Test.YtlmopoaeekhmeaaGreatDoorFS
import Derived.Test.YtlmopoaeekhmeaaGreatDoorGxT
import Derived.Test.YtlmopoaeekhmeaaGreatDoorGxY
namespace Go.Proofs.YtlmopoaeekhmeaaGreatDoor
open Go.RowKit Go.Gx

/-- spec.l11Read -/
def spec_l11Read_m (fuel : Nat) (a0 : Str) : Option ((Timpl_Lts × Bool)) :=
  (spec_l01Split_m fuel a0 (124 : Int)).bind fun x46 => (if ((x46.length : Int) != (3 : Int)) = true then some ((((0 : Int), (0 : Int), [], []), false)) else (idx x46 (0 : Int)).bind fun x55 => (spec_l01Split_m fuel x55 (32 : Int)).bind fun x62 => (if ((x62.length : Int) != (2 : Int)) = true then some ((((0 : Int), (0 : Int), [], []), false)) else (idx x62 (0 : Int)).bind fun x71 => (spec_l01Number_m fuel x71).bind fun x78 => (idx x62 (1 : Int)).bind fun x81 => (spec_l01Number_m fuel x81).bind fun x88 => (if (!x78.2) = true then some true else some (!x88.2)).bind fun t93 => (if t93 = true then some ((((0 : Int), (0 : Int), [], []), false)) else join (κ := List Str → Option (Timpl_Lts × Bool)) (fun (xs101 : List Str) => join (κ := List Timpl_Edge → Option (Timpl_Lts × Bool)) (fun (xs106 : List Timpl_Edge) => (spec_l11Is_m fuel (x78.1, x88.1, xs101, xs106)).bind fun x112 => (if (!x112) = true then some ((((0 : Int), (0 : Int), [], []), false)) else some (((x78.1, x88.1, xs101, xs106), true)))) (fun K108 => (idx x46 (2 : Int)).bind fun x120 => (if (x120 != ([45] : Str)) = true then (idx x46 (2 : Int)).bind fun x126 => (spec_l01Split_m fuel x126 (32 : Int)).bind fun x133 => (if (decide ((300 : Int) < (x133.length : Int))) = true then some ((((0 : Int), (0 : Int), [], []), false)) else (iter (fun (s : (List Timpl_Edge) × (Int)) => (match s with | (xs209, x211) => (if (decide (x211 < (x133.length : Int))) = true then (idx x133 x211).bind fun x290 => (spec_l01Split_m fuel x290 (58 : Int)).bind fun x297 => (if ((x297.length : Int) != (3 : Int)) = true then some (.inr (.inr (((0 : Int), (0 : Int), [], []), false))) else (idx x297 (0 : Int)).bind fun x306 => (spec_l01Number_m fuel x306).bind fun x313 => (idx x297 (1 : Int)).bind fun x316 => (spec_l01Number_m fuel x316).bind fun x323 => (idx x297 (2 : Int)).bind fun x326 => (spec_l01Number_m fuel x326).bind fun x333 => (if (!x313.2) = true then some true else some (!x323.2)).bind fun t336 => (if t336 = true then some true else some (!x333.2)).bind fun t339 => (if t339 = true then some (.inr (.inr (((0 : Int), (0 : Int), [], []), false))) else (app xs209 [(x313.1, x323.1, x333.1)]).bind fun x349 => some (.inl (x349, (W (x211 + (1 : Int))))))) else some (.inr (.inl (xs209)))) : Option (((List Timpl_Edge) × (Int)) ⊕ (((List Timpl_Edge)) ⊕ ((Timpl_Lts × Bool)))))) fuel (([] : List Timpl_Edge), (0 : Int))).bind fun res281 => ctl (β := (List Timpl_Edge)) (ρ := (Timpl_Lts × Bool)) (τ := (Timpl_Lts × Bool)) res281 (fun (xs279) => (K108 xs279)) (fun q => some (q))) else (K108 ([] : List Timpl_Edge))))) (fun K103 => (idx x46 (1 : Int)).bind fun x355 => (if (x355 != ([45] : Str)) = true then (idx x46 (1 : Int)).bind fun x363 => (spec_l01Split_m fuel x363 (32 : Int)).bind fun x367 => (app [([116, 97, 117] : Str)] x367).bind fun x372 => (K103 x372) else (K103 [([116, 97, 117] : Str)]))))))
set_option maxRecDepth 20000 in
theorem spec_l11Read_ok [dr : Dr] {w0 : World} {fuel : Nat} {a0 : Str} {r : (Timpl_Lts × Bool)} (hm : spec_l11Read_m fuel a0 = some r) :
  Calls Tryz.prog 9 #[sv a0] w0 fun e w => ∃ (v0 : Value) (v1 : Value), e = .returned (.tuple #[.agg #[.int .i64 r.1.1, .int .i64 r.1.2.1, v0, v1], .bool r.2]) ∧ Heap w0 [oA (rList rStr) v0 r.1.2.2.1, oA (rList Rimpl_Edge) v1 r.1.2.2.2] w := by
 unfold spec_l11Read_m at hm
 have H := Heap.start w0
 refine enter (args := [sv a0]) Tryz.func9 rfl 146 rfl (Nat.le_of_ble_eq_true rfl) (fun a S => ?_)
 refine wp_seq (region_plain ?_)
 refine lx_alloc S trivial (by decide) rfl H Tryz.zeroValue25 rfl (fun b31 w32 H => ⟨trivial, fun a S => ?_⟩)
 refine lq (.bool false) S (q_assign rfl) fun a S => ?_
 refine lx_nil (thenN ?_)
 refine wp_seq (region_plain ?_)
 refine lx_buildSlice (r := rStr) (xs := [([116, 97, 117] : Str)]) (ps := [(0, [(sv ([116, 97, 117] : Str))])]) (cs := [(sv ([116, 97, 117] : Str))]) (parts := [(0, .const (sv [116, 97, 117]))]) S trivial (by decide) rfl (H.put0 (A := eA) rfl) rfl Tryz.underlying22 Tryz.sizeOf9 Tryz.zeroValue9 (by decide) ⟨rfl, rfl, Nat.le_of_ble_eq_true rfl, trivial⟩ (by intro zs hz; exact fill_dense hz ⟨rfl, trivial⟩ rfl rfl) rfl (by decide) (fun w F hA => by cases (show F = [] from hA); exact ⟨_, _, [(sv ([116, 97, 117] : Str))], _, rfl, rfl, ⟨rfl, rfl⟩, ⟨rfl, rfl⟩⟩) (fun v34 w35 H => ⟨trivial, fun a S => ?_⟩)
 refine lx_buildSlice0 (r := Rimpl_Edge) S trivial (by decide) rfl H Tryz.underlying23 Tryz.sizeOf48 (fun v37 w38 H => ⟨trivial, fun a S => ?_⟩)
 refine lq (.agg #[(.int .i64 (0 : Int)), (.int .i64 (0 : Int)), v34, v37]) S (q_build (zs := [(.int .i64 (0 : Int)), (.int .i64 (0 : Int)), (.slice none 0 0), (.slice none 0 0)]) (szs := [1, 1, 1, 1]) (ps := [(2, [v34]), (3, [v37])]) (parts := [(2, .tmp 20), (3, .tmp 21)]) rfl Tryz.underlying25 Tryz.zeroValue25 (fun w => by simp [Tryz.sizeOf2, Tryz.sizeOf22, Tryz.sizeOf23]) ⟨rfl, (cells_sl (H.isSl 1 rfl)), Nat.le_of_ble_eq_true rfl, ⟨rfl, (cells_sl (H.isSl 0 rfl)), Nat.le_of_ble_eq_true rfl, trivial⟩⟩ rfl) fun a S => ?_
 refine lx_alloc S trivial (by decide) rfl H Tryz.zeroValue25 rfl (fun b40 w41 H => ⟨trivial, fun a S => ?_⟩)
 refine lx_storeBox (o := 0) (i := 0) (us := [(.int .i64 (0 : Int)), (.int .i64 (0 : Int)), v34, v37]) (cs' := [(.int .i64 (0 : Int)), (.int .i64 (0 : Int)), v34, v37]) S trivial rfl H rfl rfl rfl rfl Tryz.sizeOf25 (Nat.le_of_ble_eq_true rfl) (List.forall_mem_cons.2 ⟨rfl, (List.forall_mem_cons.2 ⟨rfl, (List.forall_mem_cons.2 ⟨one_sl (H.isSl 2 rfl), (List.forall_mem_cons.2 ⟨one_sl (H.isSl 1 rfl), (List.forall_mem_nil _)⟩)⟩)⟩)⟩) rfl (fun w43 H => ⟨trivial, fun a S => ?_⟩)
 change Heap w0 [bA b40 [(.int .i64 (0 : Int)), (.int .i64 (0 : Int)), v34, v37] 25, oA (rList Rimpl_Edge) v37 ([] : List Timpl_Edge), oA (rList rStr) v34 [([116, 97, 117] : Str)], bA b31 [(.int .i64 (0 : Int)), (.int .i64 (0 : Int)), (.slice none 0 0), (.slice none 0 0)] 25] w43 at H
 refine lx_nil (thenN ?_)
 refine wp_seq (region_plain ?_)
 refine lq (sv a0) S (q_move rfl) fun a S => ?_
 obtain ⟨x46, e47, hm⟩ := bind_some hm
 refine lx_call (xs := [.tmp 23, .const (.int .u8 (124))]) S trivial (by decide) rfl rfl Tryz.call22 ((spec_l01Split_ok   e47).mono ?_)
 rintro e w44 ⟨v48, rfl, Hc45⟩
 have H := H.call1 Hc45
 refine ⟨_, rfl, trivial, fun a S => ?_⟩
 refine lq v48 S (q_assign rfl) fun a S => ?_
 refine lx_nil (thenN ?_)
 refine wp_seq (wp_seq (region_plain ?_))
 refine lq v48 S (q_move rfl) fun a S => ?_
 refine lq (.int .i64 (x46.length : Int)) S (q_lenSl rfl (H.isSl 0 rfl) rfl Tryz.underlying22) fun a S => ?_
 refine lq (.bool ((x46.length : Int) != (3 : Int))) S (q_neq rfl rfl) fun a S => ?_
 refine lx_nil (thenN ?_)
 refine cond_b S rfl (fun hc51 => ?_) (fun hc51 => ?_)
 ·have hm := ite_t hc51 hm
  refine wp_seq (region_plain ?_)
  refine lq (.agg #[(.int .i64 (0 : Int)), (.int .i64 (0 : Int)), (.slice none 0 0), (.slice none 0 0)]) S (q_build (zs := [(.int .i64 (0 : Int)), (.int .i64 (0 : Int)), (.slice none 0 0), (.slice none 0 0)]) (szs := [1, 1, 1, 1]) (ps := []) (parts := []) rfl Tryz.underlying25 Tryz.zeroValue25 (fun w => by simp [Tryz.sizeOf2, Tryz.sizeOf22, Tryz.sizeOf23]) trivial rfl) fun a S => ?_
  refine lx_storeBox (o := 0) (i := 4) (us := [(.int .i64 (0 : Int)), (.int .i64 (0 : Int)), (.slice none 0 0), (.slice none 0 0)]) (cs' := [(.int .i64 (0 : Int)), (.int .i64 (0 : Int)), (.slice none 0 0), (.slice none 0 0)]) S trivial rfl H rfl rfl rfl rfl Tryz.sizeOf25 (Nat.le_of_ble_eq_true rfl) (List.forall_mem_cons.2 ⟨rfl, (List.forall_mem_cons.2 ⟨rfl, (List.forall_mem_cons.2 ⟨rfl, (List.forall_mem_cons.2 ⟨rfl, (List.forall_mem_nil _)⟩)⟩)⟩)⟩) rfl (fun w52 H => ⟨trivial, fun a S => ?_⟩)
  change Heap w0 [oA (rList rStr) v48 x46, bA b40 [(.int .i64 (0 : Int)), (.int .i64 (0 : Int)), v34, v37] 25, oA (rList Rimpl_Edge) v37 ([] : List Timpl_Edge), oA (rList rStr) v34 [([116, 97, 117] : Str)], bA b31 [(.int .i64 (0 : Int)), (.int .i64 (0 : Int)), (.slice none 0 0), (.slice none 0 0)] 25] w52 at H
  refine lq (.bool false) S (q_assign rfl) fun a S => ?_
  refine lx_nil (thenN ?_)
  refine wp_ret ?_
  have hrv0 := RV.cellA (t := 25) (q := 2) (env := [(0, (sv a0)), (2, (bp b31)), (3, (.bool false)), (4, (bp b40)), (5, v48), (20, v34), (21, v37), (22, (.agg #[(.int .i64 (0 : Int)), (.int .i64 (0 : Int)), v34, v37])), (23, (sv a0)), (24, v48), (25, v48), (26, (.int .i64 (x46.length : Int))), (27, (.bool ((x46.length : Int) != (3 : Int)))), (28, (.agg #[(.int .i64 (0 : Int)), (.int .i64 (0 : Int)), (.slice none 0 0), (.slice none 0 0)]))]) H (i := 4) rfl rfl Tryz.isAgg25 Tryz.sizeOf25
  have hrv1 : RV Tryz.prog _ w52 (.tmp 3) (.bool false) := (rfl : lk [(0, (sv a0)), (2, (bp b31)), (3, (.bool false)), (4, (bp b40)), (5, v48), (20, v34), (21, v37), (22, (.agg #[(.int .i64 (0 : Int)), (.int .i64 (0 : Int)), v34, v37])), (23, (sv a0)), (24, v48), (25, v48), (26, (.int .i64 (x46.length : Int))), (27, (.bool ((x46.length : Int) != (3 : Int)))), (28, (.agg #[(.int .i64 (0 : Int)), (.int .i64 (0 : Int)), (.slice none 0 0), (.slice none 0 0)]))] 3 = some (.bool false))
  refine then_ret ?_
  obtain rfl := Option.some.inj hm
  have H : Heap w0 [oA (rList rStr) (.slice none 0 0) ([] : List Str), oA (rList rStr) v48 x46, bA b40 [(.int .i64 (0 : Int)), (.int .i64 (0 : Int)), v34, v37] 25, oA (rList Rimpl_Edge) v37 ([] : List Timpl_Edge), oA (rList rStr) v34 [([116, 97, 117] : Str)], bA b31 [(.int .i64 (0 : Int)), (.int .i64 (0 : Int)), (.slice none 0 0), (.slice none 0 0)] 25] w52 := H.nilList rStr
  have H : Heap w0 [oA (rList Rimpl_Edge) (.slice none 0 0) ([] : List Timpl_Edge), oA (rList rStr) (.slice none 0 0) ([] : List Str), oA (rList rStr) v48 x46, bA b40 [(.int .i64 (0 : Int)), (.int .i64 (0 : Int)), v34, v37] 25, oA (rList Rimpl_Edge) v37 ([] : List Timpl_Edge), oA (rList rStr) v34 [([116, 97, 117] : Str)], bA b31 [(.int .i64 (0 : Int)), (.int .i64 (0 : Int)), (.slice none 0 0), (.slice none 0 0)] 25] w52 := H.nilList Rimpl_Edge
  have H : Heap w0 [oA (rList rStr) (.slice none 0 0) ([] : List Str), oA (rList Rimpl_Edge) (.slice none 0 0) ([] : List Timpl_Edge), oA (rList rStr) v48 x46, bA b40 [(.int .i64 (0 : Int)), (.int .i64 (0 : Int)), v34, v37] 25, oA (rList Rimpl_Edge) v37 ([] : List Timpl_Edge), oA (rList rStr) v34 [([116, 97, 117] : Str)], bA b31 [(.int .i64 (0 : Int)), (.int .i64 (0 : Int)), (.slice none 0 0), (.slice none 0 0)] 25] w52 := H.front 1 rfl
  have H : Heap w0 [oA (rList rStr) (.slice none 0 0) ([] : List Str), oA (rList Rimpl_Edge) (.slice none 0 0) ([] : List Timpl_Edge)] w52 := H.sel [0, 1] (by decide)
  exact leaveR2 S rfl hrv0 hrv1 ⟨(.slice none 0 0), (.slice none 0 0), rfl, H⟩
 ·have hm := ite_f hc51 hm
  refine wp_skip (thenN ?_)
  refine wp_seq (region_plain ?_)
  refine lq v48 S (q_move rfl) fun a S => ?_
  obtain ⟨x55, e56, hm⟩ := bind_some hm
  have hlt := lt_of_idx (idx_some e56).2
  refine lq (ePtr v48 ((0 : Int).toNat * 1)) S (q_indexAddr rfl (H.isSl 0 rfl) rfl (idx_some e56).1 hlt Tryz.underlying22 Tryz.sizeOf9) fun a S => ?_
  obtain ⟨c57, h58, hat59⟩ := (H.rdAt 0 rfl).elem (idx_some e56).2
  obtain rfl := h58
  refine lx_e (sv x55) S trivial (by decide) rfl trivial (q_load1 rfl Tryz.isAgg9 (by rintro _ rfl; exact (hat59 0 _ rfl))) (fun a S => ?_)
  obtain ⟨x62, e63, hm⟩ := bind_some hm
  refine lx_call (xs := [.tmp 31, .const (.int .u8 (32))]) S trivial (by decide) rfl rfl Tryz.call22 ((spec_l01Split_ok   e63).mono ?_)
  rintro e w60 ⟨v64, rfl, Hc61⟩
  have H := H.call1 Hc61
  refine ⟨_, rfl, trivial, fun a S => ?_⟩
  refine lq v64 S (q_assign rfl) fun a S => ?_
  refine lx_nil (thenN ?_)
  refine wp_seq (wp_seq (region_plain ?_))
  refine lq v64 S (q_move rfl) fun a S => ?_
  refine lq (.int .i64 (x62.length : Int)) S (q_lenSl rfl (H.isSl 0 rfl) rfl Tryz.underlying22) fun a S => ?_
  refine lq (.bool ((x62.length : Int) != (2 : Int))) S (q_neq rfl rfl) fun a S => ?_
  refine lx_nil (thenN ?_)
  refine cond_b S rfl (fun hc67 => ?_) (fun hc67 => ?_)
  ·have hm := ite_t hc67 hm
   refine wp_seq (region_plain ?_)
   refine lq (.agg #[(.int .i64 (0 : Int)), (.int .i64 (0 : Int)), (.slice none 0 0), (.slice none 0 0)]) S (q_build (zs := [(.int .i64 (0 : Int)), (.int .i64 (0 : Int)), (.slice none 0 0), (.slice none 0 0)]) (szs := [1, 1, 1, 1]) (ps := []) (parts := []) rfl Tryz.underlying25 Tryz.zeroValue25 (fun w => by simp [Tryz.sizeOf2, Tryz.sizeOf22, Tryz.sizeOf23]) trivial rfl) fun a S => ?_
   refine lx_storeBox (o := 0) (i := 5) (us := [(.int .i64 (0 : Int)), (.int .i64 (0 : Int)), (.slice none 0 0), (.slice none 0 0)]) (cs' := [(.int .i64 (0 : Int)), (.int .i64 (0 : Int)), (.slice none 0 0), (.slice none 0 0)]) S trivial rfl H rfl rfl rfl rfl Tryz.sizeOf25 (Nat.le_of_ble_eq_true rfl) (List.forall_mem_cons.2 ⟨rfl, (List.forall_mem_cons.2 ⟨rfl, (List.forall_mem_cons.2 ⟨rfl, (List.forall_mem_cons.2 ⟨rfl, (List.forall_mem_nil _)⟩)⟩)⟩)⟩) rfl (fun w68 H => ⟨trivial, fun a S => ?_⟩)
   change Heap w0 [oA (rList rStr) v64 x62, oA (rList rStr) v48 x46, bA b40 [(.int .i64 (0 : Int)), (.int .i64 (0 : Int)), v34, v37] 25, oA (rList Rimpl_Edge) v37 ([] : List Timpl_Edge), oA (rList rStr) v34 [([116, 97, 117] : Str)], bA b31 [(.int .i64 (0 : Int)), (.int .i64 (0 : Int)), (.slice none 0 0), (.slice none 0 0)] 25] w68 at H
   refine lq (.bool false) S (q_assign rfl) fun a S => ?_
   refine lx_nil (thenN ?_)
   refine wp_ret ?_
   have hrv0 := RV.cellA (t := 25) (q := 2) (env := [(0, (sv a0)), (2, (bp b31)), (3, (.bool false)), (4, (bp b40)), (5, v48), (6, v64), (20, v34), (21, v37), (22, (.agg #[(.int .i64 (0 : Int)), (.int .i64 (0 : Int)), v34, v37])), (23, (sv a0)), (24, v48), (25, v48), (26, (.int .i64 (x46.length : Int))), (27, (.bool ((x46.length : Int) != (3 : Int)))), (29, v48), (30, (ePtr v48 ((0 : Int).toNat * 1))), (31, (sv x55)), (32, v64), (33, v64), (34, (.int .i64 (x62.length : Int))), (35, (.bool ((x62.length : Int) != (2 : Int)))), (36, (.agg #[(.int .i64 (0 : Int)), (.int .i64 (0 : Int)), (.slice none 0 0), (.slice none 0 0)]))]) H (i := 5) rfl rfl Tryz.isAgg25 Tryz.sizeOf25
   have hrv1 : RV Tryz.prog _ w68 (.tmp 3) (.bool false) := (rfl : lk [(0, (sv a0)), (2, (bp b31)), (3, (.bool false)), (4, (bp b40)), (5, v48), (6, v64), (20, v34), (21, v37), (22, (.agg #[(.int .i64 (0 : Int)), (.int .i64 (0 : Int)), v34, v37])), (23, (sv a0)), (24, v48), (25, v48), (26, (.int .i64 (x46.length : Int))), (27, (.bool ((x46.length : Int) != (3 : Int)))), (29, v48), (30, (ePtr v48 ((0 : Int).toNat * 1))), (31, (sv x55)), (32, v64), (33, v64), (34, (.int .i64 (x62.length : Int))), (35, (.bool ((x62.length : Int) != (2 : Int)))), (36, (.agg #[(.int .i64 (0 : Int)), (.int .i64 (0 : Int)), (.slice none 0 0), (.slice none 0 0)]))] 3 = some (.bool false))
   refine then_ret ?_
   obtain rfl := Option.some.inj hm
   have H : Heap w0 [oA (rList rStr) (.slice none 0 0) ([] : List Str), oA (rList rStr) v64 x62, oA (rList rStr) v48 x46, bA b40 [(.int .i64 (0 : Int)), (.int .i64 (0 : Int)), v34, v37] 25, oA (rList Rimpl_Edge) v37 ([] : List Timpl_Edge), oA (rList rStr) v34 [([116, 97, 117] : Str)], bA b31 [(.int .i64 (0 : Int)), (.int .i64 (0 : Int)), (.slice none 0 0), (.slice none 0 0)] 25] w68 := H.nilList rStr
   have H : Heap w0 [oA (rList Rimpl_Edge) (.slice none 0 0) ([] : List Timpl_Edge), oA (rList rStr) (.slice none 0 0) ([] : List Str), oA (rList rStr) v64 x62, oA (rList rStr) v48 x46, bA b40 [(.int .i64 (0 : Int)), (.int .i64 (0 : Int)), v34, v37] 25, oA (rList Rimpl_Edge) v37 ([] : List Timpl_Edge), oA (rList rStr) v34 [([116, 97, 117] : Str)], bA b31 [(.int .i64 (0 : Int)), (.int .i64 (0 : Int)), (.slice none 0 0), (.slice none 0 0)] 25] w68 := H.nilList Rimpl_Edge
   have H : Heap w0 [oA (rList rStr) (.slice none 0 0) ([] : List Str), oA (rList Rimpl_Edge) (.slice none 0 0) ([] : List Timpl_Edge), oA (rList rStr) v64 x62, oA (rList rStr) v48 x46, bA b40 [(.int .i64 (0 : Int)), (.int .i64 (0 : Int)), v34, v37] 25, oA (rList Rimpl_Edge) v37 ([] : List Timpl_Edge), oA (rList rStr) v34 [([116, 97, 117] : Str)], bA b31 [(.int .i64 (0 : Int)), (.int .i64 (0 : Int)), (.slice none 0 0), (.slice none 0 0)] 25] w68 := H.front 1 rfl
   have H : Heap w0 [oA (rList rStr) (.slice none 0 0) ([] : List Str), oA (rList Rimpl_Edge) (.slice none 0 0) ([] : List Timpl_Edge)] w68 := H.sel [0, 1] (by decide)
   exact leaveR2 S rfl hrv0 hrv1 ⟨(.slice none 0 0), (.slice none 0 0), rfl, H⟩
  ·have hm := ite_f hc67 hm
   refine wp_skip (thenN ?_)
   refine wp_seq (region_plain ?_)
   refine lq v64 S (q_move rfl) fun a S => ?_
   obtain ⟨x71, e72, hm⟩ := bind_some hm
   have hlt := lt_of_idx (idx_some e72).2
   refine lq (ePtr v64 ((0 : Int).toNat * 1)) S (q_indexAddr rfl (H.isSl 0 rfl) rfl (idx_some e72).1 hlt Tryz.underlying22 Tryz.sizeOf9) fun a S => ?_
   obtain ⟨c73, h74, hat75⟩ := (H.rdAt 0 rfl).elem (idx_some e72).2
   obtain rfl := h74
   refine lx_e (sv x71) S trivial (by decide) rfl trivial (q_load1 rfl Tryz.isAgg9 (by rintro _ rfl; exact (hat75 0 _ rfl))) (fun a S => ?_)
   obtain ⟨x78, e79, hm⟩ := bind_some hm
   refine lx_call (xs := [.tmp 40]) S trivial (by decide) rfl rfl Tryz.call23 ((spec_l01Number_ok  e79).mono ?_)
   rintro e w76 ⟨rfl, Hc77⟩
   have H := H.call0 Hc77
   refine ⟨_, rfl, trivial, fun a S => ?_⟩
   refine lq (.tuple #[(.int .i64 x78.1), (.bool x78.2)]) S (q_move rfl) fun a S => ?_
   refine lq (.int .i64 x78.1) S (q_extract rfl rfl) fun a S => ?_
   refine lq (.bool x78.2) S (q_extract rfl rfl) fun a S => ?_
   refine lq (.int .i64 x78.1) S (q_assign rfl) fun a S => ?_
   refine lq (.bool x78.2) S (q_assign rfl) fun a S => ?_
   refine lx_nil (thenN ?_)
   refine wp_seq (region_plain ?_)
   refine lq v64 S (q_move rfl) fun a S => ?_
   obtain ⟨x81, e82, hm⟩ := bind_some hm
   have hlt := lt_of_idx (idx_some e82).2
   refine lq (ePtr v64 ((1 : Int).toNat * 1)) S (q_indexAddr rfl (H.isSl 0 rfl) rfl (idx_some e82).1 hlt Tryz.underlying22 Tryz.sizeOf9) fun a S => ?_
   obtain ⟨c83, h84, hat85⟩ := (H.rdAt 0 rfl).elem (idx_some e82).2
   obtain rfl := h84
   refine lx_e (sv x81) S trivial (by decide) rfl trivial (q_load1 rfl Tryz.isAgg9 (by rintro _ rfl; exact (hat85 0 _ rfl))) (fun a S => ?_)
   obtain ⟨x88, e89, hm⟩ := bind_some hm
   refine lx_call (xs := [.tmp 47]) S trivial (by decide) rfl rfl Tryz.call23 ((spec_l01Number_ok  e89).mono ?_)
   rintro e w86 ⟨rfl, Hc87⟩
   have H := H.call0 Hc87
   refine ⟨_, rfl, trivial, fun a S => ?_⟩
   refine lq (.tuple #[(.int .i64 x88.1), (.bool x88.2)]) S (q_move rfl) fun a S => ?_
   refine lq (.int .i64 x88.1) S (q_extract rfl rfl) fun a S => ?_
   refine lq (.bool x88.2) S (q_extract rfl rfl) fun a S => ?_
   refine lq (.int .i64 x88.1) S (q_assign rfl) fun a S => ?_
   refine lq (.bool x88.2) S (q_assign rfl) fun a S => ?_
   refine lx_nil (thenN ?_)
   refine wp_seq (region_plain ?_)
   refine lq (.int .i64 x78.1) S (q_move rfl) fun a S => ?_
   refine lq (pAdd (bp b40) 0) S (q_fieldAddr' 0 2 rfl (isP_bp _) Tryz.underlying25 rfl Tryz.sizeOf2) fun a S => ?_
   refine lx_storeBox (o := 0) (i := 2) (us := [(.int .i64 x78.1)]) (cs' := [(.int .i64 x78.1), (.int .i64 (0 : Int)), v34, v37]) S trivial rfl H rfl rfl rfl rfl Tryz.sizeOf2 (Nat.le_of_ble_eq_true rfl) (List.forall_mem_cons.2 ⟨rfl, (List.forall_mem_nil _)⟩) rfl (fun w91 H => ⟨trivial, fun a S => ?_⟩)
   change Heap w0 [oA (rList rStr) v64 x62, oA (rList rStr) v48 x46, bA b40 [(.int .i64 x78.1), (.int .i64 (0 : Int)), v34, v37] 25, oA (rList Rimpl_Edge) v37 ([] : List Timpl_Edge), oA (rList rStr) v34 [([116, 97, 117] : Str)], bA b31 [(.int .i64 (0 : Int)), (.int .i64 (0 : Int)), (.slice none 0 0), (.slice none 0 0)] 25] w91 at H
   refine lx_nil (thenN ?_)
   refine wp_seq (region_plain ?_)
   refine lq (.int .i64 x88.1) S (q_move rfl) fun a S => ?_
   refine lq (pAdd (bp b40) 1) S (q_fieldAddr' 1 2 rfl (isP_bp _) Tryz.underlying25 rfl Tryz.sizeOf2) fun a S => ?_
   refine lx_storeBox (o := 1) (i := 2) (us := [(.int .i64 x88.1)]) (cs' := [(.int .i64 x78.1), (.int .i64 x88.1), v34, v37]) S trivial rfl H rfl rfl rfl rfl Tryz.sizeOf2 (Nat.le_of_ble_eq_true rfl) (List.forall_mem_cons.2 ⟨rfl, (List.forall_mem_nil _)⟩) rfl (fun w92 H => ⟨trivial, fun a S => ?_⟩)
   change Heap w0 [oA (rList rStr) v64 x62, oA (rList rStr) v48 x46, bA b40 [(.int .i64 x78.1), (.int .i64 x88.1), v34, v37] 25, oA (rList Rimpl_Edge) v37 ([] : List Timpl_Edge), oA (rList rStr) v34 [([116, 97, 117] : Str)], bA b31 [(.int .i64 (0 : Int)), (.int .i64 (0 : Int)), (.slice none 0 0), (.slice none 0 0)] 25] w92 at H
   refine lx_nil (thenN ?_)
   refine wp_seq (wp_seq (region_plain ?_))
   refine lq (.bool x78.2) S (q_move rfl) fun a S => ?_
   refine lq (.bool (!x78.2)) S (q_not rfl) fun a S => ?_
   refine lq (.bool (!x78.2)) S (q_move rfl) fun a S => ?_
   obtain ⟨t93, e94, hm⟩ := bind_some hm
   refine lx_cut 3 (fun a w => Slots a 146 [(2, (bp b31)), (4, (bp b40)), (5, v48), (60, (.bool t93))] ∧ Heap w0 [oA (rList rStr) v48 x46, bA b40 [(.int .i64 x78.1), (.int .i64 x88.1), v34, v37] 25, oA (rList Rimpl_Edge) v37 ([] : List Timpl_Edge), oA (rList rStr) v34 [([116, 97, 117] : Str)], bA b31 [(.int .i64 (0 : Int)), (.int .i64 (0 : Int)), (.slice none 0 0), (.slice none 0 0)] 25] w) ?_ ?_
   ·by_cases hc95 : (!x78.2) = true
    ·have hm := ite_t hc95 e94
     refine lx_skip S rfl rfl (isB_ne hc95) (by decide) (fun a S => ?_)
     refine lx_skip S rfl rfl (isB_ne hc95) (by decide) (fun a S => ?_)
     refine lq (.bool true) S (q_pickT' rfl hc95 rfl) fun a S => ?_
     refine lx_nil ?_
     obtain rfl := Option.some.inj hm
     have H := H.sel [1, 2, 3, 4, 5] (by decide)
     exact ⟨S.sub ⟨rfl, rfl, rfl, rfl, trivial⟩, H⟩
    ·have hm := ite_f (eq_false_of_ne_true hc95) e94
     have hc95 : (!x78.2) = false := eq_false_of_ne_true hc95
     refine lx_q (.bool x88.2) S (want_b rfl rfl hc95) (by decide) (q_move rfl) (fun a S => ?_)
     refine lx_q (.bool (!x88.2)) S (want_b rfl rfl hc95) (by decide) (q_not rfl) (fun a S => ?_)
     refine lq (.bool (!x88.2)) S (q_pickF' rfl hc95 rfl) fun a S => ?_
     refine lx_nil ?_
     obtain rfl := Option.some.inj hm
     have H := H.sel [1, 2, 3, 4, 5] (by decide)
     exact ⟨S.sub ⟨rfl, rfl, rfl, rfl, trivial⟩, H⟩
   ·rintro a w ⟨S, H⟩
    refine lx_nil (thenN ?_)
    refine cond_b S rfl (fun hc96 => ?_) (fun hc96 => ?_)
    ·have hm := ite_t hc96 hm
     refine wp_seq (region_plain ?_)
     refine lq (.agg #[(.int .i64 (0 : Int)), (.int .i64 (0 : Int)), (.slice none 0 0), (.slice none 0 0)]) S (q_build (zs := [(.int .i64 (0 : Int)), (.int .i64 (0 : Int)), (.slice none 0 0), (.slice none 0 0)]) (szs := [1, 1, 1, 1]) (ps := []) (parts := []) rfl Tryz.underlying25 Tryz.zeroValue25 (fun w => by simp [Tryz.sizeOf2, Tryz.sizeOf22, Tryz.sizeOf23]) trivial rfl) fun a S => ?_
     refine lx_storeBox (o := 0) (i := 4) (us := [(.int .i64 (0 : Int)), (.int .i64 (0 : Int)), (.slice none 0 0), (.slice none 0 0)]) (cs' := [(.int .i64 (0 : Int)), (.int .i64 (0 : Int)), (.slice none 0 0), (.slice none 0 0)]) S trivial rfl H rfl rfl rfl rfl Tryz.sizeOf25 (Nat.le_of_ble_eq_true rfl) (List.forall_mem_cons.2 ⟨rfl, (List.forall_mem_cons.2 ⟨rfl, (List.forall_mem_cons.2 ⟨rfl, (List.forall_mem_cons.2 ⟨rfl, (List.forall_mem_nil _)⟩)⟩)⟩)⟩) rfl (fun w97 H => ⟨trivial, fun a S => ?_⟩)
     change Heap w0 [oA (rList rStr) v48 x46, bA b40 [(.int .i64 x78.1), (.int .i64 x88.1), v34, v37] 25, oA (rList Rimpl_Edge) v37 ([] : List Timpl_Edge), oA (rList rStr) v34 [([116, 97, 117] : Str)], bA b31 [(.int .i64 (0 : Int)), (.int .i64 (0 : Int)), (.slice none 0 0), (.slice none 0 0)] 25] w97 at H
     refine lq (.bool false) S (q_assign rfl) fun a S => ?_
     refine lx_nil (thenN ?_)
     refine wp_ret ?_
     have hrv0 := RV.cellA (t := 25) (q := 2) (env := [(2, (bp b31)), (3, (.bool false)), (4, (bp b40)), (5, v48), (60, (.bool t93)), (61, (.agg #[(.int .i64 (0 : Int)), (.int .i64 (0 : Int)), (.slice none 0 0), (.slice none 0 0)]))]) H (i := 4) rfl rfl Tryz.isAgg25 Tryz.sizeOf25
     have hrv1 : RV Tryz.prog _ w97 (.tmp 3) (.bool false) := (rfl : lk [(2, (bp b31)), (3, (.bool false)), (4, (bp b40)), (5, v48), (60, (.bool t93)), (61, (.agg #[(.int .i64 (0 : Int)), (.int .i64 (0 : Int)), (.slice none 0 0), (.slice none 0 0)]))] 3 = some (.bool false))
     refine then_ret ?_
     obtain rfl := Option.some.inj hm
     have H : Heap w0 [oA (rList rStr) (.slice none 0 0) ([] : List Str), oA (rList rStr) v48 x46, bA b40 [(.int .i64 x78.1), (.int .i64 x88.1), v34, v37] 25, oA (rList Rimpl_Edge) v37 ([] : List Timpl_Edge), oA (rList rStr) v34 [([116, 97, 117] : Str)], bA b31 [(.int .i64 (0 : Int)), (.int .i64 (0 : Int)), (.slice none 0 0), (.slice none 0 0)] 25] w97 := H.nilList rStr
     have H : Heap w0 [oA (rList Rimpl_Edge) (.slice none 0 0) ([] : List Timpl_Edge), oA (rList rStr) (.slice none 0 0) ([] : List Str), oA (rList rStr) v48 x46, bA b40 [(.int .i64 x78.1), (.int .i64 x88.1), v34, v37] 25, oA (rList Rimpl_Edge) v37 ([] : List Timpl_Edge), oA (rList rStr) v34 [([116, 97, 117] : Str)], bA b31 [(.int .i64 (0 : Int)), (.int .i64 (0 : Int)), (.slice none 0 0), (.slice none 0 0)] 25] w97 := H.nilList Rimpl_Edge
     have H : Heap w0 [oA (rList rStr) (.slice none 0 0) ([] : List Str), oA (rList Rimpl_Edge) (.slice none 0 0) ([] : List Timpl_Edge), oA (rList rStr) v48 x46, bA b40 [(.int .i64 x78.1), (.int .i64 x88.1), v34, v37] 25, oA (rList Rimpl_Edge) v37 ([] : List Timpl_Edge), oA (rList rStr) v34 [([116, 97, 117] : Str)], bA b31 [(.int .i64 (0 : Int)), (.int .i64 (0 : Int)), (.slice none 0 0), (.slice none 0 0)] 25] w97 := H.front 1 rfl
     have H : Heap w0 [oA (rList rStr) (.slice none 0 0) ([] : List Str), oA (rList Rimpl_Edge) (.slice none 0 0) ([] : List Timpl_Edge)] w97 := H.sel [0, 1] (by decide)
     exact leaveR2 S rfl hrv0 hrv1 ⟨(.slice none 0 0), (.slice none 0 0), rfl, H⟩
    ·have hm := ite_f hc96 hm
     refine wp_skip (thenN ?_)
     obtain ⟨K103, hK104, hm⟩ := join_elim hm
     refine seq_cut (fun a w => ∃ (xs101 : List Str) (v100 : Value), Slots a 146 [(2, (bp b31)), (4, (bp b40)), (5, v48)] ∧ Heap w0 [bA b31 [(.int .i64 (0 : Int)), (.int .i64 (0 : Int)), (.slice none 0 0), (.slice none 0 0)] 25, bA b40 [(.int .i64 x78.1), (.int .i64 x88.1), v100, v37] 25, oA (rList rStr) v100 xs101, oA (rList Rimpl_Edge) v37 ([] : List Timpl_Edge), oA (rList rStr) v48 x46] w ∧ K103 xs101 = some r) ?_ ?_
     ·rintro a w ⟨xs101, v100, S, H, hm⟩
      subst hK104
      obtain ⟨K108, hK109, hm⟩ := join_elim hm
      refine seq_cut (fun a w => ∃ (xs106 : List Timpl_Edge) (v105 : Value), Slots a 146 [(2, (bp b31)), (4, (bp b40))] ∧ Heap w0 [bA b31 [(.int .i64 (0 : Int)), (.int .i64 (0 : Int)), (.slice none 0 0), (.slice none 0 0)] 25, bA b40 [(.int .i64 x78.1), (.int .i64 x88.1), v100, v105] 25, oA (rList rStr) v100 xs101, oA (rList Rimpl_Edge) v105 xs106] w ∧ K108 xs106 = some r) ?_ ?_
      ·rintro a w ⟨xs106, v105, S, H, hm⟩
       subst hK109
       refine wp_seq (wp_seq (region_plain ?_))
       obtain ⟨x112, e113, hm⟩ := bind_some hm
       refine lx_call (xs := [.tmp 4]) S trivial (by decide) rfl rfl Tryz.call24 ((spec_l11Is_ok (a0 := (x78.1, x88.1, xs101, xs106)) (rdPtr_box H 1 rfl ⟨[(.int .i64 x78.1)], [(.int .i64 x88.1), v100, v105], rfl, rfl, ⟨[(.int .i64 x88.1)], [v100, v105], rfl, rfl, ⟨[v100], [v105], rfl, ((H.rdAt 2 rfl)).list_rd, ((H.rdAt 3 rfl)).list_rd⟩⟩⟩) e113).mono ?_)
       rintro e w110 ⟨rfl, Hc111⟩
       have H := H.call0 Hc111
       refine ⟨_, rfl, trivial, fun a S => ?_⟩
       refine lq (.bool (!x112)) S (q_not rfl) fun a S => ?_
       refine lx_nil (thenN ?_)
       refine cond_b S rfl (fun hc115 => ?_) (fun hc115 => ?_)
       ·have hm := ite_t hc115 hm
        refine wp_seq (region_plain ?_)
        refine lq (.agg #[(.int .i64 (0 : Int)), (.int .i64 (0 : Int)), (.slice none 0 0), (.slice none 0 0)]) S (q_build (zs := [(.int .i64 (0 : Int)), (.int .i64 (0 : Int)), (.slice none 0 0), (.slice none 0 0)]) (szs := [1, 1, 1, 1]) (ps := []) (parts := []) rfl Tryz.underlying25 Tryz.zeroValue25 (fun w => by simp [Tryz.sizeOf2, Tryz.sizeOf22, Tryz.sizeOf23]) trivial rfl) fun a S => ?_
        refine lx_storeBox (o := 0) (i := 0) (us := [(.int .i64 (0 : Int)), (.int .i64 (0 : Int)), (.slice none 0 0), (.slice none 0 0)]) (cs' := [(.int .i64 (0 : Int)), (.int .i64 (0 : Int)), (.slice none 0 0), (.slice none 0 0)]) S trivial rfl H rfl rfl rfl rfl Tryz.sizeOf25 (Nat.le_of_ble_eq_true rfl) (List.forall_mem_cons.2 ⟨rfl, (List.forall_mem_cons.2 ⟨rfl, (List.forall_mem_cons.2 ⟨rfl, (List.forall_mem_cons.2 ⟨rfl, (List.forall_mem_nil _)⟩)⟩)⟩)⟩) rfl (fun w116 H => ⟨trivial, fun a S => ?_⟩)
        change Heap w0 [bA b31 [(.int .i64 (0 : Int)), (.int .i64 (0 : Int)), (.slice none 0 0), (.slice none 0 0)] 25, bA b40 [(.int .i64 x78.1), (.int .i64 x88.1), v100, v105] 25, oA (rList rStr) v100 xs101, oA (rList Rimpl_Edge) v105 xs106] w116 at H
        refine lq (.bool false) S (q_assign rfl) fun a S => ?_
        refine lx_nil (thenN ?_)
        refine wp_ret ?_
        have hrv0 := RV.cellA (t := 25) (q := 2) (env := [(2, (bp b31)), (3, (.bool false)), (4, (bp b40)), (142, (.bool x112)), (143, (.bool (!x112))), (144, (.agg #[(.int .i64 (0 : Int)), (.int .i64 (0 : Int)), (.slice none 0 0), (.slice none 0 0)]))]) H (i := 0) rfl rfl Tryz.isAgg25 Tryz.sizeOf25
        have hrv1 : RV Tryz.prog _ w116 (.tmp 3) (.bool false) := (rfl : lk [(2, (bp b31)), (3, (.bool false)), (4, (bp b40)), (142, (.bool x112)), (143, (.bool (!x112))), (144, (.agg #[(.int .i64 (0 : Int)), (.int .i64 (0 : Int)), (.slice none 0 0), (.slice none 0 0)]))] 3 = some (.bool false))
        refine then_ret ?_
        obtain rfl := Option.some.inj hm
        have H : Heap w0 [oA (rList rStr) (.slice none 0 0) ([] : List Str), bA b31 [(.int .i64 (0 : Int)), (.int .i64 (0 : Int)), (.slice none 0 0), (.slice none 0 0)] 25, bA b40 [(.int .i64 x78.1), (.int .i64 x88.1), v100, v105] 25, oA (rList rStr) v100 xs101, oA (rList Rimpl_Edge) v105 xs106] w116 := H.nilList rStr
        have H : Heap w0 [oA (rList Rimpl_Edge) (.slice none 0 0) ([] : List Timpl_Edge), oA (rList rStr) (.slice none 0 0) ([] : List Str), bA b31 [(.int .i64 (0 : Int)), (.int .i64 (0 : Int)), (.slice none 0 0), (.slice none 0 0)] 25, bA b40 [(.int .i64 x78.1), (.int .i64 x88.1), v100, v105] 25, oA (rList rStr) v100 xs101, oA (rList Rimpl_Edge) v105 xs106] w116 := H.nilList Rimpl_Edge
        have H : Heap w0 [oA (rList rStr) (.slice none 0 0) ([] : List Str), oA (rList Rimpl_Edge) (.slice none 0 0) ([] : List Timpl_Edge), bA b31 [(.int .i64 (0 : Int)), (.int .i64 (0 : Int)), (.slice none 0 0), (.slice none 0 0)] 25, bA b40 [(.int .i64 x78.1), (.int .i64 x88.1), v100, v105] 25, oA (rList rStr) v100 xs101, oA (rList Rimpl_Edge) v105 xs106] w116 := H.front 1 rfl
        have H : Heap w0 [oA (rList rStr) (.slice none 0 0) ([] : List Str), oA (rList Rimpl_Edge) (.slice none 0 0) ([] : List Timpl_Edge)] w116 := H.sel [0, 1] (by decide)
        exact leaveR2 S rfl hrv0 hrv1 ⟨(.slice none 0 0), (.slice none 0 0), rfl, H⟩
       ·have hm := ite_f hc115 hm
        refine wp_skip (thenN ?_)
        refine wp_seq (region_plain ?_)
        refine lx_e (.agg #[(.int .i64 x78.1), (.int .i64 x88.1), v100, v105]) S trivial (by decide) rfl trivial (q_loadA (cs := [(.int .i64 x78.1), (.int .i64 x88.1), v100, v105]) rfl (isP_bp _) Tryz.isAgg25 Tryz.sizeOf25 (by rintro _ rfl; exact (fun j u hu => boxAt (i := 1) H rfl hu))) (fun a S => ?_)
        refine lx_storeBox (o := 0) (i := 0) (us := [(.int .i64 x78.1), (.int .i64 x88.1), v100, v105]) (cs' := [(.int .i64 x78.1), (.int .i64 x88.1), v100, v105]) S trivial rfl H rfl rfl rfl rfl Tryz.sizeOf25 (Nat.le_of_ble_eq_true rfl) (List.forall_mem_cons.2 ⟨rfl, (List.forall_mem_cons.2 ⟨rfl, (List.forall_mem_cons.2 ⟨one_sl (H.isSl 2 rfl), (List.forall_mem_cons.2 ⟨one_sl (H.isSl 3 rfl), (List.forall_mem_nil _)⟩)⟩)⟩)⟩) rfl (fun w119 H => ⟨trivial, fun a S => ?_⟩)
        change Heap w0 [bA b31 [(.int .i64 x78.1), (.int .i64 x88.1), v100, v105] 25, bA b40 [(.int .i64 x78.1), (.int .i64 x88.1), v100, v105] 25, oA (rList rStr) v100 xs101, oA (rList Rimpl_Edge) v105 xs106] w119 at H
        refine lq (.bool true) S (q_assign rfl) fun a S => ?_
        refine lx_nil (thenN ?_)
        refine wp_ret ?_
        have hrv0 := RV.cellA (t := 25) (q := 2) (env := [(2, (bp b31)), (3, (.bool true)), (4, (bp b40)), (142, (.bool x112)), (143, (.bool (!x112))), (145, (.agg #[(.int .i64 x78.1), (.int .i64 x88.1), v100, v105]))]) H (i := 0) rfl rfl Tryz.isAgg25 Tryz.sizeOf25
        have hrv1 : RV Tryz.prog _ w119 (.tmp 3) (.bool true) := (rfl : lk [(2, (bp b31)), (3, (.bool true)), (4, (bp b40)), (142, (.bool x112)), (143, (.bool (!x112))), (145, (.agg #[(.int .i64 x78.1), (.int .i64 x88.1), v100, v105]))] 3 = some (.bool true))
        obtain rfl := Option.some.inj hm
        have H : Heap w0 [oA (rList rStr) v100 xs101, oA (rList Rimpl_Edge) v105 xs106] w119 := H.sel [2, 3] (by decide)
        exact leaveR2 S rfl hrv0 hrv1 ⟨v100, v105, rfl, H⟩
      ·skip
       refine wp_seq (region_plain ?_)
       refine lq v48 S (q_move rfl) fun a S => ?_
       obtain ⟨x120, e121, hm⟩ := bind_some hm
       have hlt := lt_of_idx (idx_some e121).2
       refine lq (ePtr v48 ((2 : Int).toNat * 1)) S (q_indexAddr rfl (H.isSl 4 rfl) rfl (idx_some e121).1 hlt Tryz.underlying22 Tryz.sizeOf9) fun a S => ?_
       obtain ⟨c122, h123, hat124⟩ := (H.rdAt 4 rfl).elem (idx_some e121).2
       obtain rfl := h123
       refine lx_e (sv x120) S trivial (by decide) rfl trivial (q_load1 rfl Tryz.isAgg9 (by rintro _ rfl; exact (hat124 0 _ rfl))) (fun a S => ?_)
       refine lq (.bool (x120 != ([45] : Str))) S (q_sneq rfl rfl) fun a S => ?_
       refine lx_nil (thenN ?_)
       refine cond_b S rfl (fun hc125 => ?_) (fun hc125 => ?_)
       ·have hm := ite_t hc125 hm
        refine wp_seq (region_plain ?_)
        refine lq v48 S (q_move rfl) fun a S => ?_
        obtain ⟨x126, e127, hm⟩ := bind_some hm
        have hlt := lt_of_idx (idx_some e127).2
        refine lq (ePtr v48 ((2 : Int).toNat * 1)) S (q_indexAddr rfl (H.isSl 4 rfl) rfl (idx_some e127).1 hlt Tryz.underlying22 Tryz.sizeOf9) fun a S => ?_
        obtain ⟨c128, h129, hat130⟩ := (H.rdAt 4 rfl).elem (idx_some e127).2
        obtain rfl := h129
        refine lx_e (sv x126) S trivial (by decide) rfl trivial (q_load1 rfl Tryz.isAgg9 (by rintro _ rfl; exact (hat130 0 _ rfl))) (fun a S => ?_)
        obtain ⟨x133, e134, hm⟩ := bind_some hm
        refine lx_call (xs := [.tmp 80, .const (.int .u8 (32))]) S trivial (by decide) rfl rfl Tryz.call22 ((spec_l01Split_ok   e134).mono ?_)
        rintro e w131 ⟨v135, rfl, Hc132⟩
        have H := H.call1 Hc132
        refine ⟨_, rfl, trivial, fun a S => ?_⟩
        refine lq v135 S (q_assign rfl) fun a S => ?_
        refine lx_nil (thenN ?_)
        refine wp_seq (wp_seq (region_plain ?_))
        refine lq v135 S (q_move rfl) fun a S => ?_
        refine lq (.int .i64 (x133.length : Int)) S (q_lenSl rfl (H.isSl 0 rfl) rfl Tryz.underlying22) fun a S => ?_
        refine lq (.bool (decide ((300 : Int) < (x133.length : Int)))) S (q_gtr rfl rfl) fun a S => ?_
        refine lx_nil (thenN ?_)
        refine cond_b S rfl (fun hc138 => ?_) (fun hc138 => ?_)
        ·have hm := ite_t hc138 hm
         refine wp_seq (region_plain ?_)
         refine lq (.agg #[(.int .i64 (0 : Int)), (.int .i64 (0 : Int)), (.slice none 0 0), (.slice none 0 0)]) S (q_build (zs := [(.int .i64 (0 : Int)), (.int .i64 (0 : Int)), (.slice none 0 0), (.slice none 0 0)]) (szs := [1, 1, 1, 1]) (ps := []) (parts := []) rfl Tryz.underlying25 Tryz.zeroValue25 (fun w => by simp [Tryz.sizeOf2, Tryz.sizeOf22, Tryz.sizeOf23]) trivial rfl) fun a S => ?_
         refine lx_storeBox (o := 0) (i := 1) (us := [(.int .i64 (0 : Int)), (.int .i64 (0 : Int)), (.slice none 0 0), (.slice none 0 0)]) (cs' := [(.int .i64 (0 : Int)), (.int .i64 (0 : Int)), (.slice none 0 0), (.slice none 0 0)]) S trivial rfl H rfl rfl rfl rfl Tryz.sizeOf25 (Nat.le_of_ble_eq_true rfl) (List.forall_mem_cons.2 ⟨rfl, (List.forall_mem_cons.2 ⟨rfl, (List.forall_mem_cons.2 ⟨rfl, (List.forall_mem_cons.2 ⟨rfl, (List.forall_mem_nil _)⟩)⟩)⟩)⟩) rfl (fun w139 H => ⟨trivial, fun a S => ?_⟩)
         change Heap w0 [oA (rList rStr) v135 x133, bA b31 [(.int .i64 (0 : Int)), (.int .i64 (0 : Int)), (.slice none 0 0), (.slice none 0 0)] 25, bA b40 [(.int .i64 x78.1), (.int .i64 x88.1), v100, v37] 25, oA (rList rStr) v100 xs101, oA (rList Rimpl_Edge) v37 ([] : List Timpl_Edge), oA (rList rStr) v48 x46] w139 at H
         refine lq (.bool false) S (q_assign rfl) fun a S => ?_
         refine lx_nil (thenN ?_)
         refine wp_ret ?_
         have hrv0 := RV.cellA (t := 25) (q := 2) (env := [(2, (bp b31)), (3, (.bool false)), (4, (bp b40)), (5, v48), (11, v135), (74, v48), (75, (ePtr v48 ((2 : Int).toNat * 1))), (76, (sv x120)), (77, (.bool (x120 != ([45] : Str)))), (78, v48), (79, (ePtr v48 ((2 : Int).toNat * 1))), (80, (sv x126)), (81, v135), (82, v135), (83, (.int .i64 (x133.length : Int))), (84, (.bool (decide ((300 : Int) < (x133.length : Int))))), (85, (.agg #[(.int .i64 (0 : Int)), (.int .i64 (0 : Int)), (.slice none 0 0), (.slice none 0 0)]))]) H (i := 1) rfl rfl Tryz.isAgg25 Tryz.sizeOf25
         have hrv1 : RV Tryz.prog _ w139 (.tmp 3) (.bool false) := (rfl : lk [(2, (bp b31)), (3, (.bool false)), (4, (bp b40)), (5, v48), (11, v135), (74, v48), (75, (ePtr v48 ((2 : Int).toNat * 1))), (76, (sv x120)), (77, (.bool (x120 != ([45] : Str)))), (78, v48), (79, (ePtr v48 ((2 : Int).toNat * 1))), (80, (sv x126)), (81, v135), (82, v135), (83, (.int .i64 (x133.length : Int))), (84, (.bool (decide ((300 : Int) < (x133.length : Int))))), (85, (.agg #[(.int .i64 (0 : Int)), (.int .i64 (0 : Int)), (.slice none 0 0), (.slice none 0 0)]))] 3 = some (.bool false))
         refine then_ret ?_
         refine then_ret ?_
         obtain rfl := Option.some.inj hm
         have H : Heap w0 [oA (rList rStr) (.slice none 0 0) ([] : List Str), oA (rList rStr) v135 x133, bA b31 [(.int .i64 (0 : Int)), (.int .i64 (0 : Int)), (.slice none 0 0), (.slice none 0 0)] 25, bA b40 [(.int .i64 x78.1), (.int .i64 x88.1), v100, v37] 25, oA (rList rStr) v100 xs101, oA (rList Rimpl_Edge) v37 ([] : List Timpl_Edge), oA (rList rStr) v48 x46] w139 := H.nilList rStr
         have H : Heap w0 [oA (rList Rimpl_Edge) (.slice none 0 0) ([] : List Timpl_Edge), oA (rList rStr) (.slice none 0 0) ([] : List Str), oA (rList rStr) v135 x133, bA b31 [(.int .i64 (0 : Int)), (.int .i64 (0 : Int)), (.slice none 0 0), (.slice none 0 0)] 25, bA b40 [(.int .i64 x78.1), (.int .i64 x88.1), v100, v37] 25, oA (rList rStr) v100 xs101, oA (rList Rimpl_Edge) v37 ([] : List Timpl_Edge), oA (rList rStr) v48 x46] w139 := H.nilList Rimpl_Edge
         have H : Heap w0 [oA (rList rStr) (.slice none 0 0) ([] : List Str), oA (rList Rimpl_Edge) (.slice none 0 0) ([] : List Timpl_Edge), oA (rList rStr) v135 x133, bA b31 [(.int .i64 (0 : Int)), (.int .i64 (0 : Int)), (.slice none 0 0), (.slice none 0 0)] 25, bA b40 [(.int .i64 x78.1), (.int .i64 x88.1), v100, v37] 25, oA (rList rStr) v100 xs101, oA (rList Rimpl_Edge) v37 ([] : List Timpl_Edge), oA (rList rStr) v48 x46] w139 := H.front 1 rfl
         have H : Heap w0 [oA (rList rStr) (.slice none 0 0) ([] : List Str), oA (rList Rimpl_Edge) (.slice none 0 0) ([] : List Timpl_Edge)] w139 := H.sel [0, 1] (by decide)
         exact leaveR2 S rfl hrv0 hrv1 ⟨(.slice none 0 0), (.slice none 0 0), rfl, H⟩
        ·have hm := ite_f hc138 hm
         refine wp_skip (thenN ?_)
         refine wp_seq (region_plain ?_)
         refine lq (.int .i64 (0 : Int)) S (q_assign rfl) fun a S => ?_
         refine lx_nil (thenN ?_)
         obtain ⟨res281, hit282, hk285⟩ := bind_some hm
         obtain ⟨f283, hf284, hit282⟩ := iter_name hit282
         refine block_loop (fun a w => ∃ (xs279 : List Timpl_Edge) (v278 : Value), Slots a 146 [(2, (bp b31)), (4, (bp b40))] ∧ Heap w0 [bA b31 [(.int .i64 (0 : Int)), (.int .i64 (0 : Int)), (.slice none 0 0), (.slice none 0 0)] 25, bA b40 [(.int .i64 x78.1), (.int .i64 x88.1), v100, v278] 25, oA (rList rStr) v100 xs101, oA (rList Rimpl_Edge) v278 xs279] w ∧ res281 = .inl (xs279)) ?_ ?_
         ·rintro a w ⟨xs279, v278, S, H, rfl⟩
          have hm := ctl_inl hk285
          exact ⟨xs279, v278, S.sub ⟨rfl, rfl, trivial⟩, H, hm⟩
         ·skip
          have H : Heap w0 [oA (rList Rimpl_Edge) v37 ([] : List Timpl_Edge), oA (rList rStr) v135 x133, bA b31 [(.int .i64 (0 : Int)), (.int .i64 (0 : Int)), (.slice none 0 0), (.slice none 0 0)] 25, bA b40 [(.int .i64 x78.1), (.int .i64 x88.1), v100, v37] 25, oA (rList rStr) v100 xs101, oA (rList rStr) v48 x46] w131 := H.front 4 rfl
          have H : Heap w0 [oA (rList rStr) v100 xs101, oA (rList Rimpl_Edge) v37 ([] : List Timpl_Edge), oA (rList rStr) v135 x133, bA b31 [(.int .i64 (0 : Int)), (.int .i64 (0 : Int)), (.slice none 0 0), (.slice none 0 0)] 25, bA b40 [(.int .i64 x78.1), (.int .i64 x88.1), v100, v37] 25, oA (rList rStr) v48 x46] w131 := H.front 4 rfl
          have H : Heap w0 [bA b40 [(.int .i64 x78.1), (.int .i64 x88.1), v100, v37] 25, oA (rList rStr) v100 xs101, oA (rList Rimpl_Edge) v37 ([] : List Timpl_Edge), oA (rList rStr) v135 x133, bA b31 [(.int .i64 (0 : Int)), (.int .i64 (0 : Int)), (.slice none 0 0), (.slice none 0 0)] 25, oA (rList rStr) v48 x46] w131 := H.front 4 rfl
          have H : Heap w0 [bA b31 [(.int .i64 (0 : Int)), (.int .i64 (0 : Int)), (.slice none 0 0), (.slice none 0 0)] 25, bA b40 [(.int .i64 x78.1), (.int .i64 x88.1), v100, v37] 25, oA (rList rStr) v100 xs101, oA (rList Rimpl_Edge) v37 ([] : List Timpl_Edge), oA (rList rStr) v135 x133, oA (rList rStr) v48 x46] w131 := H.front 4 rfl
          have H : Heap w0 [bA b31 [(.int .i64 (0 : Int)), (.int .i64 (0 : Int)), (.slice none 0 0), (.slice none 0 0)] 25, bA b40 [(.int .i64 x78.1), (.int .i64 x88.1), v100, v37] 25, oA (rList rStr) v100 xs101, oA (rList Rimpl_Edge) v37 ([] : List Timpl_Edge), oA (rList rStr) v135 x133] w131 := H.sel [0, 1, 2, 3, 4] (by decide)
          refine loop_ghost (fun n a w => ∃ (xs209 : List Timpl_Edge) (x211 : Int) (v208 : Value), Slots a 146 [(2, (bp b31)), (4, (bp b40)), (11, v135), (12, (.int .i64 x211))] ∧ Heap w0 [bA b31 [(.int .i64 (0 : Int)), (.int .i64 (0 : Int)), (.slice none 0 0), (.slice none 0 0)] 25, bA b40 [(.int .i64 x78.1), (.int .i64 x88.1), v100, v208] 25, oA (rList rStr) v100 xs101, oA (rList Rimpl_Edge) v208 xs209, oA (rList rStr) v135 x133] w ∧ iter f283 n (xs209, x211) = some res281) _ ⟨([] : List Timpl_Edge), (0 : Int), v37, S.sub ⟨rfl, rfl, rfl, rfl, trivial⟩, H, hit282⟩ ?_
          rintro n a w ⟨xs209, x211, v208, S, H, hit282⟩
          obtain ⟨m286, o287, rfl, hm, hc288⟩ := iter_step hit282
          rw [hf284] at hm
          refine wp_seq (wp_seq (region_plain ?_))
          refine lq (.int .i64 x211) S (q_move rfl) fun a S => ?_
          refine lq v135 S (q_move rfl) fun a S => ?_
          refine lq (.int .i64 (x133.length : Int)) S (q_lenSl rfl (H.isSl 4 rfl) rfl Tryz.underlying22) fun a S => ?_
          refine lq (.bool (decide (x211 < (x133.length : Int)))) S (q_lss rfl rfl) fun a S => ?_
          refine lx_nil (thenN ?_)
          refine cond_b S rfl (fun hc289 => ?_) (fun hc289 => ?_)
          ·have hm := ite_t hc289 hm
           refine wp_skip (thenN ?_)
           refine wp_seq ?_
           refine wp_block ?_
           refine wp_seq (region_plain ?_)
           refine lq v135 S (q_move rfl) fun a S => ?_
           refine lq (.int .i64 x211) S (q_move rfl) fun a S => ?_
           obtain ⟨x290, e291, hm⟩ := bind_some hm
           have hlt := lt_of_idx (idx_some e291).2
           refine lq (ePtr v135 (x211.toNat * 1)) S (q_indexAddr rfl (H.isSl 4 rfl) rfl (idx_some e291).1 hlt Tryz.underlying22 Tryz.sizeOf9) fun a S => ?_
           obtain ⟨c292, h293, hat294⟩ := (H.rdAt 4 rfl).elem (idx_some e291).2
           obtain rfl := h293
           refine lx_e (sv x290) S trivial (by decide) rfl trivial (q_load1 rfl Tryz.isAgg9 (by rintro _ rfl; exact (hat294 0 _ rfl))) (fun a S => ?_)
           obtain ⟨x297, e298, hm⟩ := bind_some hm
           refine lx_call (xs := [.tmp 95, .const (.int .u8 (58))]) S trivial (by decide) rfl rfl Tryz.call22 ((spec_l01Split_ok   e298).mono ?_)
           rintro e w295 ⟨v299, rfl, Hc296⟩
           have H := H.call1 Hc296
           refine ⟨_, rfl, trivial, fun a S => ?_⟩
           refine lq v299 S (q_assign rfl) fun a S => ?_
           refine lx_nil (thenN ?_)
           refine wp_seq (wp_seq (region_plain ?_))
           refine lq v299 S (q_move rfl) fun a S => ?_
           refine lq (.int .i64 (x297.length : Int)) S (q_lenSl rfl (H.isSl 0 rfl) rfl Tryz.underlying22) fun a S => ?_
           refine lq (.bool ((x297.length : Int) != (3 : Int))) S (q_neq rfl rfl) fun a S => ?_
           refine lx_nil (thenN ?_)
           refine cond_b S rfl (fun hc302 => ?_) (fun hc302 => ?_)
           ·have hm := ite_t hc302 hm
            refine wp_seq (region_plain ?_)
            refine lq (.agg #[(.int .i64 (0 : Int)), (.int .i64 (0 : Int)), (.slice none 0 0), (.slice none 0 0)]) S (q_build (zs := [(.int .i64 (0 : Int)), (.int .i64 (0 : Int)), (.slice none 0 0), (.slice none 0 0)]) (szs := [1, 1, 1, 1]) (ps := []) (parts := []) rfl Tryz.underlying25 Tryz.zeroValue25 (fun w => by simp [Tryz.sizeOf2, Tryz.sizeOf22, Tryz.sizeOf23]) trivial rfl) fun a S => ?_
            refine lx_storeBox (o := 0) (i := 1) (us := [(.int .i64 (0 : Int)), (.int .i64 (0 : Int)), (.slice none 0 0), (.slice none 0 0)]) (cs' := [(.int .i64 (0 : Int)), (.int .i64 (0 : Int)), (.slice none 0 0), (.slice none 0 0)]) S trivial rfl H rfl rfl rfl rfl Tryz.sizeOf25 (Nat.le_of_ble_eq_true rfl) (List.forall_mem_cons.2 ⟨rfl, (List.forall_mem_cons.2 ⟨rfl, (List.forall_mem_cons.2 ⟨rfl, (List.forall_mem_cons.2 ⟨rfl, (List.forall_mem_nil _)⟩)⟩)⟩)⟩) rfl (fun w303 H => ⟨trivial, fun a S => ?_⟩)
            change Heap w0 [oA (rList rStr) v299 x297, bA b31 [(.int .i64 (0 : Int)), (.int .i64 (0 : Int)), (.slice none 0 0), (.slice none 0 0)] 25, bA b40 [(.int .i64 x78.1), (.int .i64 x88.1), v100, v208] 25, oA (rList rStr) v100 xs101, oA (rList Rimpl_Edge) v208 xs209, oA (rList rStr) v135 x133] w303 at H
            refine lq (.bool false) S (q_assign rfl) fun a S => ?_
            refine lx_nil (thenN ?_)
            refine wp_ret ?_
            have hrv0 := RV.cellA (t := 25) (q := 2) (env := [(2, (bp b31)), (3, (.bool false)), (4, (bp b40)), (11, v135), (12, (.int .i64 x211)), (13, v299), (86, (.int .i64 x211)), (87, v135), (88, (.int .i64 (x133.length : Int))), (89, (.bool (decide (x211 < (x133.length : Int))))), (92, v135), (93, (.int .i64 x211)), (94, (ePtr v135 (x211.toNat * 1))), (95, (sv x290)), (96, v299), (97, v299), (98, (.int .i64 (x297.length : Int))), (99, (.bool ((x297.length : Int) != (3 : Int)))), (100, (.agg #[(.int .i64 (0 : Int)), (.int .i64 (0 : Int)), (.slice none 0 0), (.slice none 0 0)]))]) H (i := 1) rfl rfl Tryz.isAgg25 Tryz.sizeOf25
            have hrv1 : RV Tryz.prog _ w303 (.tmp 3) (.bool false) := (rfl : lk [(2, (bp b31)), (3, (.bool false)), (4, (bp b40)), (11, v135), (12, (.int .i64 x211)), (13, v299), (86, (.int .i64 x211)), (87, v135), (88, (.int .i64 (x133.length : Int))), (89, (.bool (decide (x211 < (x133.length : Int))))), (92, v135), (93, (.int .i64 x211)), (94, (ePtr v135 (x211.toNat * 1))), (95, (sv x290)), (96, v299), (97, v299), (98, (.int .i64 (x297.length : Int))), (99, (.bool ((x297.length : Int) != (3 : Int)))), (100, (.agg #[(.int .i64 (0 : Int)), (.int .i64 (0 : Int)), (.slice none 0 0), (.slice none 0 0)]))] 3 = some (.bool false))
            refine then_ret ?_
            refine inBlock_ret ?_
            refine then_ret ?_
            refine then_ret ?_
            refine inBlock_ret ?_
            refine then_ret ?_
            refine then_ret ?_
            obtain rfl := it_brk hm hc288
            have hm := ctl_inr hk285
            obtain rfl := Option.some.inj hm
            have H : Heap w0 [oA (rList rStr) (.slice none 0 0) ([] : List Str), oA (rList rStr) v299 x297, bA b31 [(.int .i64 (0 : Int)), (.int .i64 (0 : Int)), (.slice none 0 0), (.slice none 0 0)] 25, bA b40 [(.int .i64 x78.1), (.int .i64 x88.1), v100, v208] 25, oA (rList rStr) v100 xs101, oA (rList Rimpl_Edge) v208 xs209, oA (rList rStr) v135 x133] w303 := H.nilList rStr
            have H : Heap w0 [oA (rList Rimpl_Edge) (.slice none 0 0) ([] : List Timpl_Edge), oA (rList rStr) (.slice none 0 0) ([] : List Str), oA (rList rStr) v299 x297, bA b31 [(.int .i64 (0 : Int)), (.int .i64 (0 : Int)), (.slice none 0 0), (.slice none 0 0)] 25, bA b40 [(.int .i64 x78.1), (.int .i64 x88.1), v100, v208] 25, oA (rList rStr) v100 xs101, oA (rList Rimpl_Edge) v208 xs209, oA (rList rStr) v135 x133] w303 := H.nilList Rimpl_Edge
            have H : Heap w0 [oA (rList rStr) (.slice none 0 0) ([] : List Str), oA (rList Rimpl_Edge) (.slice none 0 0) ([] : List Timpl_Edge), oA (rList rStr) v299 x297, bA b31 [(.int .i64 (0 : Int)), (.int .i64 (0 : Int)), (.slice none 0 0), (.slice none 0 0)] 25, bA b40 [(.int .i64 x78.1), (.int .i64 x88.1), v100, v208] 25, oA (rList rStr) v100 xs101, oA (rList Rimpl_Edge) v208 xs209, oA (rList rStr) v135 x133] w303 := H.front 1 rfl
            have H : Heap w0 [oA (rList rStr) (.slice none 0 0) ([] : List Str), oA (rList Rimpl_Edge) (.slice none 0 0) ([] : List Timpl_Edge)] w303 := H.sel [0, 1] (by decide)
            exact leaveR2 S rfl hrv0 hrv1 ⟨(.slice none 0 0), (.slice none 0 0), rfl, H⟩
           ·have hm := ite_f hc302 hm
            refine wp_skip (thenN ?_)
            refine wp_seq (region_plain ?_)
            refine lq v299 S (q_move rfl) fun a S => ?_
            obtain ⟨x306, e307, hm⟩ := bind_some hm
            have hlt := lt_of_idx (idx_some e307).2
            refine lq (ePtr v299 ((0 : Int).toNat * 1)) S (q_indexAddr rfl (H.isSl 0 rfl) rfl (idx_some e307).1 hlt Tryz.underlying22 Tryz.sizeOf9) fun a S => ?_
            obtain ⟨c308, h309, hat310⟩ := (H.rdAt 0 rfl).elem (idx_some e307).2
            obtain rfl := h309
            refine lx_e (sv x306) S trivial (by decide) rfl trivial (q_load1 rfl Tryz.isAgg9 (by rintro _ rfl; exact (hat310 0 _ rfl))) (fun a S => ?_)
            obtain ⟨x313, e314, hm⟩ := bind_some hm
            refine lx_call (xs := [.tmp 104]) S trivial (by decide) rfl rfl Tryz.call23 ((spec_l01Number_ok  e314).mono ?_)
            rintro e w311 ⟨rfl, Hc312⟩
            have H := H.call0 Hc312
            refine ⟨_, rfl, trivial, fun a S => ?_⟩
            refine lq (.tuple #[(.int .i64 x313.1), (.bool x313.2)]) S (q_move rfl) fun a S => ?_
            refine lq (.int .i64 x313.1) S (q_extract rfl rfl) fun a S => ?_
            refine lq (.bool x313.2) S (q_extract rfl rfl) fun a S => ?_
            refine lq (.int .i64 x313.1) S (q_assign rfl) fun a S => ?_
            refine lq (.bool x313.2) S (q_assign rfl) fun a S => ?_
            refine lx_nil (thenN ?_)
            refine wp_seq (region_plain ?_)
            refine lq v299 S (q_move rfl) fun a S => ?_
            obtain ⟨x316, e317, hm⟩ := bind_some hm
            have hlt := lt_of_idx (idx_some e317).2
            refine lq (ePtr v299 ((1 : Int).toNat * 1)) S (q_indexAddr rfl (H.isSl 0 rfl) rfl (idx_some e317).1 hlt Tryz.underlying22 Tryz.sizeOf9) fun a S => ?_
            obtain ⟨c318, h319, hat320⟩ := (H.rdAt 0 rfl).elem (idx_some e317).2
            obtain rfl := h319
            refine lx_e (sv x316) S trivial (by decide) rfl trivial (q_load1 rfl Tryz.isAgg9 (by rintro _ rfl; exact (hat320 0 _ rfl))) (fun a S => ?_)
            obtain ⟨x323, e324, hm⟩ := bind_some hm
            refine lx_call (xs := [.tmp 111]) S trivial (by decide) rfl rfl Tryz.call23 ((spec_l01Number_ok  e324).mono ?_)
            rintro e w321 ⟨rfl, Hc322⟩
            have H := H.call0 Hc322
            refine ⟨_, rfl, trivial, fun a S => ?_⟩
            refine lq (.tuple #[(.int .i64 x323.1), (.bool x323.2)]) S (q_move rfl) fun a S => ?_
            refine lq (.int .i64 x323.1) S (q_extract rfl rfl) fun a S => ?_
            refine lq (.bool x323.2) S (q_extract rfl rfl) fun a S => ?_
            refine lq (.int .i64 x323.1) S (q_assign rfl) fun a S => ?_
            refine lq (.bool x323.2) S (q_assign rfl) fun a S => ?_
            refine lx_nil (thenN ?_)
            refine wp_seq (region_plain ?_)
            refine lq v299 S (q_move rfl) fun a S => ?_
            obtain ⟨x326, e327, hm⟩ := bind_some hm
            have hlt := lt_of_idx (idx_some e327).2
            refine lq (ePtr v299 ((2 : Int).toNat * 1)) S (q_indexAddr rfl (H.isSl 0 rfl) rfl (idx_some e327).1 hlt Tryz.underlying22 Tryz.sizeOf9) fun a S => ?_
            obtain ⟨c328, h329, hat330⟩ := (H.rdAt 0 rfl).elem (idx_some e327).2
            obtain rfl := h329
            refine lx_e (sv x326) S trivial (by decide) rfl trivial (q_load1 rfl Tryz.isAgg9 (by rintro _ rfl; exact (hat330 0 _ rfl))) (fun a S => ?_)
            obtain ⟨x333, e334, hm⟩ := bind_some hm
            refine lx_call (xs := [.tmp 118]) S trivial (by decide) rfl rfl Tryz.call23 ((spec_l01Number_ok  e334).mono ?_)
            rintro e w331 ⟨rfl, Hc332⟩
            have H := H.call0 Hc332
            refine ⟨_, rfl, trivial, fun a S => ?_⟩
            refine lq (.tuple #[(.int .i64 x333.1), (.bool x333.2)]) S (q_move rfl) fun a S => ?_
            refine lq (.int .i64 x333.1) S (q_extract rfl rfl) fun a S => ?_
            refine lq (.bool x333.2) S (q_extract rfl rfl) fun a S => ?_
            refine lq (.int .i64 x333.1) S (q_assign rfl) fun a S => ?_
            refine lq (.bool x333.2) S (q_assign rfl) fun a S => ?_
            refine lx_nil (thenN ?_)
            refine wp_seq (wp_seq (region_plain ?_))
            refine lq (.bool x313.2) S (q_move rfl) fun a S => ?_
            refine lq (.bool (!x313.2)) S (q_not rfl) fun a S => ?_
            refine lq (.bool (!x313.2)) S (q_move rfl) fun a S => ?_
            obtain ⟨t336, e337, hm⟩ := bind_some hm
            refine lx_cut 3 (fun a w => Slots a 146 [(2, (bp b31)), (4, (bp b40)), (11, v135), (12, (.int .i64 x211)), (14, (.int .i64 x313.1)), (16, (.int .i64 x323.1)), (18, (.int .i64 x333.1)), (19, (.bool x333.2)), (127, (.bool t336))] ∧ Heap w0 [bA b31 [(.int .i64 (0 : Int)), (.int .i64 (0 : Int)), (.slice none 0 0), (.slice none 0 0)] 25, bA b40 [(.int .i64 x78.1), (.int .i64 x88.1), v100, v208] 25, oA (rList rStr) v100 xs101, oA (rList Rimpl_Edge) v208 xs209, oA (rList rStr) v135 x133] w) ?_ ?_
            ·by_cases hc338 : (!x313.2) = true
             ·have hm := ite_t hc338 e337
              refine lx_skip S rfl rfl (isB_ne hc338) (by decide) (fun a S => ?_)
              refine lx_skip S rfl rfl (isB_ne hc338) (by decide) (fun a S => ?_)
              refine lq (.bool true) S (q_pickT' rfl hc338 rfl) fun a S => ?_
              refine lx_nil ?_
              obtain rfl := Option.some.inj hm
              have H := H.sel [1, 2, 3, 4, 5] (by decide)
              exact ⟨S.sub ⟨rfl, rfl, rfl, rfl, rfl, rfl, rfl, rfl, rfl, trivial⟩, H⟩
             ·have hm := ite_f (eq_false_of_ne_true hc338) e337
              have hc338 : (!x313.2) = false := eq_false_of_ne_true hc338
              refine lx_q (.bool x323.2) S (want_b rfl rfl hc338) (by decide) (q_move rfl) (fun a S => ?_)
              refine lx_q (.bool (!x323.2)) S (want_b rfl rfl hc338) (by decide) (q_not rfl) (fun a S => ?_)
              refine lq (.bool (!x323.2)) S (q_pickF' rfl hc338 rfl) fun a S => ?_
              refine lx_nil ?_
              obtain rfl := Option.some.inj hm
              have H := H.sel [1, 2, 3, 4, 5] (by decide)
              exact ⟨S.sub ⟨rfl, rfl, rfl, rfl, rfl, rfl, rfl, rfl, rfl, trivial⟩, H⟩
            ·rintro a w ⟨S, H⟩
             refine lq (.bool t336) S (q_move rfl) fun a S => ?_
             obtain ⟨t339, e340, hm⟩ := bind_some hm
             refine lx_cut 3 (fun a w => Slots a 146 [(2, (bp b31)), (4, (bp b40)), (11, v135), (12, (.int .i64 x211)), (14, (.int .i64 x313.1)), (16, (.int .i64 x323.1)), (18, (.int .i64 x333.1)), (131, (.bool t339))] ∧ Heap w0 [bA b31 [(.int .i64 (0 : Int)), (.int .i64 (0 : Int)), (.slice none 0 0), (.slice none 0 0)] 25, bA b40 [(.int .i64 x78.1), (.int .i64 x88.1), v100, v208] 25, oA (rList rStr) v100 xs101, oA (rList Rimpl_Edge) v208 xs209, oA (rList rStr) v135 x133] w) ?_ ?_
             ·by_cases hc341 : t336 = true
              ·have hm := ite_t hc341 e340
               refine lx_skip S rfl rfl (isB_ne hc341) (by decide) (fun a S => ?_)
               refine lx_skip S rfl rfl (isB_ne hc341) (by decide) (fun a S => ?_)
               refine lq (.bool true) S (q_pickT' rfl hc341 rfl) fun a S => ?_
               refine lx_nil ?_
               obtain rfl := Option.some.inj hm
               exact ⟨S.sub ⟨rfl, rfl, rfl, rfl, rfl, rfl, rfl, rfl, trivial⟩, H⟩
              ·have hm := ite_f (eq_false_of_ne_true hc341) e340
               have hc341 : t336 = false := eq_false_of_ne_true hc341
               refine lx_q (.bool x333.2) S (want_b rfl rfl hc341) (by decide) (q_move rfl) (fun a S => ?_)
               refine lx_q (.bool (!x333.2)) S (want_b rfl rfl hc341) (by decide) (q_not rfl) (fun a S => ?_)
               refine lq (.bool (!x333.2)) S (q_pickF' rfl hc341 rfl) fun a S => ?_
               refine lx_nil ?_
               obtain rfl := Option.some.inj hm
               exact ⟨S.sub ⟨rfl, rfl, rfl, rfl, rfl, rfl, rfl, rfl, trivial⟩, H⟩
             ·rintro a w ⟨S, H⟩
              refine lx_nil (thenN ?_)
              refine cond_b S rfl (fun hc342 => ?_) (fun hc342 => ?_)
              ·have hm := ite_t hc342 hm
               refine wp_seq (region_plain ?_)
               refine lq (.agg #[(.int .i64 (0 : Int)), (.int .i64 (0 : Int)), (.slice none 0 0), (.slice none 0 0)]) S (q_build (zs := [(.int .i64 (0 : Int)), (.int .i64 (0 : Int)), (.slice none 0 0), (.slice none 0 0)]) (szs := [1, 1, 1, 1]) (ps := []) (parts := []) rfl Tryz.underlying25 Tryz.zeroValue25 (fun w => by simp [Tryz.sizeOf2, Tryz.sizeOf22, Tryz.sizeOf23]) trivial rfl) fun a S => ?_
               refine lx_storeBox (o := 0) (i := 0) (us := [(.int .i64 (0 : Int)), (.int .i64 (0 : Int)), (.slice none 0 0), (.slice none 0 0)]) (cs' := [(.int .i64 (0 : Int)), (.int .i64 (0 : Int)), (.slice none 0 0), (.slice none 0 0)]) S trivial rfl H rfl rfl rfl rfl Tryz.sizeOf25 (Nat.le_of_ble_eq_true rfl) (List.forall_mem_cons.2 ⟨rfl, (List.forall_mem_cons.2 ⟨rfl, (List.forall_mem_cons.2 ⟨rfl, (List.forall_mem_cons.2 ⟨rfl, (List.forall_mem_nil _)⟩)⟩)⟩)⟩) rfl (fun w343 H => ⟨trivial, fun a S => ?_⟩)
               change Heap w0 [bA b31 [(.int .i64 (0 : Int)), (.int .i64 (0 : Int)), (.slice none 0 0), (.slice none 0 0)] 25, bA b40 [(.int .i64 x78.1), (.int .i64 x88.1), v100, v208] 25, oA (rList rStr) v100 xs101, oA (rList Rimpl_Edge) v208 xs209, oA (rList rStr) v135 x133] w343 at H
               refine lq (.bool false) S (q_assign rfl) fun a S => ?_
               refine lx_nil (thenN ?_)
               refine wp_ret ?_
               have hrv0 := RV.cellA (t := 25) (q := 2) (env := [(2, (bp b31)), (3, (.bool false)), (4, (bp b40)), (11, v135), (12, (.int .i64 x211)), (14, (.int .i64 x313.1)), (16, (.int .i64 x323.1)), (18, (.int .i64 x333.1)), (131, (.bool t339)), (132, (.agg #[(.int .i64 (0 : Int)), (.int .i64 (0 : Int)), (.slice none 0 0), (.slice none 0 0)]))]) H (i := 0) rfl rfl Tryz.isAgg25 Tryz.sizeOf25
               have hrv1 : RV Tryz.prog _ w343 (.tmp 3) (.bool false) := (rfl : lk [(2, (bp b31)), (3, (.bool false)), (4, (bp b40)), (11, v135), (12, (.int .i64 x211)), (14, (.int .i64 x313.1)), (16, (.int .i64 x323.1)), (18, (.int .i64 x333.1)), (131, (.bool t339)), (132, (.agg #[(.int .i64 (0 : Int)), (.int .i64 (0 : Int)), (.slice none 0 0), (.slice none 0 0)]))] 3 = some (.bool false))
               refine then_ret ?_
               refine inBlock_ret ?_
               refine then_ret ?_
               refine then_ret ?_
               refine inBlock_ret ?_
               refine then_ret ?_
               refine then_ret ?_
               obtain rfl := it_brk hm hc288
               have hm := ctl_inr hk285
               obtain rfl := Option.some.inj hm
               have H : Heap w0 [oA (rList rStr) (.slice none 0 0) ([] : List Str), bA b31 [(.int .i64 (0 : Int)), (.int .i64 (0 : Int)), (.slice none 0 0), (.slice none 0 0)] 25, bA b40 [(.int .i64 x78.1), (.int .i64 x88.1), v100, v208] 25, oA (rList rStr) v100 xs101, oA (rList Rimpl_Edge) v208 xs209, oA (rList rStr) v135 x133] w343 := H.nilList rStr
               have H : Heap w0 [oA (rList Rimpl_Edge) (.slice none 0 0) ([] : List Timpl_Edge), oA (rList rStr) (.slice none 0 0) ([] : List Str), bA b31 [(.int .i64 (0 : Int)), (.int .i64 (0 : Int)), (.slice none 0 0), (.slice none 0 0)] 25, bA b40 [(.int .i64 x78.1), (.int .i64 x88.1), v100, v208] 25, oA (rList rStr) v100 xs101, oA (rList Rimpl_Edge) v208 xs209, oA (rList rStr) v135 x133] w343 := H.nilList Rimpl_Edge
               have H : Heap w0 [oA (rList rStr) (.slice none 0 0) ([] : List Str), oA (rList Rimpl_Edge) (.slice none 0 0) ([] : List Timpl_Edge), bA b31 [(.int .i64 (0 : Int)), (.int .i64 (0 : Int)), (.slice none 0 0), (.slice none 0 0)] 25, bA b40 [(.int .i64 x78.1), (.int .i64 x88.1), v100, v208] 25, oA (rList rStr) v100 xs101, oA (rList Rimpl_Edge) v208 xs209, oA (rList rStr) v135 x133] w343 := H.front 1 rfl
               have H : Heap w0 [oA (rList rStr) (.slice none 0 0) ([] : List Str), oA (rList Rimpl_Edge) (.slice none 0 0) ([] : List Timpl_Edge)] w343 := H.sel [0, 1] (by decide)
               exact leaveR2 S rfl hrv0 hrv1 ⟨(.slice none 0 0), (.slice none 0 0), rfl, H⟩
              ·have hm := ite_f hc342 hm
               refine wp_skip (thenN ?_)
               refine region_plain ?_
               refine lq (pAdd (bp b40) 3) S (q_fieldAddr' 3 23 rfl (isP_bp _) Tryz.underlying25 rfl Tryz.sizeOf23) fun a S => ?_
               refine lx_e v208 S trivial (by decide) rfl trivial (q_load1 rfl Tryz.isAgg23 (by rintro _ rfl; exact (At.of_add (m := 3) (j := 0) (boxAt (i := 1) H rfl (j := 3) rfl)))) (fun a S => ?_)
               refine lq (.int .i64 x313.1) S (q_move rfl) fun a S => ?_
               refine lq (.int .i64 x323.1) S (q_move rfl) fun a S => ?_
               refine lq (.int .i64 x333.1) S (q_move rfl) fun a S => ?_
               refine lq (.agg #[(.int .i64 x313.1), (.int .i64 x323.1), (.int .i64 x333.1)]) S (q_build (zs := [(.int .i64 (0 : Int)), (.int .i64 (0 : Int)), (.int .i64 (0 : Int))]) (szs := [1, 1, 1]) (ps := [(0, [(.int .i64 x313.1)]), (1, [(.int .i64 x323.1)]), (2, [(.int .i64 x333.1)])]) (parts := [(0, .tmp 135), (1, .tmp 136), (2, .tmp 137)]) rfl Tryz.underlying48 Tryz.zeroValue48 (fun w => by simp [Tryz.sizeOf2]) ⟨rfl, rfl, Nat.le_of_ble_eq_true rfl, ⟨rfl, rfl, Nat.le_of_ble_eq_true rfl, ⟨rfl, rfl, Nat.le_of_ble_eq_true rfl, trivial⟩⟩⟩ rfl) fun a S => ?_
               refine lx_buildSlice (r := Rimpl_Edge) (xs := [(x313.1, x323.1, x333.1)]) (ps := [(0, [(.int .i64 x313.1), (.int .i64 x323.1), (.int .i64 x333.1)])]) (cs := [(.int .i64 x313.1), (.int .i64 x323.1), (.int .i64 x333.1)]) (parts := [(0, .tmp 138)]) S trivial (by decide) rfl (H.put0 (A := eA) rfl) rfl Tryz.underlying23 Tryz.sizeOf48 Tryz.zeroValue48 (by decide) ⟨rfl, rfl, Nat.le_of_ble_eq_true rfl, trivial⟩ (by intro zs hz; exact fill_dense hz ⟨rfl, trivial⟩ rfl rfl) rfl (by decide) (fun w F hA => by cases (show F = [] from hA); exact ⟨_, _, [(.int .i64 x313.1), (.int .i64 x323.1), (.int .i64 x333.1)], _, rfl, rfl, ⟨_, _, [(.int .i64 x313.1)], [(.int .i64 x323.1), (.int .i64 x333.1)], rfl, rfl, ⟨rfl, rfl⟩, ⟨_, _, [(.int .i64 x323.1)], [(.int .i64 x333.1)], rfl, rfl, ⟨rfl, rfl⟩, ⟨rfl, rfl⟩⟩⟩, ⟨rfl, rfl⟩⟩) (fun v346 w347 H => ⟨trivial, fun a S => ?_⟩)
               obtain ⟨x349, e350, hm⟩ := bind_some hm
               obtain ⟨hle, hap⟩ := app_some e350
               replace hap := hap.symm
               subst hap
               have H : Heap w0 [oA (rList Rimpl_Edge) v346 [(x313.1, x323.1, x333.1)], bA b31 [(.int .i64 (0 : Int)), (.int .i64 (0 : Int)), (.slice none 0 0), (.slice none 0 0)] 25, bA b40 [(.int .i64 x78.1), (.int .i64 x88.1), v100, v208] 25, oA (rList rStr) v100 xs101, oA (rList Rimpl_Edge) v208 xs209, oA (rList rStr) v135 x133] w347 := H.front 0 rfl
               have H : Heap w0 [oA (rList Rimpl_Edge) v208 xs209, oA (rList Rimpl_Edge) v346 [(x313.1, x323.1, x333.1)], bA b31 [(.int .i64 (0 : Int)), (.int .i64 (0 : Int)), (.slice none 0 0), (.slice none 0 0)] 25, bA b40 [(.int .i64 x78.1), (.int .i64 x88.1), v100, v208] 25, oA (rList rStr) v100 xs101, oA (rList rStr) v135 x133] w347 := H.front 4 rfl
               refine lx_appendOwn (r := Rimpl_Edge) S trivial (by decide) rfl H rfl rfl Tryz.underlying23 Tryz.ti48 rfl rfl rfl (Nat.le_of_ble_eq_true rfl) (by decide) hle (fun v351 w352 H => ⟨trivial, fun a S => ?_⟩)
               refine lq (pAdd (bp b40) 3) S (q_fieldAddr' 3 23 rfl (isP_bp _) Tryz.underlying25 rfl Tryz.sizeOf23) fun a S => ?_
               refine lx_storeBox (o := 3) (i := 2) (us := [v351]) (cs' := [(.int .i64 x78.1), (.int .i64 x88.1), v100, v351]) S trivial rfl H rfl rfl rfl (cells_sl (H.isSl 0 rfl)) Tryz.sizeOf23 (Nat.le_of_ble_eq_true rfl) (List.forall_mem_cons.2 ⟨one_sl (H.isSl 0 rfl), (List.forall_mem_nil _)⟩) rfl (fun w354 H => ⟨trivial, fun a S => ?_⟩)
               change Heap w0 [oA (rList Rimpl_Edge) v351 (xs209 ++ [(x313.1, x323.1, x333.1)]), bA b31 [(.int .i64 (0 : Int)), (.int .i64 (0 : Int)), (.slice none 0 0), (.slice none 0 0)] 25, bA b40 [(.int .i64 x78.1), (.int .i64 x88.1), v100, v351] 25, oA (rList rStr) v100 xs101, oA (rList rStr) v135 x133] w354 at H
               refine lx_nil ?_
               refine inBlock_norm ?_
               refine thenN ?_
               refine region_plain ?_
               refine lq (.int .i64 x211) S (q_move rfl) fun a S => ?_
               refine lq (.int .i64 (W (x211 + (1 : Int)))) S (q_add rfl rfl) fun a S => ?_
               refine lq (.int .i64 (W (x211 + (1 : Int)))) S (q_assign rfl) fun a S => ?_
               refine lx_nil ?_
               have H : Heap w0 [oA (rList rStr) v135 x133, oA (rList Rimpl_Edge) v351 (xs209 ++ [(x313.1, x323.1, x333.1)]), bA b31 [(.int .i64 (0 : Int)), (.int .i64 (0 : Int)), (.slice none 0 0), (.slice none 0 0)] 25, bA b40 [(.int .i64 x78.1), (.int .i64 x88.1), v100, v351] 25, oA (rList rStr) v100 xs101] w354 := H.front 4 rfl
               have H : Heap w0 [oA (rList Rimpl_Edge) v351 (xs209 ++ [(x313.1, x323.1, x333.1)]), oA (rList rStr) v135 x133, bA b31 [(.int .i64 (0 : Int)), (.int .i64 (0 : Int)), (.slice none 0 0), (.slice none 0 0)] 25, bA b40 [(.int .i64 x78.1), (.int .i64 x88.1), v100, v351] 25, oA (rList rStr) v100 xs101] w354 := H.front 1 rfl
               have H : Heap w0 [oA (rList rStr) v100 xs101, oA (rList Rimpl_Edge) v351 (xs209 ++ [(x313.1, x323.1, x333.1)]), oA (rList rStr) v135 x133, bA b31 [(.int .i64 (0 : Int)), (.int .i64 (0 : Int)), (.slice none 0 0), (.slice none 0 0)] 25, bA b40 [(.int .i64 x78.1), (.int .i64 x88.1), v100, v351] 25] w354 := H.front 4 rfl
               have H : Heap w0 [bA b40 [(.int .i64 x78.1), (.int .i64 x88.1), v100, v351] 25, oA (rList rStr) v100 xs101, oA (rList Rimpl_Edge) v351 (xs209 ++ [(x313.1, x323.1, x333.1)]), oA (rList rStr) v135 x133, bA b31 [(.int .i64 (0 : Int)), (.int .i64 (0 : Int)), (.slice none 0 0), (.slice none 0 0)] 25] w354 := H.front 4 rfl
               have H : Heap w0 [bA b31 [(.int .i64 (0 : Int)), (.int .i64 (0 : Int)), (.slice none 0 0), (.slice none 0 0)] 25, bA b40 [(.int .i64 x78.1), (.int .i64 x88.1), v100, v351] 25, oA (rList rStr) v100 xs101, oA (rList Rimpl_Edge) v351 (xs209 ++ [(x313.1, x323.1, x333.1)]), oA (rList rStr) v135 x133] w354 := H.front 4 rfl
               exact ⟨m286, Nat.lt_succ_self _, (xs209 ++ [(x313.1, x323.1, x333.1)]), (W (x211 + (1 : Int))), v351, S.sub ⟨rfl, rfl, rfl, rfl, trivial⟩, H, it_cont hm hc288⟩
          ·have hm := ite_f hc289 hm
           refine wp_exit ?_
           refine then_exit ?_
           refine then_exit ?_
           refine inBlock_exit ?_
           obtain rfl := it_brk hm hc288
           have H : Heap w0 [bA b31 [(.int .i64 (0 : Int)), (.int .i64 (0 : Int)), (.slice none 0 0), (.slice none 0 0)] 25, bA b40 [(.int .i64 x78.1), (.int .i64 x88.1), v100, v208] 25, oA (rList rStr) v100 xs101, oA (rList Rimpl_Edge) v208 xs209] w := H.sel [0, 1, 2, 3] (by decide)
           exact ⟨xs209, v208, S.sub ⟨rfl, rfl, trivial⟩, H, rfl⟩
       ·have hm := ite_f hc125 hm
        refine wp_skip ?_
        have H : Heap w0 [bA b31 [(.int .i64 (0 : Int)), (.int .i64 (0 : Int)), (.slice none 0 0), (.slice none 0 0)] 25, bA b40 [(.int .i64 x78.1), (.int .i64 x88.1), v100, v37] 25, oA (rList rStr) v100 xs101, oA (rList Rimpl_Edge) v37 ([] : List Timpl_Edge)] w := H.sel [0, 1, 2, 3] (by decide)
        exact ⟨([] : List Timpl_Edge), v37, S.sub ⟨rfl, rfl, trivial⟩, H, hm⟩
     ·skip
      refine wp_seq (region_plain ?_)
      refine lq v48 S (q_move rfl) fun a S => ?_
      obtain ⟨x355, e356, hm⟩ := bind_some hm
      have hlt := lt_of_idx (idx_some e356).2
      refine lq (ePtr v48 ((1 : Int).toNat * 1)) S (q_indexAddr rfl (H.isSl 0 rfl) rfl (idx_some e356).1 hlt Tryz.underlying22 Tryz.sizeOf9) fun a S => ?_
      obtain ⟨c357, h358, hat359⟩ := (H.rdAt 0 rfl).elem (idx_some e356).2
      obtain rfl := h358
      refine lx_e (sv x355) S trivial (by decide) rfl trivial (q_load1 rfl Tryz.isAgg9 (by rintro _ rfl; exact (hat359 0 _ rfl))) (fun a S => ?_)
      refine lq (.bool (x355 != ([45] : Str))) S (q_sneq rfl rfl) fun a S => ?_
      refine lx_nil (thenN ?_)
      refine cond_b S rfl (fun hc360 => ?_) (fun hc360 => ?_)
      ·have hm := ite_t hc360 hm
       obtain ⟨x363, e364, hm⟩ := bind_some hm
       obtain ⟨x367, e368, hm⟩ := bind_some hm
       obtain ⟨x372, e373, hm⟩ := bind_some hm
       refine region_draw2 (m := [_, _, _, _, _, _, _, _, _]) (fun w1 => Heap w0 [oA (rList rStr) v48 x46] w1) (fun i => [1, 5, 6, 8].contains i) (fun i => [5, 3, 6, 8].contains i) [2, 3, 4, 5, 0, 1, 6, 7, 8] 1 5 mixed (by kernel_rfl) rfl rfl rfl (fun w362 he361 => ?_)
       have H := H.later he361
       refine ⟨⟨H.sel [0] (by decide), ?_⟩, ?_⟩
       ·skip
        refine lq (pAdd (bp b40) 2) S (q_fieldAddr' 2 22 rfl (isP_bp _) Tryz.underlying25 rfl Tryz.sizeOf22) fun a S => ?_
        refine lx_e v34 S trivial (by decide) rfl (H.sel [0] (by decide)) (q_load1 rfl Tryz.isAgg22 (by rintro _ rfl; exact (At.of_add (m := 2) (j := 0) (boxAt (i := 1) H rfl (j := 2) rfl)))) (fun a S => ?_)
        refine lq v48 S (q_move rfl) fun a S => ?_
        have hlt := lt_of_idx (idx_some e364).2
        refine lq (ePtr v48 ((1 : Int).toNat * 1)) S (q_indexAddr rfl (H.isSl 0 rfl) rfl (idx_some e364).1 hlt Tryz.underlying22 Tryz.sizeOf9) fun a S => ?_
        refine lq (sv x363) S (q_load1 rfl Tryz.isAgg9 (fun w1 hC => ((hC.rdAt 0 rfl).elemAt (j := 0) (idx_some e364).2 (by intro B w cs h; obtain rfl := h; rfl)))) fun a S => ?_
        refine lx_call (xs := [.tmp 70, .const (.int .u8 (32))]) S trivial (by decide) rfl rfl Tryz.call22 ((spec_l01Split_ok   e368).mono ?_)
        rintro e w365 ⟨v369, rfl, Hc366⟩
        have he371 := Hc366.ext
        have H := H.call1 Hc366
        refine ⟨_, rfl, H.sel [1] (by decide), fun a S => ?_⟩
        obtain ⟨hle, hap⟩ := app_some e373
        replace hap := hap.symm
        subst hap
        have H : Heap w0 [oA (rList rStr) v369 x367, oA (rList rStr) v48 x46, bA b40 [(.int .i64 x78.1), (.int .i64 x88.1), v34, v37] 25, oA (rList Rimpl_Edge) v37 ([] : List Timpl_Edge), oA (rList rStr) v34 [([116, 97, 117] : Str)], bA b31 [(.int .i64 (0 : Int)), (.int .i64 (0 : Int)), (.slice none 0 0), (.slice none 0 0)] 25] w365 := H.front 0 rfl
        have H : Heap w0 [oA (rList rStr) v34 [([116, 97, 117] : Str)], oA (rList rStr) v369 x367, oA (rList rStr) v48 x46, bA b40 [(.int .i64 x78.1), (.int .i64 x88.1), v34, v37] 25, oA (rList Rimpl_Edge) v37 ([] : List Timpl_Edge), bA b31 [(.int .i64 (0 : Int)), (.int .i64 (0 : Int)), (.slice none 0 0), (.slice none 0 0)] 25] w365 := H.front 4 rfl
        refine lx_appendOwn (r := rStr) S trivial (by decide) rfl H rfl rfl Tryz.underlying22 Tryz.ti9 rfl rfl rfl (Nat.le_of_ble_eq_true rfl) (by decide) hle (fun v374 w375 H => ⟨H.sel [1] (by decide), fun a S => ?_⟩)
        refine lq (pAdd (bp b40) 2) S (q_fieldAddr' 2 22 rfl (isP_bp _) Tryz.underlying25 rfl Tryz.sizeOf22) fun a S => ?_
        refine lx_storeBox (o := 2) (i := 2) (us := [v374]) (cs' := [(.int .i64 x78.1), (.int .i64 x88.1), v374, v37]) S trivial rfl H rfl rfl rfl (cells_sl (H.isSl 0 rfl)) Tryz.sizeOf22 (Nat.le_of_ble_eq_true rfl) (List.forall_mem_cons.2 ⟨one_sl (H.isSl 0 rfl), (List.forall_mem_nil _)⟩) rfl (fun w377 H => ⟨H.sel [1] (by decide), fun a S => ?_⟩)
        change Heap w0 [oA (rList rStr) v374 ([([116, 97, 117] : Str)] ++ x367), oA (rList rStr) v48 x46, bA b40 [(.int .i64 x78.1), (.int .i64 x88.1), v374, v37] 25, oA (rList Rimpl_Edge) v37 ([] : List Timpl_Edge), bA b31 [(.int .i64 (0 : Int)), (.int .i64 (0 : Int)), (.slice none 0 0), (.slice none 0 0)] 25] w377 at H
        refine lx_nil ?_
        have H : Heap w0 [oA (rList rStr) v48 x46, oA (rList rStr) v374 ([([116, 97, 117] : Str)] ++ x367), bA b40 [(.int .i64 x78.1), (.int .i64 x88.1), v374, v37] 25, oA (rList Rimpl_Edge) v37 ([] : List Timpl_Edge), bA b31 [(.int .i64 (0 : Int)), (.int .i64 (0 : Int)), (.slice none 0 0), (.slice none 0 0)] 25] w377 := H.front 1 rfl
        have H : Heap w0 [oA (rList Rimpl_Edge) v37 ([] : List Timpl_Edge), oA (rList rStr) v48 x46, oA (rList rStr) v374 ([([116, 97, 117] : Str)] ++ x367), bA b40 [(.int .i64 x78.1), (.int .i64 x88.1), v374, v37] 25, bA b31 [(.int .i64 (0 : Int)), (.int .i64 (0 : Int)), (.slice none 0 0), (.slice none 0 0)] 25] w377 := H.front 3 rfl
        have H : Heap w0 [oA (rList rStr) v374 ([([116, 97, 117] : Str)] ++ x367), oA (rList Rimpl_Edge) v37 ([] : List Timpl_Edge), oA (rList rStr) v48 x46, bA b40 [(.int .i64 x78.1), (.int .i64 x88.1), v374, v37] 25, bA b31 [(.int .i64 (0 : Int)), (.int .i64 (0 : Int)), (.slice none 0 0), (.slice none 0 0)] 25] w377 := H.front 2 rfl
        have H : Heap w0 [bA b40 [(.int .i64 x78.1), (.int .i64 x88.1), v374, v37] 25, oA (rList rStr) v374 ([([116, 97, 117] : Str)] ++ x367), oA (rList Rimpl_Edge) v37 ([] : List Timpl_Edge), oA (rList rStr) v48 x46, bA b31 [(.int .i64 (0 : Int)), (.int .i64 (0 : Int)), (.slice none 0 0), (.slice none 0 0)] 25] w377 := H.front 3 rfl
        have H : Heap w0 [bA b31 [(.int .i64 (0 : Int)), (.int .i64 (0 : Int)), (.slice none 0 0), (.slice none 0 0)] 25, bA b40 [(.int .i64 x78.1), (.int .i64 x88.1), v374, v37] 25, oA (rList rStr) v374 ([([116, 97, 117] : Str)] ++ x367), oA (rList Rimpl_Edge) v37 ([] : List Timpl_Edge), oA (rList rStr) v48 x46] w377 := H.front 4 rfl
        exact ⟨([([116, 97, 117] : Str)] ++ x367), v374, S.sub ⟨rfl, rfl, rfl, trivial⟩, H, hm⟩
       ·skip
        refine lq v48 S (q_move rfl) fun a S => ?_
        have hlt := lt_of_idx (idx_some e364).2
        refine lq (ePtr v48 ((1 : Int).toNat * 1)) S (q_indexAddr rfl (H.isSl 0 rfl) rfl (idx_some e364).1 hlt Tryz.underlying22 Tryz.sizeOf9) fun a S => ?_
        refine lq (sv x363) S (q_load1 rfl Tryz.isAgg9 (fun w1 hC => ((hC.rdAt 0 rfl).elemAt (j := 0) (idx_some e364).2 (by intro B w cs h; obtain rfl := h; rfl)))) fun a S => ?_
        refine lx_call (xs := [.tmp 70, .const (.int .u8 (32))]) S trivial (by decide) rfl rfl Tryz.call22 ((spec_l01Split_ok   e368).mono ?_)
        rintro e w365 ⟨v369, rfl, Hc366⟩
        have he371 := Hc366.ext
        have H := H.call1 Hc366
        refine ⟨_, rfl, H.sel [1] (by decide), fun a S => ?_⟩
        refine lq (pAdd (bp b40) 2) S (q_fieldAddr' 2 22 rfl (isP_bp _) Tryz.underlying25 rfl Tryz.sizeOf22) fun a S => ?_
        refine lx_e v34 S trivial (by decide) rfl (H.sel [1] (by decide)) (q_load1 rfl Tryz.isAgg22 (by rintro _ rfl; exact (At.of_add (m := 2) (j := 0) (boxAt (i := 2) H rfl (j := 2) rfl)))) (fun a S => ?_)
        obtain ⟨hle, hap⟩ := app_some e373
        replace hap := hap.symm
        subst hap
        have H : Heap w0 [oA (rList rStr) v369 x367, oA (rList rStr) v48 x46, bA b40 [(.int .i64 x78.1), (.int .i64 x88.1), v34, v37] 25, oA (rList Rimpl_Edge) v37 ([] : List Timpl_Edge), oA (rList rStr) v34 [([116, 97, 117] : Str)], bA b31 [(.int .i64 (0 : Int)), (.int .i64 (0 : Int)), (.slice none 0 0), (.slice none 0 0)] 25] w365 := H.front 0 rfl
        have H : Heap w0 [oA (rList rStr) v34 [([116, 97, 117] : Str)], oA (rList rStr) v369 x367, oA (rList rStr) v48 x46, bA b40 [(.int .i64 x78.1), (.int .i64 x88.1), v34, v37] 25, oA (rList Rimpl_Edge) v37 ([] : List Timpl_Edge), bA b31 [(.int .i64 (0 : Int)), (.int .i64 (0 : Int)), (.slice none 0 0), (.slice none 0 0)] 25] w365 := H.front 4 rfl
        refine lx_appendOwn (r := rStr) S trivial (by decide) rfl H rfl rfl Tryz.underlying22 Tryz.ti9 rfl rfl rfl (Nat.le_of_ble_eq_true rfl) (by decide) hle (fun v374 w375 H => ⟨H.sel [1] (by decide), fun a S => ?_⟩)
        refine lq (pAdd (bp b40) 2) S (q_fieldAddr' 2 22 rfl (isP_bp _) Tryz.underlying25 rfl Tryz.sizeOf22) fun a S => ?_
        refine lx_storeBox (o := 2) (i := 2) (us := [v374]) (cs' := [(.int .i64 x78.1), (.int .i64 x88.1), v374, v37]) S trivial rfl H rfl rfl rfl (cells_sl (H.isSl 0 rfl)) Tryz.sizeOf22 (Nat.le_of_ble_eq_true rfl) (List.forall_mem_cons.2 ⟨one_sl (H.isSl 0 rfl), (List.forall_mem_nil _)⟩) rfl (fun w377 H => ⟨H.sel [1] (by decide), fun a S => ?_⟩)
        change Heap w0 [oA (rList rStr) v374 ([([116, 97, 117] : Str)] ++ x367), oA (rList rStr) v48 x46, bA b40 [(.int .i64 x78.1), (.int .i64 x88.1), v374, v37] 25, oA (rList Rimpl_Edge) v37 ([] : List Timpl_Edge), bA b31 [(.int .i64 (0 : Int)), (.int .i64 (0 : Int)), (.slice none 0 0), (.slice none 0 0)] 25] w377 at H
        refine lx_nil ?_
        have H : Heap w0 [oA (rList rStr) v48 x46, oA (rList rStr) v374 ([([116, 97, 117] : Str)] ++ x367), bA b40 [(.int .i64 x78.1), (.int .i64 x88.1), v374, v37] 25, oA (rList Rimpl_Edge) v37 ([] : List Timpl_Edge), bA b31 [(.int .i64 (0 : Int)), (.int .i64 (0 : Int)), (.slice none 0 0), (.slice none 0 0)] 25] w377 := H.front 1 rfl
        have H : Heap w0 [oA (rList Rimpl_Edge) v37 ([] : List Timpl_Edge), oA (rList rStr) v48 x46, oA (rList rStr) v374 ([([116, 97, 117] : Str)] ++ x367), bA b40 [(.int .i64 x78.1), (.int .i64 x88.1), v374, v37] 25, bA b31 [(.int .i64 (0 : Int)), (.int .i64 (0 : Int)), (.slice none 0 0), (.slice none 0 0)] 25] w377 := H.front 3 rfl
        have H : Heap w0 [oA (rList rStr) v374 ([([116, 97, 117] : Str)] ++ x367), oA (rList Rimpl_Edge) v37 ([] : List Timpl_Edge), oA (rList rStr) v48 x46, bA b40 [(.int .i64 x78.1), (.int .i64 x88.1), v374, v37] 25, bA b31 [(.int .i64 (0 : Int)), (.int .i64 (0 : Int)), (.slice none 0 0), (.slice none 0 0)] 25] w377 := H.front 2 rfl
        have H : Heap w0 [bA b40 [(.int .i64 x78.1), (.int .i64 x88.1), v374, v37] 25, oA (rList rStr) v374 ([([116, 97, 117] : Str)] ++ x367), oA (rList Rimpl_Edge) v37 ([] : List Timpl_Edge), oA (rList rStr) v48 x46, bA b31 [(.int .i64 (0 : Int)), (.int .i64 (0 : Int)), (.slice none 0 0), (.slice none 0 0)] 25] w377 := H.front 3 rfl
        have H : Heap w0 [bA b31 [(.int .i64 (0 : Int)), (.int .i64 (0 : Int)), (.slice none 0 0), (.slice none 0 0)] 25, bA b40 [(.int .i64 x78.1), (.int .i64 x88.1), v374, v37] 25, oA (rList rStr) v374 ([([116, 97, 117] : Str)] ++ x367), oA (rList Rimpl_Edge) v37 ([] : List Timpl_Edge), oA (rList rStr) v48 x46] w377 := H.front 4 rfl
        exact ⟨([([116, 97, 117] : Str)] ++ x367), v374, S.sub ⟨rfl, rfl, rfl, trivial⟩, H, hm⟩
      ·have hm := ite_f hc360 hm
       refine wp_skip ?_
       have H : Heap w0 [oA (rList Rimpl_Edge) v37 ([] : List Timpl_Edge), oA (rList rStr) v48 x46, bA b40 [(.int .i64 x78.1), (.int .i64 x88.1), v34, v37] 25, oA (rList rStr) v34 [([116, 97, 117] : Str)], bA b31 [(.int .i64 (0 : Int)), (.int .i64 (0 : Int)), (.slice none 0 0), (.slice none 0 0)] 25] w := H.front 2 rfl
       have H : Heap w0 [oA (rList rStr) v34 [([116, 97, 117] : Str)], oA (rList Rimpl_Edge) v37 ([] : List Timpl_Edge), oA (rList rStr) v48 x46, bA b40 [(.int .i64 x78.1), (.int .i64 x88.1), v34, v37] 25, bA b31 [(.int .i64 (0 : Int)), (.int .i64 (0 : Int)), (.slice none 0 0), (.slice none 0 0)] 25] w := H.front 3 rfl
       have H : Heap w0 [bA b40 [(.int .i64 x78.1), (.int .i64 x88.1), v34, v37] 25, oA (rList rStr) v34 [([116, 97, 117] : Str)], oA (rList Rimpl_Edge) v37 ([] : List Timpl_Edge), oA (rList rStr) v48 x46, bA b31 [(.int .i64 (0 : Int)), (.int .i64 (0 : Int)), (.slice none 0 0), (.slice none 0 0)] 25] w := H.front 3 rfl
       have H : Heap w0 [bA b31 [(.int .i64 (0 : Int)), (.int .i64 (0 : Int)), (.slice none 0 0), (.slice none 0 0)] 25, bA b40 [(.int .i64 x78.1), (.int .i64 x88.1), v34, v37] 25, oA (rList rStr) v34 [([116, 97, 117] : Str)], oA (rList Rimpl_Edge) v37 ([] : List Timpl_Edge), oA (rList rStr) v48 x46] w := H.front 4 rfl
       exact ⟨[([116, 97, 117] : Str)], v34, S.sub ⟨rfl, rfl, rfl, trivial⟩, H, hm⟩

/-- spec.ReadLts -/
def spec_ReadLts_m (fuel : Nat) (a0 : Str) : Option ((Timpl_Lts × Bool)) :=
  (spec_l11Read_m fuel a0).bind fun x36 => some (((x36.1.1, x36.1.2.1, x36.1.2.2.1, x36.1.2.2.2), x36.2))
set_option maxRecDepth 20000 in
theorem spec_ReadLts_ok [dr : Dr] {w0 : World} {fuel : Nat} {a0 : Str} {r : (Timpl_Lts × Bool)} (hm : spec_ReadLts_m fuel a0 = some r) :
  Calls Tryz.prog 4 #[sv a0] w0 fun e w => ∃ (v0 : Value) (v1 : Value), e = .returned (.tuple #[.agg #[.int .i64 r.1.1, .int .i64 r.1.2.1, v0, v1], .bool r.2]) ∧ Heap w0 [oA (rList rStr) v0 r.1.2.2.1, oA (rList Rimpl_Edge) v1 r.1.2.2.2] w := by
 unfold spec_ReadLts_m at hm
 have H := Heap.start w0
 refine enter (args := [sv a0]) Tryz.func4 rfl 8 rfl (Nat.le_of_ble_eq_true rfl) (fun a S => ?_)
 refine wp_seq (region_plain ?_)
 refine lx_alloc S trivial (by decide) rfl H Tryz.zeroValue25 rfl (fun b31 w32 H => ⟨trivial, fun a S => ?_⟩)
 refine lq (.bool false) S (q_assign rfl) fun a S => ?_
 refine lx_nil (thenN ?_)
 refine wp_seq (region_plain ?_)
 refine lq (sv a0) S (q_move rfl) fun a S => ?_
 obtain ⟨x36, e37, hm⟩ := bind_some hm
 refine lx_call (xs := [.tmp 4]) S trivial (by decide) rfl rfl Tryz.call9 ((spec_l11Read_ok  e37).mono ?_)
 rintro e w34 ⟨v38, v39, rfl, Hc35⟩
 have H := H.call2 Hc35
 refine ⟨_, rfl, trivial, fun a S => ?_⟩
 refine lq (.agg #[(.int .i64 x36.1.1), (.int .i64 x36.1.2.1), v38, v39]) S (q_extract rfl rfl) fun a S => ?_
 refine lq (.bool x36.2) S (q_extract rfl rfl) fun a S => ?_
 refine lx_storeBox (o := 0) (i := 2) (us := [(.int .i64 x36.1.1), (.int .i64 x36.1.2.1), v38, v39]) (cs' := [(.int .i64 x36.1.1), (.int .i64 x36.1.2.1), v38, v39]) S trivial rfl H rfl rfl rfl rfl Tryz.sizeOf25 (Nat.le_of_ble_eq_true rfl) (List.forall_mem_cons.2 ⟨rfl, (List.forall_mem_cons.2 ⟨rfl, (List.forall_mem_cons.2 ⟨one_sl (H.isSl 0 rfl), (List.forall_mem_cons.2 ⟨one_sl (H.isSl 1 rfl), (List.forall_mem_nil _)⟩)⟩)⟩)⟩) rfl (fun w43 H => ⟨trivial, fun a S => ?_⟩)
 change Heap w0 [oA (rList rStr) v38 x36.1.2.2.1, oA (rList Rimpl_Edge) v39 x36.1.2.2.2, bA b31 [(.int .i64 x36.1.1), (.int .i64 x36.1.2.1), v38, v39] 25] w43 at H
 refine lq (.bool x36.2) S (q_assign rfl) fun a S => ?_
 refine lx_nil (thenN ?_)
 refine wp_ret ?_
 have hrv0 := RV.cellA (t := 25) (q := 2) (env := [(0, (sv a0)), (2, (bp b31)), (3, (.bool x36.2)), (4, (sv a0)), (5, (.tuple #[(.agg #[(.int .i64 x36.1.1), (.int .i64 x36.1.2.1), v38, v39]), (.bool x36.2)])), (6, (.agg #[(.int .i64 x36.1.1), (.int .i64 x36.1.2.1), v38, v39])), (7, (.bool x36.2))]) H (i := 2) rfl rfl Tryz.isAgg25 Tryz.sizeOf25
 have hrv1 : RV Tryz.prog _ w43 (.tmp 3) (.bool x36.2) := (rfl : lk [(0, (sv a0)), (2, (bp b31)), (3, (.bool x36.2)), (4, (sv a0)), (5, (.tuple #[(.agg #[(.int .i64 x36.1.1), (.int .i64 x36.1.2.1), v38, v39]), (.bool x36.2)])), (6, (.agg #[(.int .i64 x36.1.1), (.int .i64 x36.1.2.1), v38, v39])), (7, (.bool x36.2))] 3 = some (.bool x36.2))
 obtain rfl := Option.some.inj hm
 have H : Heap w0 [oA (rList rStr) v38 x36.1.2.2.1, oA (rList Rimpl_Edge) v39 x36.1.2.2.2] w43 := H.sel [0, 1] (by decide)
 exact leaveR2 S rfl hrv0 hrv1 ⟨v38, v39, rfl, H⟩

/-- impl.Decimal -/
def impl_Decimal_m (fuel : Nat) (a0 : Int) : Option (Str) :=
  (strconv_FormatInt_m fuel a0 (10 : Int)).bind fun x33 => some (x33)
set_option maxRecDepth 20000 in
theorem impl_Decimal_ok [dr : Dr] {w0 : World} {fuel : Nat} {a0 : Int} {r : Str} (hG : Glob Tryz.prog w0) (hm : impl_Decimal_m fuel a0 = some r) :
  Calls Tryz.prog 35 #[.int .i64 a0] w0 fun e w => e = .returned (sv r) ∧ Heap w0 [] w := by
 unfold impl_Decimal_m at hm
 have H := Heap.start w0
 refine enter (args := [.int .i64 a0]) Tryz.func35 rfl 5 rfl (Nat.le_of_ble_eq_true rfl) (fun a S => ?_)
 refine wp_seq (region_plain ?_)
 refine lq (sv ([] : Str)) S (q_assign rfl) fun a S => ?_
 refine lx_nil (thenN ?_)
 refine wp_seq (region_plain ?_)
 refine lq (.int .i64 a0) S (q_move rfl) fun a S => ?_
 obtain ⟨x33, e34, hm⟩ := bind_some hm
 refine lx_call (xs := [.tmp 3, .const (.int .i64 (10))]) S trivial (by decide) rfl rfl Tryz.call52 ((strconv_FormatInt_ok (hG.ext H.ext)   e34).mono ?_)
 rintro e w31 ⟨rfl, Hc32⟩
 have H := H.call0 Hc32
 refine ⟨_, rfl, trivial, fun a S => ?_⟩
 refine lq (sv x33) S (q_assign rfl) fun a S => ?_
 refine lx_nil (thenN ?_)
 refine wp_ret ?_
 obtain rfl := Option.some.inj hm
 exact leave1 S rfl rfl ⟨rfl, H⟩

/-- impl.ReadDecimal -/
def impl_ReadDecimal_m (fuel : Nat) (a0 : Str) : Option ((Int × Bool)) :=
  (strings_TrimPrefix_m fuel a0 ([45] : Str)).bind fun x33 => (if (decide ((18 : Int) < (x33.length : Int))) = true then some (((0 : Int), false)) else (strconv_ParseInt_m fuel a0 (10 : Int) (64 : Int)).bind fun x39 => (if x39.2 = true then some true else (impl_Decimal_m fuel x39.1).bind fun x49 => some (x49 != a0)).bind fun t44 => (if t44 = true then some (((0 : Int), false)) else some ((x39.1, true))))
set_option maxRecDepth 20000 in
theorem impl_ReadDecimal_ok {w0 : World} {fuel : Nat} {a0 : Str} {r : (Int × Bool)} (hG : GlobE Tryz.prog w0) (hm : impl_ReadDecimal_m fuel a0 = some r) :
  Calls Tryz.prog 26 #[sv a0] w0 fun e w => e = .returned (.tuple #[.int .i64 r.1, .bool r.2]) ∧ Heap w0 [] w := by
 unfold impl_ReadDecimal_m at hm
 have H := Heap.start w0
 refine enter (args := [sv a0]) Tryz.func26 rfl 24 rfl (Nat.le_of_ble_eq_true rfl) (fun a S => ?_)
 refine wp_seq (region_plain ?_)
 refine lq (.int .i64 (0 : Int)) S (q_assign rfl) fun a S => ?_
 refine lq (.bool false) S (q_assign rfl) fun a S => ?_
 refine lx_nil (thenN ?_)
 refine wp_seq (wp_seq (region_plain ?_))
 refine lq (sv a0) S (q_move rfl) fun a S => ?_
 obtain ⟨x33, e34, hm⟩ := bind_some hm
 refine lx_call (xs := [.tmp 6, .const (sv [45])]) S trivial (by decide) rfl rfl Tryz.call46 ((strings_TrimPrefix_ok   e34).mono ?_)
 rintro e w31 ⟨rfl, Hc32⟩
 have H := H.call0 Hc32
 refine ⟨_, rfl, trivial, fun a S => ?_⟩
 refine lq (.int .i64 (x33.length : Int)) S (q_lenStr rfl rfl Tryz.underlying9) fun a S => ?_
 refine lq (.bool (decide ((18 : Int) < (x33.length : Int)))) S (q_gtr rfl rfl) fun a S => ?_
 refine lx_nil (thenN ?_)
 refine cond_b S rfl (fun hc36 => ?_) (fun hc36 => ?_)
 ·have hm := ite_t hc36 hm
  refine wp_seq (region_plain ?_)
  refine lq (.int .i64 (0 : Int)) S (q_assign rfl) fun a S => ?_
  refine lq (.bool false) S (q_assign rfl) fun a S => ?_
  refine lx_nil (thenN ?_)
  refine wp_ret (then_ret ?_)
  obtain rfl := Option.some.inj hm
  exact leave2 S rfl rfl rfl ⟨rfl, H⟩
 ·have hm := ite_f hc36 hm
  refine wp_skip (thenN ?_)
  refine wp_seq (region_plain ?_)
  refine lq (sv a0) S (q_move rfl) fun a S => ?_
  obtain ⟨x39, e40, hm⟩ := bind_some hm
  refine lx_call (xs := [.tmp 11, .const (.int .i64 (10)), .const (.int .i64 (64))]) S trivial (by decide) rfl rfl Tryz.call47 ((strconv_ParseInt_ok (hG.ext H.ext)    e40).mono ?_)
  rintro e w37 ⟨ve41, rfl, he42, Hc38⟩
  have H := H.call0 Hc38
  refine ⟨_, rfl, trivial, fun a S => ?_⟩
  refine lq (.tuple #[(.int .i64 x39.1), ve41]) S (q_move rfl) fun a S => ?_
  refine lq (.int .i64 x39.1) S (q_extract rfl rfl) fun a S => ?_
  refine lq ve41 S (q_extract rfl rfl) fun a S => ?_
  refine lq (.int .i64 x39.1) S (q_assign rfl) fun a S => ?_
  refine lq ve41 S (q_assign rfl) fun a S => ?_
  refine lx_nil (thenN ?_)
  refine wp_seq (wp_seq (region_plain ?_))
  refine lq ve41 S (q_move rfl) fun a S => ?_
  refine lq (.bool x39.2) S (q_errneq rfl he42 Tryz.underlying71) fun a S => ?_
  refine lq (.bool x39.2) S (q_move rfl) fun a S => ?_
  obtain ⟨t44, e45, hm⟩ := bind_some hm
  refine lx_cut 5 (fun a w => Slots a 24 [(4, (.int .i64 x39.1)), (22, (.bool t44))] ∧ Heap w0 [] w) ?_ ?_
  ·by_cases hc46 : x39.2 = true
   ·have hm := ite_t hc46 e45
    refine lx_skip S rfl rfl (isB_ne hc46) (by decide) (fun a S => ?_)
    refine lx_skip S rfl rfl (isB_ne hc46) (by decide) (fun a S => ?_)
    refine lx_skip S rfl rfl (isB_ne hc46) (by decide) (fun a S => ?_)
    refine lx_skip S rfl rfl (isB_ne hc46) (by decide) (fun a S => ?_)
    refine lq (.bool true) S (q_pickT' rfl hc46 rfl) fun a S => ?_
    refine lx_nil ?_
    obtain rfl := Option.some.inj hm
    exact ⟨S.sub ⟨rfl, rfl, trivial⟩, H⟩
   ·have hm := ite_f (eq_false_of_ne_true hc46) e45
    have hc46 : x39.2 = false := eq_false_of_ne_true hc46
    refine lx_q (.int .i64 x39.1) S (want_b rfl rfl hc46) (by decide) (q_move rfl) (fun a S => ?_)
    obtain ⟨x49, e50, hm⟩ := bind_some hm
    refine lx_call (xs := [.tmp 18]) S (want_b rfl rfl hc46) (by decide) rfl rfl Tryz.call35 ((impl_Decimal_ok (hG.ext H.ext).toGlob  e50).mono ?_)
    rintro e w47 ⟨rfl, Hc48⟩
    have H := H.call0 Hc48
    refine ⟨_, rfl, trivial, fun a S => ?_⟩
    refine lx_q (sv a0) S (want_b rfl rfl hc46) (by decide) (q_move rfl) (fun a S => ?_)
    refine lx_q (.bool (x49 != a0)) S (want_b rfl rfl hc46) (by decide) (q_sneq rfl rfl) (fun a S => ?_)
    refine lq (.bool (x49 != a0)) S (q_pickF' rfl hc46 rfl) fun a S => ?_
    refine lx_nil ?_
    obtain rfl := Option.some.inj hm
    exact ⟨S.sub ⟨rfl, rfl, trivial⟩, H⟩
  ·rintro a w ⟨S, H⟩
   refine lx_nil (thenN ?_)
   refine cond_b S rfl (fun hc52 => ?_) (fun hc52 => ?_)
   ·have hm := ite_t hc52 hm
    refine wp_seq (region_plain ?_)
    refine lq (.int .i64 (0 : Int)) S (q_assign rfl) fun a S => ?_
    refine lq (.bool false) S (q_assign rfl) fun a S => ?_
    refine lx_nil (thenN ?_)
    refine wp_ret (then_ret ?_)
    obtain rfl := Option.some.inj hm
    exact leave2 S rfl rfl rfl ⟨rfl, H⟩
   ·have hm := ite_f hc52 hm
    refine wp_skip (thenN ?_)
    refine wp_seq (region_plain ?_)
    refine lq (.int .i64 x39.1) S (q_move rfl) fun a S => ?_
    refine lq (.int .i64 x39.1) S (q_assign rfl) fun a S => ?_
    refine lq (.bool true) S (q_assign rfl) fun a S => ?_
    refine lx_nil (thenN ?_)
    refine wp_ret ?_
    obtain rfl := Option.some.inj hm
    exact leave2 S rfl rfl rfl ⟨rfl, H⟩

/-- impl.readNumbers -/
def impl_readNumbers_m (fuel : Nat) (a0 : (List Str)) : Option (((List Int) × Bool)) :=
  (iter (fun (s : (List Int) × (Int)) => (match s with | (xs57, x59) => (if (decide (x59 < (a0.length : Int))) = true then (idx a0 x59).bind fun x97 => (impl_ReadDecimal_m fuel x97).bind fun x104 => (if (!x104.2) = true then some (.inr (.inr ([], false))) else (app xs57 [x104.1]).bind fun x112 => some (.inl (x112, (W (x59 + (1 : Int)))))) else some (.inr (.inl (xs57)))) : Option (((List Int) × (Int)) ⊕ (((List Int)) ⊕ (((List Int) × Bool)))))) fuel ([], (0 : Int))).bind fun res87 => ctl (β := (List Int)) (ρ := ((List Int) × Bool)) (τ := ((List Int) × Bool)) res87 (fun (xs85) => some ((xs85, true))) (fun q => some (q))
set_option maxRecDepth 20000 in
theorem impl_readNumbers_ok {w0 : World} {fuel : Nat} {p0 : Value} {a0 : (List Str)} {r : ((List Int) × Bool)} (hG : GlobE Tryz.prog w0) (h0 : Rd (rList rStr) w0 p0 a0) (hm : impl_readNumbers_m fuel a0 = some r) :
  Calls Tryz.prog 11 #[p0] w0 fun e w => ∃ (v0 : Value), e = .returned (.tuple #[v0, .bool r.2]) ∧ Heap w0 [oA (rList (rInt .i64)) v0 r.1] w := by
 unfold impl_readNumbers_m at hm
 have H := Heap.start w0
 refine enter (args := [p0]) Tryz.func11 rfl 28 rfl (Nat.le_of_ble_eq_true rfl) (fun a S => ?_)
 refine wp_seq (region_plain ?_)
 refine lq (.slice none 0 0) S (q_assign rfl) fun a S => ?_
 refine lq (.bool false) S (q_assign rfl) fun a S => ?_
 refine lx_nil (thenN ?_)
 refine wp_seq (region_plain ?_)
 refine lq (.slice none 0 0) S (q_assign rfl) fun a S => ?_
 refine lx_nil (thenN ?_)
 refine wp_seq (wp_seq (region_plain ?_))
 refine lq p0 S (q_move rfl) fun a S => ?_
 refine lq (.int .i64 (a0.length : Int)) S (q_lenSl rfl (h0).isSl rfl Tryz.underlying22) fun a S => ?_
 refine lq (.int .i64 (0 : Int)) S (q_move rfl) fun a S => ?_
 refine lx_nil (thenN ?_)
 obtain ⟨res87, hit88, hk91⟩ := bind_some hm
 obtain ⟨f89, hf90, hit88⟩ := iter_name hit88
 refine block_loop (fun a w => ∃ (xs85 : List Int) (v84 : Value), Slots a 28 [(4, v84)] ∧ Heap w0 [oA (rList (rInt .i64)) v84 xs85] w ∧ res87 = .inl (xs85)) ?_ ?_
 ·rintro a w ⟨xs85, v84, S, H, rfl⟩
  have hm := ctl_inl hk91
  refine thenN ?_
  refine wp_seq (region_plain ?_)
  refine lq v84 S (q_move rfl) fun a S => ?_
  refine lq v84 S (q_assign rfl) fun a S => ?_
  refine lq (.bool true) S (q_assign rfl) fun a S => ?_
  refine lx_nil (thenN ?_)
  refine wp_ret ?_
  obtain rfl := Option.some.inj hm
  exact leave2 S rfl rfl rfl ⟨v84, rfl, H⟩
 ·skip
  have H : Heap w0 [oA (rList (rInt .i64)) (.slice none 0 0) ([] : List Int)] w0 := H.nilList (rInt .i64)
  refine loop_ghost (fun n a w => ∃ (xs57 : List Int) (x59 : Int) (v56 : Value), Slots a 28 [(4, v56), (9, p0), (10, (.int .i64 (a0.length : Int))), (11, (.int .i64 x59))] ∧ Heap w0 [oA (rList (rInt .i64)) v56 xs57] w ∧ iter f89 n (xs57, x59) = some res87) _ ⟨[], (0 : Int), (.slice none 0 0), S.sub ⟨rfl, rfl, rfl, rfl, trivial⟩, H, hit88⟩ ?_
  rintro n a w ⟨xs57, x59, v56, S, H, hit88⟩
  obtain ⟨m93, o94, rfl, hm, hc95⟩ := iter_step hit88
  rw [hf90] at hm
  refine wp_seq (region_plain ?_)
  refine lq (.bool (decide (x59 < (a0.length : Int)))) S (q_lss rfl rfl) fun a S => ?_
  refine lx_nil (thenN ?_)
  refine wp_seq ?_
  refine cond_b S rfl (fun hc96 => ?_) (fun hc96 => ?_)
  ·have hm := ite_t hc96 hm
   refine wp_skip (thenN ?_)
   refine wp_seq ?_
   refine wp_block ?_
   refine wp_seq (region_plain ?_)
   obtain ⟨x97, e98, hm⟩ := bind_some hm
   obtain ⟨c99, h100, hat101⟩ := (h0).elem (idx_some e98).2
   obtain rfl := h100
   have hlt := lt_of_idx (idx_some e98).2
   refine lq (ePtr p0 (x59.toNat * 1)) S (q_indexAddr rfl (h0).isSl rfl (idx_some e98).1 hlt Tryz.underlying22 Tryz.sizeOf9) fun a S => ?_
   refine lx_e (sv x97) S trivial (by decide) rfl trivial (q_load1 rfl Tryz.isAgg9 (by rintro _ rfl; exact ((hat101 0 _ rfl).ext H.ext))) (fun a S => ?_)
   refine lq (sv x97) S (q_assign rfl) fun a S => ?_
   refine lx_nil (thenN ?_)
   refine wp_seq (region_plain ?_)
   refine lq (sv x97) S (q_move rfl) fun a S => ?_
   obtain ⟨x104, e105, hm⟩ := bind_some hm
   refine lx_call (xs := [.tmp 16]) S trivial (by decide) rfl rfl Tryz.call26 ((impl_ReadDecimal_ok (hG.ext H.ext)  e105).mono ?_)
   rintro e w102 ⟨rfl, Hc103⟩
   have H := H.call0 Hc103
   refine ⟨_, rfl, trivial, fun a S => ?_⟩
   refine lq (.tuple #[(.int .i64 x104.1), (.bool x104.2)]) S (q_move rfl) fun a S => ?_
   refine lq (.int .i64 x104.1) S (q_extract rfl rfl) fun a S => ?_
   refine lq (.bool x104.2) S (q_extract rfl rfl) fun a S => ?_
   refine lq (.int .i64 x104.1) S (q_assign rfl) fun a S => ?_
   refine lq (.bool x104.2) S (q_assign rfl) fun a S => ?_
   refine lx_nil (thenN ?_)
   refine wp_seq (wp_seq (region_plain ?_))
   refine lq (.bool x104.2) S (q_move rfl) fun a S => ?_
   refine lq (.bool (!x104.2)) S (q_not rfl) fun a S => ?_
   refine lx_nil (thenN ?_)
   refine cond_b S rfl (fun hc107 => ?_) (fun hc107 => ?_)
   ·have hm := ite_t hc107 hm
    refine wp_seq (region_plain ?_)
    refine lq (.slice none 0 0) S (q_assign rfl) fun a S => ?_
    refine lq (.bool false) S (q_assign rfl) fun a S => ?_
    refine lx_nil (thenN ?_)
    refine wp_ret (then_ret ?_)
    refine inBlock_ret ?_
    refine then_ret ?_
    refine then_ret ?_
    refine inBlock_ret ?_
    refine then_ret ?_
    refine then_ret ?_
    obtain rfl := it_brk hm hc95
    have hm := ctl_inr hk91
    obtain rfl := Option.some.inj hm
    have H : Heap w0 [oA (rList (rInt .i64)) (.slice none 0 0) ([] : List Int), oA (rList (rInt .i64)) v56 xs57] w102 := H.nilList (rInt .i64)
    have H : Heap w0 [oA (rList (rInt .i64)) (.slice none 0 0) ([] : List Int)] w102 := H.sel [0] (by decide)
    exact leave2 S rfl rfl rfl ⟨(.slice none 0 0), rfl, H⟩
   ·have hm := ite_f hc107 hm
    refine wp_skip (thenN ?_)
    refine region_plain ?_
    refine lq v56 S (q_move rfl) fun a S => ?_
    refine lq (.int .i64 x104.1) S (q_move rfl) fun a S => ?_
    refine lx_buildSlice (r := (rInt .i64)) (xs := [x104.1]) (ps := [(0, [(.int .i64 x104.1)])]) (cs := [(.int .i64 x104.1)]) (parts := [(0, .tmp 23)]) S trivial (by decide) rfl (H.put0 (A := eA) rfl) rfl Tryz.underlying32 Tryz.sizeOf2 Tryz.zeroValue2 (by decide) ⟨rfl, rfl, Nat.le_of_ble_eq_true rfl, trivial⟩ (by intro zs hz; exact fill_dense hz ⟨rfl, trivial⟩ rfl rfl) rfl (by decide) (fun w F hA => by cases (show F = [] from hA); exact ⟨_, _, [(.int .i64 x104.1)], _, rfl, rfl, ⟨rfl, rfl⟩, ⟨rfl, rfl⟩⟩) (fun v109 w110 H => ⟨trivial, fun a S => ?_⟩)
    obtain ⟨x112, e113, hm⟩ := bind_some hm
    obtain ⟨hle, hap⟩ := app_some e113
    replace hap := hap.symm
    subst hap
    have H : Heap w0 [oA (rList (rInt .i64)) v109 [x104.1], oA (rList (rInt .i64)) v56 xs57] w110 := H.front 0 rfl
    have H : Heap w0 [oA (rList (rInt .i64)) v56 xs57, oA (rList (rInt .i64)) v109 [x104.1]] w110 := H.front 1 rfl
    refine lx_appendOwn (r := (rInt .i64)) S trivial (by decide) rfl H rfl rfl Tryz.underlying32 Tryz.ti2 rfl rfl rfl (Nat.le_of_ble_eq_true rfl) (by decide) hle (fun v114 w115 H => ⟨trivial, fun a S => ?_⟩)
    refine lq v114 S (q_assign rfl) fun a S => ?_
    refine lx_nil ?_
    refine inBlock_norm ?_
    refine thenN ?_
    refine region_plain ?_
    refine lq (.int .i64 (W (x59 + (1 : Int)))) S (q_add rfl rfl) fun a S => ?_
    refine lq (.int .i64 (W (x59 + (1 : Int)))) S (q_move rfl) fun a S => ?_
    refine lx_nil ?_
    exact ⟨m93, Nat.lt_succ_self _, (xs57 ++ [x104.1]), (W (x59 + (1 : Int))), v114, S.sub ⟨rfl, rfl, rfl, rfl, trivial⟩, H, it_cont hm hc95⟩
  ·have hm := ite_f hc96 hm
   refine wp_exit ?_
   refine then_exit ?_
   refine then_exit ?_
   refine inBlock_exit ?_
   obtain rfl := it_brk hm hc95
   exact ⟨xs57, v56, S.sub ⟨rfl, trivial⟩, H, rfl⟩
end Go.Proofs.YtlmopoaeekhmeaaGreatDoor
