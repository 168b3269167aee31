/- The models of some functions and their walks (printed by a program of this repo). -/
import Derived.Test.YtlmopoaeekhmeaaGreatDoorF0
import Derived.Test.YtlmopoaeekhmeaaGreatDoorF3
import Derived.Test.YtlmopoaeekhmeaaGreatDoorF4
import Derived.Test.YtlmopoaeekhmeaaGreatDoorF5
import Derived.Test.YtlmopoaeekhmeaaGreatDoorFS
import Derived.Test.YtlmopoaeekhmeaaGreatDoorGxLt
import Derived.Test.YtlmopoaeekhmeaaGreatDoorGxT
import Derived.Test.YtlmopoaeekhmeaaGreatDoorGxY
namespace Go.Proofs.YtlmopoaeekhmeaaGreatDoor
open Go.RowKit Go.Gx

/-- impl.ReadLts -/
def impl_ReadLts_m (fuel : Nat) (a0 : Str) : Option ((Timpl_Lts × Bool)) :=
  (strings_Split_m fuel a0 ([124] : Str)).bind fun x36 => (if ((x36.length : Int) != (3 : Int)) = true then some ((((0 : Int), (0 : Int), [], []), false)) else (iter (fun (s : (List Str) × (Int)) => (match s with | (xs60, x61) => (if (decide (x61 < (3 : Int))) = true then join (κ := List Str → Option (((List Str) × (Int)) ⊕ (((List Str)) ⊕ ((Timpl_Lts × Bool))))) (fun (xs16183 : List Str) => some (.inl (xs16183, (W (x61 + (1 : Int)))))) (fun K16184 => (idx xs60 x61).bind fun x16186 => (if (x16186 == ([45] : Str)) = true then (idx xs60 x61).bind fun _ => (K16184 (xs60.set x61.toNat ([] : Str))) else (K16184 xs60))) else some (.inr (.inl (xs60)))) : Option (((List Str) × (Int)) ⊕ (((List Str)) ⊕ ((Timpl_Lts × Bool)))))) fuel (x36, (1 : Int))).bind fun res78 => ctl (β := (List Str)) (ρ := (Timpl_Lts × Bool)) (τ := (Timpl_Lts × Bool)) res78 (fun (xs77) => (idx xs77 (0 : Int)).bind fun x83 => (impl_SplitWords_m fuel x83).bind fun x90 => (impl_readNumbers_m fuel x90).bind fun x97 => (idx xs77 (2 : Int)).bind fun x102 => (impl_readEdges_m fuel x102).bind fun x109 => (if (!x97.2) = true then some true else some (!x109.2)).bind fun t114 => (if t114 = true then some true else some ((x97.1.length : Int) != (2 : Int))).bind fun t117 => (if t117 = true then some ((((0 : Int), (0 : Int), [], []), false)) else join (κ := Int → Int → List Str → List Timpl_Edge → Option (Timpl_Lts × Bool)) (fun (x126 : Int) (x127 : Int) (xs129 : List Str) (xs131 : List Timpl_Edge) => (impl_ValidLts_m fuel (x126, x127, xs129, xs131)).bind fun x136 => (if (!x136) = true then some true else (impl_LtsText_m fuel (x126, x127, xs129, xs131)).bind fun x144 => some (x144 != a0)).bind fun t139 => (if t139 = true then some ((((0 : Int), (0 : Int), [], []), false)) else some (((x126, x127, xs129, xs131), true)))) (fun K132 => (idx xs77 (1 : Int)).bind fun x157 => (impl_SplitWords_m fuel x157).bind fun x161 => (app [([116, 97, 117] : Str)] x161).bind fun x166 => (idx x97.1 (0 : Int)).bind fun x174 => (idx x97.1 (1 : Int)).bind fun x176 => (K132 x174 x176 x166 x109.1)))) (fun q => some (q)))
set_option maxRecDepth 20000 in
theorem impl_ReadLts_ok {w0 : World} {fuel : Nat} {a0 : Str} {r : (Timpl_Lts × Bool)} (hG : GlobE Tryz.prog w0) (hm : impl_ReadLts_m fuel a0 = some r) :
  Calls Tryz.prog 5 #[sv a0] w0 fun e w => ∃ (v0 : Value) (v1 : Value), e = .returned (.tuple #[.agg #[.int .i64 r.1.1, .int .i64 r.1.2.1, v0, v1], .bool r.2]) ∧ Heap w0 [oA (rList rStr) v0 r.1.2.2.1, oA (rList Rimpl_Edge) v1 r.1.2.2.2] w := by
 unfold impl_ReadLts_m at hm
 have H := Heap.start w0
 refine enter (args := [sv a0]) Tryz.func5 rfl 81 rfl (Nat.le_of_ble_eq_true rfl) (fun a S => ?_)
 refine wp_seq (region_plain ?_)
 refine lx_alloc S trivial (by decide) rfl H Tryz.zeroValue25 rfl (fun b31 w32 H => ⟨trivial, fun a S => ?_⟩)
 refine lq (.bool false) S (q_assign rfl) fun a S => ?_
 refine lx_nil (thenN ?_)
 refine wp_seq (region_plain ?_)
 refine lq (sv a0) S (q_move rfl) fun a S => ?_
 obtain ⟨x36, e37, hm⟩ := bind_some hm
 refine lx_call (xs := [.tmp 11, .const (sv [124])]) S trivial (by decide) rfl rfl Tryz.call10 ((strings_Split_ok (hG.ext H.ext).toGlob   e37).mono ?_)
 rintro e w34 ⟨v38, rfl, Hc35⟩
 have H := H.call1 Hc35
 refine ⟨_, rfl, trivial, fun a S => ?_⟩
 refine lq v38 S (q_assign rfl) fun a S => ?_
 refine lx_nil (thenN ?_)
 refine wp_seq (wp_seq (region_plain ?_))
 refine lq v38 S (q_move rfl) fun a S => ?_
 refine lq (.int .i64 (x36.length : Int)) S (q_lenSl rfl (H.isSl 0 rfl) rfl Tryz.underlying22) fun a S => ?_
 refine lq (.bool ((x36.length : Int) != (3 : Int))) S (q_neq rfl rfl) fun a S => ?_
 refine lx_nil (thenN ?_)
 refine cond_b S rfl (fun hc41 => ?_) (fun hc41 => ?_)
 ·have hm := ite_t hc41 hm
  refine wp_seq (region_plain ?_)
  refine lq (.agg #[(.int .i64 (0 : Int)), (.int .i64 (0 : Int)), (.slice none 0 0), (.slice none 0 0)]) S (q_build (zs := [(.int .i64 (0 : Int)), (.int .i64 (0 : Int)), (.slice none 0 0), (.slice none 0 0)]) (szs := [1, 1, 1, 1]) (ps := []) (parts := []) rfl Tryz.underlying25 Tryz.zeroValue25 (fun w => by simp [Tryz.sizeOf2, Tryz.sizeOf22, Tryz.sizeOf23]) trivial rfl) fun a S => ?_
  refine lx_storeBox (o := 0) (i := 1) (us := [(.int .i64 (0 : Int)), (.int .i64 (0 : Int)), (.slice none 0 0), (.slice none 0 0)]) (cs' := [(.int .i64 (0 : Int)), (.int .i64 (0 : Int)), (.slice none 0 0), (.slice none 0 0)]) S trivial rfl H rfl rfl rfl rfl Tryz.sizeOf25 (Nat.le_of_ble_eq_true rfl) (List.forall_mem_cons.2 ⟨rfl, (List.forall_mem_cons.2 ⟨rfl, (List.forall_mem_cons.2 ⟨rfl, (List.forall_mem_cons.2 ⟨rfl, (List.forall_mem_nil _)⟩)⟩)⟩)⟩) rfl (fun w42 H => ⟨trivial, fun a S => ?_⟩)
  change Heap w0 [oA (rList rStr) v38 x36, bA b31 [(.int .i64 (0 : Int)), (.int .i64 (0 : Int)), (.slice none 0 0), (.slice none 0 0)] 25] w42 at H
  refine lq (.bool false) S (q_assign rfl) fun a S => ?_
  refine lx_nil (thenN ?_)
  refine wp_ret ?_
  have hrv0 := RV.cellA (t := 25) (q := 2) (env := [(0, (sv a0)), (2, (bp b31)), (3, (.bool false)), (4, v38), (11, (sv a0)), (12, v38), (13, v38), (14, (.int .i64 (x36.length : Int))), (15, (.bool ((x36.length : Int) != (3 : Int)))), (16, (.agg #[(.int .i64 (0 : Int)), (.int .i64 (0 : Int)), (.slice none 0 0), (.slice none 0 0)]))]) H (i := 1) rfl rfl Tryz.isAgg25 Tryz.sizeOf25
  have hrv1 : RV Tryz.prog _ w42 (.tmp 3) (.bool false) := (rfl : lk [(0, (sv a0)), (2, (bp b31)), (3, (.bool false)), (4, v38), (11, (sv a0)), (12, v38), (13, v38), (14, (.int .i64 (x36.length : Int))), (15, (.bool ((x36.length : Int) != (3 : Int)))), (16, (.agg #[(.int .i64 (0 : Int)), (.int .i64 (0 : Int)), (.slice none 0 0), (.slice none 0 0)]))] 3 = some (.bool false))
  refine then_ret ?_
  obtain rfl := Option.some.inj hm
  have H : Heap w0 [oA (rList rStr) (.slice none 0 0) ([] : List Str), oA (rList rStr) v38 x36, bA b31 [(.int .i64 (0 : Int)), (.int .i64 (0 : Int)), (.slice none 0 0), (.slice none 0 0)] 25] w42 := H.nilList rStr
  have H : Heap w0 [oA (rList Rimpl_Edge) (.slice none 0 0) ([] : List Timpl_Edge), oA (rList rStr) (.slice none 0 0) ([] : List Str), oA (rList rStr) v38 x36, bA b31 [(.int .i64 (0 : Int)), (.int .i64 (0 : Int)), (.slice none 0 0), (.slice none 0 0)] 25] w42 := H.nilList Rimpl_Edge
  have H : Heap w0 [oA (rList rStr) (.slice none 0 0) ([] : List Str), oA (rList Rimpl_Edge) (.slice none 0 0) ([] : List Timpl_Edge), oA (rList rStr) v38 x36, bA b31 [(.int .i64 (0 : Int)), (.int .i64 (0 : Int)), (.slice none 0 0), (.slice none 0 0)] 25] w42 := H.front 1 rfl
  have H : Heap w0 [oA (rList rStr) (.slice none 0 0) ([] : List Str), oA (rList Rimpl_Edge) (.slice none 0 0) ([] : List Timpl_Edge)] w42 := H.sel [0, 1] (by decide)
  exact leaveR2 S rfl hrv0 hrv1 ⟨(.slice none 0 0), (.slice none 0 0), rfl, H⟩
 ·have hm := ite_f hc41 hm
  refine wp_skip (thenN ?_)
  refine wp_seq (wp_seq (region_plain ?_))
  refine lq (.int .i64 (1 : Int)) S (q_assign rfl) fun a S => ?_
  refine lx_nil (thenN ?_)
  obtain ⟨res78, hit79, hk82⟩ := bind_some hm
  obtain ⟨f80, hf81, hit79⟩ := iter_name hit79
  refine block_loop (fun a w => ∃ (xs77 : List Str), Slots a 81 [(0, (sv a0)), (2, (bp b31)), (4, v38)] ∧ Heap w0 [bA b31 [(.int .i64 (0 : Int)), (.int .i64 (0 : Int)), (.slice none 0 0), (.slice none 0 0)] 25, oA (rList rStr) v38 xs77] w ∧ res78 = .inl (xs77)) ?_ ?_
  ·rintro a w ⟨xs77, S, H, rfl⟩
   have hm := ctl_inl hk82
   refine thenN ?_
   refine wp_seq (region_plain ?_)
   refine lq v38 S (q_move rfl) fun a S => ?_
   obtain ⟨x83, e84, hm⟩ := bind_some hm
   have hlt := lt_of_idx (idx_some e84).2
   refine lq (ePtr v38 ((0 : Int).toNat * 1)) S (q_indexAddr rfl (H.isSl 1 rfl) rfl (idx_some e84).1 hlt Tryz.underlying22 Tryz.sizeOf9) fun a S => ?_
   obtain ⟨c85, h86, hat87⟩ := (H.rdAt 1 rfl).elem (idx_some e84).2
   obtain rfl := h86
   refine lx_e (sv x83) S trivial (by decide) rfl trivial (q_load1 rfl Tryz.isAgg9 (by rintro _ rfl; exact (hat87 0 _ rfl))) (fun a S => ?_)
   obtain ⟨x90, e91, hm⟩ := bind_some hm
   refine lx_call (xs := [.tmp 32]) S trivial (by decide) rfl rfl Tryz.call12 ((impl_SplitWords_ok  e91).mono ?_)
   rintro e w88 ⟨v92, rfl, Hc89⟩
   have H := H.call1 Hc89
   refine ⟨_, rfl, trivial, fun a S => ?_⟩
   obtain ⟨x97, e98, hm⟩ := bind_some hm
   refine lx_call (xs := [.tmp 33]) S trivial (by decide) rfl rfl Tryz.call11 ((impl_readNumbers_ok (hG.ext H.ext) (H.rdAt 0 rfl) e98).mono ?_)
   rintro e w95 ⟨v99, rfl, Hc96⟩
   have H := H.call1 Hc96
   refine ⟨_, rfl, trivial, fun a S => ?_⟩
   refine lq (.tuple #[v99, (.bool x97.2)]) S (q_move rfl) fun a S => ?_
   refine lq v99 S (q_extract rfl rfl) fun a S => ?_
   refine lq (.bool x97.2) S (q_extract rfl rfl) fun a S => ?_
   refine lq v99 S (q_assign rfl) fun a S => ?_
   refine lq (.bool x97.2) S (q_assign rfl) fun a S => ?_
   refine lx_nil (thenN ?_)
   refine wp_seq (region_plain ?_)
   refine lq v38 S (q_move rfl) fun a S => ?_
   obtain ⟨x102, e103, hm⟩ := bind_some hm
   have hlt := lt_of_idx (idx_some e103).2
   refine lq (ePtr v38 ((2 : Int).toNat * 1)) S (q_indexAddr rfl (H.isSl 3 rfl) rfl (idx_some e103).1 hlt Tryz.underlying22 Tryz.sizeOf9) fun a S => ?_
   obtain ⟨c104, h105, hat106⟩ := (H.rdAt 3 rfl).elem (idx_some e103).2
   obtain rfl := h105
   refine lx_e (sv x102) S trivial (by decide) rfl trivial (q_load1 rfl Tryz.isAgg9 (by rintro _ rfl; exact (hat106 0 _ rfl))) (fun a S => ?_)
   obtain ⟨x109, e110, hm⟩ := bind_some hm
   refine lx_call (xs := [.tmp 40]) S trivial (by decide) rfl rfl Tryz.call13 ((impl_readEdges_ok (hG.ext H.ext)  e110).mono ?_)
   rintro e w107 ⟨v111, rfl, Hc108⟩
   have H := H.call1 Hc108
   refine ⟨_, rfl, trivial, fun a S => ?_⟩
   refine lq (.tuple #[v111, (.bool x109.2)]) S (q_move rfl) fun a S => ?_
   refine lq v111 S (q_extract rfl rfl) fun a S => ?_
   refine lq (.bool x109.2) S (q_extract rfl rfl) fun a S => ?_
   refine lq v111 S (q_assign rfl) fun a S => ?_
   refine lq (.bool x109.2) S (q_assign rfl) fun a S => ?_
   refine lx_nil (thenN ?_)
   refine wp_seq (wp_seq (region_plain ?_))
   refine lq (.bool x97.2) S (q_move rfl) fun a S => ?_
   refine lq (.bool (!x97.2)) S (q_not rfl) fun a S => ?_
   refine lq (.bool (!x97.2)) S (q_move rfl) fun a S => ?_
   obtain ⟨t114, e115, hm⟩ := bind_some hm
   refine lx_cut 3 (fun a w => Slots a 81 [(0, (sv a0)), (2, (bp b31)), (4, v38), (6, v99), (8, v111), (49, (.bool t114))] ∧ Heap w0 [oA (rList Rimpl_Edge) v111 x109.1, oA (rList (rInt .i64)) v99 x97.1, bA b31 [(.int .i64 (0 : Int)), (.int .i64 (0 : Int)), (.slice none 0 0), (.slice none 0 0)] 25, oA (rList rStr) v38 xs77] w) ?_ ?_
   ·by_cases hc116 : (!x97.2) = true
    ·have hm := ite_t hc116 e115
     refine lx_skip S rfl rfl (isB_ne hc116) (by decide) (fun a S => ?_)
     refine lx_skip S rfl rfl (isB_ne hc116) (by decide) (fun a S => ?_)
     refine lq (.bool true) S (q_pickT' rfl hc116 rfl) fun a S => ?_
     refine lx_nil ?_
     obtain rfl := Option.some.inj hm
     have H := H.sel [0, 1, 3, 4] (by decide)
     exact ⟨S.sub ⟨rfl, rfl, rfl, rfl, rfl, rfl, trivial⟩, H⟩
    ·have hm := ite_f (eq_false_of_ne_true hc116) e115
     have hc116 : (!x97.2) = false := eq_false_of_ne_true hc116
     refine lx_q (.bool x109.2) S (want_b rfl rfl hc116) (by decide) (q_move rfl) (fun a S => ?_)
     refine lx_q (.bool (!x109.2)) S (want_b rfl rfl hc116) (by decide) (q_not rfl) (fun a S => ?_)
     refine lq (.bool (!x109.2)) S (q_pickF' rfl hc116 rfl) fun a S => ?_
     refine lx_nil ?_
     obtain rfl := Option.some.inj hm
     have H := H.sel [0, 1, 3, 4] (by decide)
     exact ⟨S.sub ⟨rfl, rfl, rfl, rfl, rfl, rfl, trivial⟩, H⟩
   ·rintro a w ⟨S, H⟩
    refine lq (.bool t114) S (q_move rfl) fun a S => ?_
    obtain ⟨t117, e118, hm⟩ := bind_some hm
    refine lx_cut 4 (fun a w => Slots a 81 [(0, (sv a0)), (2, (bp b31)), (4, v38), (6, v99), (8, v111), (54, (.bool t117))] ∧ Heap w0 [oA (rList Rimpl_Edge) v111 x109.1, oA (rList (rInt .i64)) v99 x97.1, bA b31 [(.int .i64 (0 : Int)), (.int .i64 (0 : Int)), (.slice none 0 0), (.slice none 0 0)] 25, oA (rList rStr) v38 xs77] w) ?_ ?_
    ·by_cases hc119 : t114 = true
     ·have hm := ite_t hc119 e118
      refine lx_skip S rfl rfl (isB_ne hc119) (by decide) (fun a S => ?_)
      refine lx_skip S rfl rfl (isB_ne hc119) (by decide) (fun a S => ?_)
      refine lx_skip S rfl rfl (isB_ne hc119) (by decide) (fun a S => ?_)
      refine lq (.bool true) S (q_pickT' rfl hc119 rfl) fun a S => ?_
      refine lx_nil ?_
      obtain rfl := Option.some.inj hm
      exact ⟨S.sub ⟨rfl, rfl, rfl, rfl, rfl, rfl, trivial⟩, H⟩
     ·have hm := ite_f (eq_false_of_ne_true hc119) e118
      have hc119 : t114 = false := eq_false_of_ne_true hc119
      refine lx_q v99 S (want_b rfl rfl hc119) (by decide) (q_move rfl) (fun a S => ?_)
      refine lx_q (.int .i64 (x97.1.length : Int)) S (want_b rfl rfl hc119) (by decide) (q_lenSl rfl (H.isSl 1 rfl) rfl Tryz.underlying32) (fun a S => ?_)
      refine lx_q (.bool ((x97.1.length : Int) != (2 : Int))) S (want_b rfl rfl hc119) (by decide) (q_neq rfl rfl) (fun a S => ?_)
      refine lq (.bool ((x97.1.length : Int) != (2 : Int))) S (q_pickF' rfl hc119 rfl) fun a S => ?_
      refine lx_nil ?_
      obtain rfl := Option.some.inj hm
      exact ⟨S.sub ⟨rfl, rfl, rfl, rfl, rfl, rfl, trivial⟩, H⟩
    ·rintro a w ⟨S, H⟩
     refine lx_nil (thenN ?_)
     refine cond_b S rfl (fun hc120 => ?_) (fun hc120 => ?_)
     ·have hm := ite_t hc120 hm
      refine wp_seq (region_plain ?_)
      refine lq (.agg #[(.int .i64 (0 : Int)), (.int .i64 (0 : Int)), (.slice none 0 0), (.slice none 0 0)]) S (q_build (zs := [(.int .i64 (0 : Int)), (.int .i64 (0 : Int)), (.slice none 0 0), (.slice none 0 0)]) (szs := [1, 1, 1, 1]) (ps := []) (parts := []) rfl Tryz.underlying25 Tryz.zeroValue25 (fun w => by simp [Tryz.sizeOf2, Tryz.sizeOf22, Tryz.sizeOf23]) trivial rfl) fun a S => ?_
      refine lx_storeBox (o := 0) (i := 2) (us := [(.int .i64 (0 : Int)), (.int .i64 (0 : Int)), (.slice none 0 0), (.slice none 0 0)]) (cs' := [(.int .i64 (0 : Int)), (.int .i64 (0 : Int)), (.slice none 0 0), (.slice none 0 0)]) S trivial rfl H rfl rfl rfl rfl Tryz.sizeOf25 (Nat.le_of_ble_eq_true rfl) (List.forall_mem_cons.2 ⟨rfl, (List.forall_mem_cons.2 ⟨rfl, (List.forall_mem_cons.2 ⟨rfl, (List.forall_mem_cons.2 ⟨rfl, (List.forall_mem_nil _)⟩)⟩)⟩)⟩) rfl (fun w121 H => ⟨trivial, fun a S => ?_⟩)
      change Heap w0 [oA (rList Rimpl_Edge) v111 x109.1, oA (rList (rInt .i64)) v99 x97.1, bA b31 [(.int .i64 (0 : Int)), (.int .i64 (0 : Int)), (.slice none 0 0), (.slice none 0 0)] 25, oA (rList rStr) v38 xs77] w121 at H
      refine lq (.bool false) S (q_assign rfl) fun a S => ?_
      refine lx_nil (thenN ?_)
      refine wp_ret ?_
      have hrv0 := RV.cellA (t := 25) (q := 2) (env := [(0, (sv a0)), (2, (bp b31)), (3, (.bool false)), (4, v38), (6, v99), (8, v111), (54, (.bool t117)), (55, (.agg #[(.int .i64 (0 : Int)), (.int .i64 (0 : Int)), (.slice none 0 0), (.slice none 0 0)]))]) H (i := 2) rfl rfl Tryz.isAgg25 Tryz.sizeOf25
      have hrv1 : RV Tryz.prog _ w121 (.tmp 3) (.bool false) := (rfl : lk [(0, (sv a0)), (2, (bp b31)), (3, (.bool false)), (4, v38), (6, v99), (8, v111), (54, (.bool t117)), (55, (.agg #[(.int .i64 (0 : Int)), (.int .i64 (0 : Int)), (.slice none 0 0), (.slice none 0 0)]))] 3 = some (.bool false))
      refine then_ret ?_
      obtain rfl := Option.some.inj hm
      have H : Heap w0 [oA (rList rStr) (.slice none 0 0) ([] : List Str), oA (rList Rimpl_Edge) v111 x109.1, oA (rList (rInt .i64)) v99 x97.1, bA b31 [(.int .i64 (0 : Int)), (.int .i64 (0 : Int)), (.slice none 0 0), (.slice none 0 0)] 25, oA (rList rStr) v38 xs77] w121 := H.nilList rStr
      have H : Heap w0 [oA (rList Rimpl_Edge) (.slice none 0 0) ([] : List Timpl_Edge), oA (rList rStr) (.slice none 0 0) ([] : List Str), oA (rList Rimpl_Edge) v111 x109.1, oA (rList (rInt .i64)) v99 x97.1, bA b31 [(.int .i64 (0 : Int)), (.int .i64 (0 : Int)), (.slice none 0 0), (.slice none 0 0)] 25, oA (rList rStr) v38 xs77] w121 := H.nilList Rimpl_Edge
      have H : Heap w0 [oA (rList rStr) (.slice none 0 0) ([] : List Str), oA (rList Rimpl_Edge) (.slice none 0 0) ([] : List Timpl_Edge), oA (rList Rimpl_Edge) v111 x109.1, oA (rList (rInt .i64)) v99 x97.1, bA b31 [(.int .i64 (0 : Int)), (.int .i64 (0 : Int)), (.slice none 0 0), (.slice none 0 0)] 25, oA (rList rStr) v38 xs77] w121 := H.front 1 rfl
      have H : Heap w0 [oA (rList rStr) (.slice none 0 0) ([] : List Str), oA (rList Rimpl_Edge) (.slice none 0 0) ([] : List Timpl_Edge)] w121 := H.sel [0, 1] (by decide)
      exact leaveR2 S rfl hrv0 hrv1 ⟨(.slice none 0 0), (.slice none 0 0), rfl, H⟩
     ·have hm := ite_f hc120 hm
      refine wp_skip (thenN ?_)
      obtain ⟨K132, hK133, hm⟩ := join_elim hm
      refine seq_cut (fun a w => ∃ (x126 : Int) (x127 : Int) (xs129 : List Str) (xs131 : List Timpl_Edge) (b124 : Nat) (v128 : Value), Slots a 81 [(0, (sv a0)), (2, (bp b31)), (10, (bp b124))] ∧ Heap w0 [bA b31 [(.int .i64 (0 : Int)), (.int .i64 (0 : Int)), (.slice none 0 0), (.slice none 0 0)] 25, bA b124 [(.int .i64 x126), (.int .i64 x127), v128, v111] 25, oA (rList rStr) v128 xs129, oA (rList Rimpl_Edge) v111 xs131] w ∧ K132 x126 x127 xs129 xs131 = some r) ?_ ?_
      ·rintro a w ⟨x126, x127, xs129, xs131, b124, v128, S, H, hm⟩
       subst hK133
       refine wp_seq (wp_seq (region_plain ?_))
       refine lx_e (.agg #[(.int .i64 x126), (.int .i64 x127), v128, v111]) S trivial (by decide) rfl trivial (q_loadA (cs := [(.int .i64 x126), (.int .i64 x127), v128, v111]) rfl (isP_bp _) Tryz.isAgg25 Tryz.sizeOf25 (by rintro _ rfl; exact (fun j u hu => boxAt (i := 1) H rfl hu))) (fun a S => ?_)
       obtain ⟨x136, e137, hm⟩ := bind_some hm
       refine lx_call (xs := [.tmp 70]) S trivial (by decide) rfl rfl Tryz.call14 ((impl_ValidLts_ok (a0 := (x126, x127, xs129, xs131)) (hG.ext H.ext) ⟨[(.int .i64 x126), (.int .i64 x127), v128, v111], rfl, ⟨[(.int .i64 x126)], [(.int .i64 x127), v128, v111], rfl, rfl, ⟨[(.int .i64 x127)], [v128, v111], rfl, rfl, ⟨[v128], [v111], rfl, ((H.rdAt 2 rfl)).list_rd, ((H.rdAt 3 rfl)).list_rd⟩⟩⟩⟩ e137).mono ?_)
       rintro e w134 ⟨rfl, Hc135⟩
       have H := H.call0 Hc135
       refine ⟨_, rfl, trivial, fun a S => ?_⟩
       refine lq (.bool (!x136)) S (q_not rfl) fun a S => ?_
       refine lq (.bool (!x136)) S (q_move rfl) fun a S => ?_
       obtain ⟨t139, e140, hm⟩ := bind_some hm
       refine lx_cut 5 (fun a w => Slots a 81 [(2, (bp b31)), (10, (bp b124)), (78, (.bool t139))] ∧ Heap w0 [bA b31 [(.int .i64 (0 : Int)), (.int .i64 (0 : Int)), (.slice none 0 0), (.slice none 0 0)] 25, bA b124 [(.int .i64 x126), (.int .i64 x127), v128, v111] 25, oA (rList rStr) v128 xs129, oA (rList Rimpl_Edge) v111 xs131] w) ?_ ?_
       ·by_cases hc141 : (!x136) = true
        ·have hm := ite_t hc141 e140
         refine lx_skip S rfl rfl (isB_ne hc141) (by decide) (fun a S => ?_)
         refine lx_skip S rfl rfl (isB_ne hc141) (by decide) (fun a S => ?_)
         refine lx_skip S rfl rfl (isB_ne hc141) (by decide) (fun a S => ?_)
         refine lx_skip S rfl rfl (isB_ne hc141) (by decide) (fun a S => ?_)
         refine lq (.bool true) S (q_pickT' rfl hc141 rfl) fun a S => ?_
         refine lx_nil ?_
         obtain rfl := Option.some.inj hm
         exact ⟨S.sub ⟨rfl, rfl, rfl, trivial⟩, H⟩
        ·have hm := ite_f (eq_false_of_ne_true hc141) e140
         have hc141 : (!x136) = false := eq_false_of_ne_true hc141
         refine lx_e (.agg #[(.int .i64 x126), (.int .i64 x127), v128, v111]) S (want_b rfl rfl hc141) (by decide) rfl trivial (q_loadA (cs := [(.int .i64 x126), (.int .i64 x127), v128, v111]) rfl (isP_bp _) Tryz.isAgg25 Tryz.sizeOf25 (by rintro _ rfl; exact (fun j u hu => boxAt (i := 1) H rfl hu))) (fun a S => ?_)
         obtain ⟨x144, e145, hm⟩ := bind_some hm
         refine lx_call (xs := [.tmp 74]) S (want_b rfl rfl hc141) (by decide) rfl rfl Tryz.call15 ((impl_LtsText_ok (a0 := (x126, x127, xs129, xs131)) (hG.ext H.ext) ⟨[(.int .i64 x126), (.int .i64 x127), v128, v111], rfl, ⟨[(.int .i64 x126)], [(.int .i64 x127), v128, v111], rfl, rfl, ⟨[(.int .i64 x127)], [v128, v111], rfl, rfl, ⟨[v128], [v111], rfl, ((H.rdAt 2 rfl)).list_rd, ((H.rdAt 3 rfl)).list_rd⟩⟩⟩⟩ e145).mono ?_)
         rintro e w142 ⟨rfl, Hc143⟩
         have H := H.call0 Hc143
         refine ⟨_, rfl, trivial, fun a S => ?_⟩
         refine lx_q (sv a0) S (want_b rfl rfl hc141) (by decide) (q_move rfl) (fun a S => ?_)
         refine lx_q (.bool (x144 != a0)) S (want_b rfl rfl hc141) (by decide) (q_sneq rfl rfl) (fun a S => ?_)
         refine lq (.bool (x144 != a0)) S (q_pickF' rfl hc141 rfl) fun a S => ?_
         refine lx_nil ?_
         obtain rfl := Option.some.inj hm
         exact ⟨S.sub ⟨rfl, rfl, rfl, trivial⟩, H⟩
       ·rintro a w ⟨S, H⟩
        refine lx_nil (thenN ?_)
        refine cond_b S rfl (fun hc147 => ?_) (fun hc147 => ?_)
        ·have hm := ite_t hc147 hm
         refine wp_seq (region_plain ?_)
         refine lq (.agg #[(.int .i64 (0 : Int)), (.int .i64 (0 : Int)), (.slice none 0 0), (.slice none 0 0)]) S (q_build (zs := [(.int .i64 (0 : Int)), (.int .i64 (0 : Int)), (.slice none 0 0), (.slice none 0 0)]) (szs := [1, 1, 1, 1]) (ps := []) (parts := []) rfl Tryz.underlying25 Tryz.zeroValue25 (fun w => by simp [Tryz.sizeOf2, Tryz.sizeOf22, Tryz.sizeOf23]) trivial rfl) fun a S => ?_
         refine lx_storeBox (o := 0) (i := 0) (us := [(.int .i64 (0 : Int)), (.int .i64 (0 : Int)), (.slice none 0 0), (.slice none 0 0)]) (cs' := [(.int .i64 (0 : Int)), (.int .i64 (0 : Int)), (.slice none 0 0), (.slice none 0 0)]) S trivial rfl H rfl rfl rfl rfl Tryz.sizeOf25 (Nat.le_of_ble_eq_true rfl) (List.forall_mem_cons.2 ⟨rfl, (List.forall_mem_cons.2 ⟨rfl, (List.forall_mem_cons.2 ⟨rfl, (List.forall_mem_cons.2 ⟨rfl, (List.forall_mem_nil _)⟩)⟩)⟩)⟩) rfl (fun w148 H => ⟨trivial, fun a S => ?_⟩)
         change Heap w0 [bA b31 [(.int .i64 (0 : Int)), (.int .i64 (0 : Int)), (.slice none 0 0), (.slice none 0 0)] 25, bA b124 [(.int .i64 x126), (.int .i64 x127), v128, v111] 25, oA (rList rStr) v128 xs129, oA (rList Rimpl_Edge) v111 xs131] w148 at H
         refine lq (.bool false) S (q_assign rfl) fun a S => ?_
         refine lx_nil (thenN ?_)
         refine wp_ret ?_
         have hrv0 := RV.cellA (t := 25) (q := 2) (env := [(2, (bp b31)), (3, (.bool false)), (10, (bp b124)), (78, (.bool t139)), (79, (.agg #[(.int .i64 (0 : Int)), (.int .i64 (0 : Int)), (.slice none 0 0), (.slice none 0 0)]))]) H (i := 0) rfl rfl Tryz.isAgg25 Tryz.sizeOf25
         have hrv1 : RV Tryz.prog _ w148 (.tmp 3) (.bool false) := (rfl : lk [(2, (bp b31)), (3, (.bool false)), (10, (bp b124)), (78, (.bool t139)), (79, (.agg #[(.int .i64 (0 : Int)), (.int .i64 (0 : Int)), (.slice none 0 0), (.slice none 0 0)]))] 3 = some (.bool false))
         refine then_ret ?_
         obtain rfl := Option.some.inj hm
         have H : Heap w0 [oA (rList rStr) (.slice none 0 0) ([] : List Str), bA b31 [(.int .i64 (0 : Int)), (.int .i64 (0 : Int)), (.slice none 0 0), (.slice none 0 0)] 25, bA b124 [(.int .i64 x126), (.int .i64 x127), v128, v111] 25, oA (rList rStr) v128 xs129, oA (rList Rimpl_Edge) v111 xs131] w148 := H.nilList rStr
         have H : Heap w0 [oA (rList Rimpl_Edge) (.slice none 0 0) ([] : List Timpl_Edge), oA (rList rStr) (.slice none 0 0) ([] : List Str), bA b31 [(.int .i64 (0 : Int)), (.int .i64 (0 : Int)), (.slice none 0 0), (.slice none 0 0)] 25, bA b124 [(.int .i64 x126), (.int .i64 x127), v128, v111] 25, oA (rList rStr) v128 xs129, oA (rList Rimpl_Edge) v111 xs131] w148 := H.nilList Rimpl_Edge
         have H : Heap w0 [oA (rList rStr) (.slice none 0 0) ([] : List Str), oA (rList Rimpl_Edge) (.slice none 0 0) ([] : List Timpl_Edge), bA b31 [(.int .i64 (0 : Int)), (.int .i64 (0 : Int)), (.slice none 0 0), (.slice none 0 0)] 25, bA b124 [(.int .i64 x126), (.int .i64 x127), v128, v111] 25, oA (rList rStr) v128 xs129, oA (rList Rimpl_Edge) v111 xs131] w148 := H.front 1 rfl
         have H : Heap w0 [oA (rList rStr) (.slice none 0 0) ([] : List Str), oA (rList Rimpl_Edge) (.slice none 0 0) ([] : List Timpl_Edge)] w148 := H.sel [0, 1] (by decide)
         exact leaveR2 S rfl hrv0 hrv1 ⟨(.slice none 0 0), (.slice none 0 0), rfl, H⟩
        ·have hm := ite_f hc147 hm
         refine wp_skip (thenN ?_)
         refine wp_seq (region_plain ?_)
         refine lx_e (.agg #[(.int .i64 x126), (.int .i64 x127), v128, v111]) S trivial (by decide) rfl trivial (q_loadA (cs := [(.int .i64 x126), (.int .i64 x127), v128, v111]) rfl (isP_bp _) Tryz.isAgg25 Tryz.sizeOf25 (by rintro _ rfl; exact (fun j u hu => boxAt (i := 1) H rfl hu))) (fun a S => ?_)
         refine lx_storeBox (o := 0) (i := 0) (us := [(.int .i64 x126), (.int .i64 x127), v128, v111]) (cs' := [(.int .i64 x126), (.int .i64 x127), v128, v111]) S trivial rfl H rfl rfl rfl rfl Tryz.sizeOf25 (Nat.le_of_ble_eq_true rfl) (List.forall_mem_cons.2 ⟨rfl, (List.forall_mem_cons.2 ⟨rfl, (List.forall_mem_cons.2 ⟨one_sl (H.isSl 2 rfl), (List.forall_mem_cons.2 ⟨one_sl (H.isSl 3 rfl), (List.forall_mem_nil _)⟩)⟩)⟩)⟩) rfl (fun w151 H => ⟨trivial, fun a S => ?_⟩)
         change Heap w0 [bA b31 [(.int .i64 x126), (.int .i64 x127), v128, v111] 25, bA b124 [(.int .i64 x126), (.int .i64 x127), v128, v111] 25, oA (rList rStr) v128 xs129, oA (rList Rimpl_Edge) v111 xs131] w151 at H
         refine lq (.bool true) S (q_assign rfl) fun a S => ?_
         refine lx_nil (thenN ?_)
         refine wp_ret ?_
         have hrv0 := RV.cellA (t := 25) (q := 2) (env := [(2, (bp b31)), (3, (.bool true)), (10, (bp b124)), (78, (.bool t139)), (80, (.agg #[(.int .i64 x126), (.int .i64 x127), v128, v111]))]) H (i := 0) rfl rfl Tryz.isAgg25 Tryz.sizeOf25
         have hrv1 : RV Tryz.prog _ w151 (.tmp 3) (.bool true) := (rfl : lk [(2, (bp b31)), (3, (.bool true)), (10, (bp b124)), (78, (.bool t139)), (80, (.agg #[(.int .i64 x126), (.int .i64 x127), v128, v111]))] 3 = some (.bool true))
         obtain rfl := Option.some.inj hm
         have H : Heap w0 [oA (rList rStr) v128 xs129, oA (rList Rimpl_Edge) v111 xs131] w151 := H.sel [2, 3] (by decide)
         exact leaveR2 S rfl hrv0 hrv1 ⟨v128, v111, rfl, H⟩
      ·skip
       obtain ⟨x157, e158, hm⟩ := bind_some hm
       obtain ⟨x161, e162, hm⟩ := bind_some hm
       obtain ⟨x166, e167, hm⟩ := bind_some hm
       obtain ⟨x174, e175, hm⟩ := bind_some hm
       obtain ⟨x176, e177, hm⟩ := bind_some hm
       refine region_drawT (fun w1 => Heap w0 [oA (rList (rInt .i64)) v99 x97.1, oA (rList rStr) v38 xs77] w1) (fun i => [6, 10, 11, 14, 15].contains i) [([6, 7, 8, 9, 10], [[11, 14, 0, 1, 2, 3, 4, 5, 12, 13, 15], [14, 11, 0, 1, 2, 3, 4, 5, 12, 13, 15]]), ([6, 14, 7, 8, 9, 10], [[11, 0, 1, 2, 3, 4, 5, 12, 13, 15]]), ([7, 8, 9, 10], [[6, 11, 14, 0, 1, 2, 3, 4, 5, 12, 13, 15], [6, 14, 11, 0, 1, 2, 3, 4, 5, 12, 13, 15], [14, 6, 11, 0, 1, 2, 3, 4, 5, 12, 13, 15]]), ([14, 6, 7, 8, 9, 10], [[11, 0, 1, 2, 3, 4, 5, 12, 13, 15]]), ([14, 7, 8, 9, 10], [[6, 11, 0, 1, 2, 3, 4, 5, 12, 13, 15]])] mixed (by kernel_rfl) (fun w153 he152 => ?_)
       have H := H.later he152
       refine ⟨H.sel [1, 3] (by decide), ⟨[_, _, _, _, _], (fun i => [0, 4].contains i), rfl, rfl, ?_⟩, ⟨[_, _, _, _, _, _], (fun i => [0, 5, 1].contains i), rfl, rfl, ?_⟩, ⟨[_, _, _, _], (fun i => [3].contains i), rfl, rfl, ?_⟩, ⟨[_, _, _, _, _, _], (fun i => [1, 5, 0].contains i), rfl, rfl, ?_⟩, ⟨[_, _, _, _, _], (fun i => [4, 0].contains i), rfl, rfl, ?_⟩, trivial⟩
       ·skip
        refine lx_buildSlice (r := rStr) (xs := [([116, 97, 117] : Str)]) (ps := [(0, [(sv ([116, 97, 117] : Str))])]) (cs := [(sv ([116, 97, 117] : Str))]) (parts := [(0, .const (sv [116, 97, 117]))]) S trivial (by decide) rfl (H.put0 (A := eA) rfl) rfl Tryz.underlying22 Tryz.sizeOf9 Tryz.zeroValue9 (by decide) ⟨rfl, rfl, Nat.le_of_ble_eq_true rfl, trivial⟩ (by intro zs hz; exact fill_dense hz ⟨rfl, trivial⟩ rfl rfl) rfl (by decide) (fun w F hA => by cases (show F = [] from hA); exact ⟨_, _, [(sv ([116, 97, 117] : Str))], _, rfl, rfl, ⟨rfl, rfl⟩, ⟨rfl, rfl⟩⟩) (fun v154 w155 H => ⟨H.sel [2, 4] (by decide), fun a S => ?_⟩)
        refine lq v38 S (q_move rfl) fun a S => ?_
        have hlt := lt_of_idx (idx_some e158).2
        refine lq (ePtr v38 ((1 : Int).toNat * 1)) S (q_indexAddr rfl (H.isSl 4 rfl) rfl (idx_some e158).1 hlt Tryz.underlying22 Tryz.sizeOf9) fun a S => ?_
        refine lq (sv x157) S (q_load1 rfl Tryz.isAgg9 (fun w1 hC => ((hC.rdAt 1 rfl).elemAt (j := 0) (idx_some e158).2 (by intro B w cs h; obtain rfl := h; rfl)))) fun a S => ?_
        refine lx_call (xs := [.tmp 65]) S trivial (by decide) rfl rfl Tryz.call12 ((impl_SplitWords_ok  e162).mono ?_)
        rintro e w159 ⟨v163, rfl, Hc160⟩
        have he165 := Hc160.ext
        have H := H.call1 Hc160
        refine ⟨_, rfl, H.sel [3, 5] (by decide), fun a S => ?_⟩
        refine lx_nil ?_
        refine ⟨⟨[_, _, _, _, _, _, _, _, _, _, _], (fun i => [0, 1, 10].contains i), rfl, rfl, ?_⟩, ⟨[_, _, _, _, _, _, _, _, _, _, _], (fun i => [1, 0, 10].contains i), rfl, rfl, ?_⟩, trivial⟩
        ·skip
         obtain ⟨hle, hap⟩ := app_some e167
         replace hap := hap.symm
         subst hap
         have H : Heap w0 [oA (rList rStr) v163 x161, oA (rList rStr) v154 [([116, 97, 117] : Str)], oA (rList Rimpl_Edge) v111 x109.1, oA (rList (rInt .i64)) v99 x97.1, bA b31 [(.int .i64 (0 : Int)), (.int .i64 (0 : Int)), (.slice none 0 0), (.slice none 0 0)] 25, oA (rList rStr) v38 xs77] w159 := H.front 0 rfl
         have H : Heap w0 [oA (rList rStr) v154 [([116, 97, 117] : Str)], oA (rList rStr) v163 x161, oA (rList Rimpl_Edge) v111 x109.1, oA (rList (rInt .i64)) v99 x97.1, bA b31 [(.int .i64 (0 : Int)), (.int .i64 (0 : Int)), (.slice none 0 0), (.slice none 0 0)] 25, oA (rList rStr) v38 xs77] w159 := H.front 1 rfl
         refine lx_appendOwn (r := rStr) S trivial (by decide) rfl H rfl rfl Tryz.underlying22 Tryz.ti9 rfl rfl rfl (Nat.le_of_ble_eq_true rfl) (by decide) hle (fun v168 w169 H => ⟨H.sel [2, 4] (by decide), fun a S => ?_⟩)
         refine lx_alloc S trivial (by decide) rfl H Tryz.zeroValue25 rfl (fun b171 w172 H => ⟨H.sel [3, 5] (by decide), fun a S => ?_⟩)
         refine lq v99 S (q_move rfl) fun a S => ?_
         have hlt := lt_of_idx (idx_some e175).2
         refine lq (ePtr v99 ((0 : Int).toNat * 1)) S (q_indexAddr rfl (H.isSl 3 rfl) rfl (idx_some e175).1 hlt Tryz.underlying32 Tryz.sizeOf2) fun a S => ?_
         refine lq (.int .i64 x174) S (q_load1 rfl Tryz.isAgg2 (fun w1 hC => ((hC.rdAt 0 rfl).elemAt (j := 0) (idx_some e175).2 (by intro B w cs h; obtain rfl := h; rfl)))) fun a S => ?_
         refine lq v99 S (q_move rfl) fun a S => ?_
         have hlt := lt_of_idx (idx_some e177).2
         refine lq (ePtr v99 ((1 : Int).toNat * 1)) S (q_indexAddr rfl (H.isSl 3 rfl) rfl (idx_some e177).1 hlt Tryz.underlying32 Tryz.sizeOf2) fun a S => ?_
         refine lq (.int .i64 x176) S (q_load1 rfl Tryz.isAgg2 (fun w1 hC => ((hC.rdAt 0 rfl).elemAt (j := 0) (idx_some e177).2 (by intro B w cs h; obtain rfl := h; rfl)))) fun a S => ?_
         refine lq v111 S (q_move rfl) fun a S => ?_
         refine lq (.agg #[(.int .i64 x174), (.int .i64 x176), v168, v111]) S (q_build (zs := [(.int .i64 (0 : Int)), (.int .i64 (0 : Int)), (.slice none 0 0), (.slice none 0 0)]) (szs := [1, 1, 1, 1]) (ps := [(0, [(.int .i64 x174)]), (1, [(.int .i64 x176)]), (2, [v168]), (3, [v111])]) (parts := [(0, .tmp 58), (1, .tmp 61), (2, .tmp 67), (3, .tmp 68)]) rfl Tryz.underlying25 Tryz.zeroValue25 (fun w => by simp [Tryz.sizeOf2, Tryz.sizeOf22, Tryz.sizeOf23]) ⟨rfl, rfl, Nat.le_of_ble_eq_true rfl, ⟨rfl, rfl, Nat.le_of_ble_eq_true rfl, ⟨rfl, (cells_sl (H.isSl 1 rfl)), Nat.le_of_ble_eq_true rfl, ⟨rfl, (cells_sl (H.isSl 2 rfl)), Nat.le_of_ble_eq_true rfl, trivial⟩⟩⟩⟩ rfl) fun a S => ?_
         refine lx_storeBox (o := 0) (i := 0) (us := [(.int .i64 x174), (.int .i64 x176), v168, v111]) (cs' := [(.int .i64 x174), (.int .i64 x176), v168, v111]) S trivial rfl H rfl rfl rfl rfl Tryz.sizeOf25 (Nat.le_of_ble_eq_true rfl) (List.forall_mem_cons.2 ⟨rfl, (List.forall_mem_cons.2 ⟨rfl, (List.forall_mem_cons.2 ⟨one_sl (H.isSl 1 rfl), (List.forall_mem_cons.2 ⟨one_sl (H.isSl 2 rfl), (List.forall_mem_nil _)⟩)⟩)⟩)⟩) rfl (fun w178 H => ⟨H.sel [3, 5] (by decide), fun a S => ?_⟩)
         change Heap w0 [bA b171 [(.int .i64 x174), (.int .i64 x176), v168, v111] 25, oA (rList rStr) v168 ([([116, 97, 117] : Str)] ++ x161), oA (rList Rimpl_Edge) v111 x109.1, oA (rList (rInt .i64)) v99 x97.1, bA b31 [(.int .i64 (0 : Int)), (.int .i64 (0 : Int)), (.slice none 0 0), (.slice none 0 0)] 25, oA (rList rStr) v38 xs77] w178 at H
         refine lx_nil ?_
         have H : Heap w0 [oA (rList Rimpl_Edge) v111 x109.1, bA b171 [(.int .i64 x174), (.int .i64 x176), v168, v111] 25, oA (rList rStr) v168 ([([116, 97, 117] : Str)] ++ x161), oA (rList (rInt .i64)) v99 x97.1, bA b31 [(.int .i64 (0 : Int)), (.int .i64 (0 : Int)), (.slice none 0 0), (.slice none 0 0)] 25, oA (rList rStr) v38 xs77] w178 := H.front 2 rfl
         have H : Heap w0 [oA (rList rStr) v168 ([([116, 97, 117] : Str)] ++ x161), oA (rList Rimpl_Edge) v111 x109.1, bA b171 [(.int .i64 x174), (.int .i64 x176), v168, v111] 25, oA (rList (rInt .i64)) v99 x97.1, bA b31 [(.int .i64 (0 : Int)), (.int .i64 (0 : Int)), (.slice none 0 0), (.slice none 0 0)] 25, oA (rList rStr) v38 xs77] w178 := H.front 2 rfl
         have H : Heap w0 [bA b171 [(.int .i64 x174), (.int .i64 x176), v168, v111] 25, oA (rList rStr) v168 ([([116, 97, 117] : Str)] ++ x161), oA (rList Rimpl_Edge) v111 x109.1, oA (rList (rInt .i64)) v99 x97.1, bA b31 [(.int .i64 (0 : Int)), (.int .i64 (0 : Int)), (.slice none 0 0), (.slice none 0 0)] 25, oA (rList rStr) v38 xs77] w178 := H.front 2 rfl
         have H : Heap w0 [bA b31 [(.int .i64 (0 : Int)), (.int .i64 (0 : Int)), (.slice none 0 0), (.slice none 0 0)] 25, bA b171 [(.int .i64 x174), (.int .i64 x176), v168, v111] 25, oA (rList rStr) v168 ([([116, 97, 117] : Str)] ++ x161), oA (rList Rimpl_Edge) v111 x109.1, oA (rList (rInt .i64)) v99 x97.1, oA (rList rStr) v38 xs77] w178 := H.front 4 rfl
         have H : Heap w0 [bA b31 [(.int .i64 (0 : Int)), (.int .i64 (0 : Int)), (.slice none 0 0), (.slice none 0 0)] 25, bA b171 [(.int .i64 x174), (.int .i64 x176), v168, v111] 25, oA (rList rStr) v168 ([([116, 97, 117] : Str)] ++ x161), oA (rList Rimpl_Edge) v111 x109.1] w178 := H.sel [0, 1, 2, 3] (by decide)
         exact ⟨x174, x176, ([([116, 97, 117] : Str)] ++ x161), x109.1, b171, v168, S.sub ⟨rfl, rfl, rfl, trivial⟩, H, hm⟩
        ·skip
         refine lx_alloc S trivial (by decide) rfl H Tryz.zeroValue25 rfl (fun b171 w172 H => ⟨H.sel [4, 6] (by decide), fun a S => ?_⟩)
         obtain ⟨hle, hap⟩ := app_some e167
         replace hap := hap.symm
         subst hap
         have H : Heap w0 [oA (rList rStr) v163 x161, bA b171 [(.int .i64 (0 : Int)), (.int .i64 (0 : Int)), (.slice none 0 0), (.slice none 0 0)] 25, oA (rList rStr) v154 [([116, 97, 117] : Str)], oA (rList Rimpl_Edge) v111 x109.1, oA (rList (rInt .i64)) v99 x97.1, bA b31 [(.int .i64 (0 : Int)), (.int .i64 (0 : Int)), (.slice none 0 0), (.slice none 0 0)] 25, oA (rList rStr) v38 xs77] w172 := H.front 1 rfl
         have H : Heap w0 [oA (rList rStr) v154 [([116, 97, 117] : Str)], oA (rList rStr) v163 x161, bA b171 [(.int .i64 (0 : Int)), (.int .i64 (0 : Int)), (.slice none 0 0), (.slice none 0 0)] 25, oA (rList Rimpl_Edge) v111 x109.1, oA (rList (rInt .i64)) v99 x97.1, bA b31 [(.int .i64 (0 : Int)), (.int .i64 (0 : Int)), (.slice none 0 0), (.slice none 0 0)] 25, oA (rList rStr) v38 xs77] w172 := H.front 2 rfl
         refine lx_appendOwn (r := rStr) S trivial (by decide) rfl H rfl rfl Tryz.underlying22 Tryz.ti9 rfl rfl rfl (Nat.le_of_ble_eq_true rfl) (by decide) hle (fun v168 w169 H => ⟨H.sel [3, 5] (by decide), fun a S => ?_⟩)
         refine lq v99 S (q_move rfl) fun a S => ?_
         have hlt := lt_of_idx (idx_some e175).2
         refine lq (ePtr v99 ((0 : Int).toNat * 1)) S (q_indexAddr rfl (H.isSl 3 rfl) rfl (idx_some e175).1 hlt Tryz.underlying32 Tryz.sizeOf2) fun a S => ?_
         refine lq (.int .i64 x174) S (q_load1 rfl Tryz.isAgg2 (fun w1 hC => ((hC.rdAt 0 rfl).elemAt (j := 0) (idx_some e175).2 (by intro B w cs h; obtain rfl := h; rfl)))) fun a S => ?_
         refine lq v99 S (q_move rfl) fun a S => ?_
         have hlt := lt_of_idx (idx_some e177).2
         refine lq (ePtr v99 ((1 : Int).toNat * 1)) S (q_indexAddr rfl (H.isSl 3 rfl) rfl (idx_some e177).1 hlt Tryz.underlying32 Tryz.sizeOf2) fun a S => ?_
         refine lq (.int .i64 x176) S (q_load1 rfl Tryz.isAgg2 (fun w1 hC => ((hC.rdAt 0 rfl).elemAt (j := 0) (idx_some e177).2 (by intro B w cs h; obtain rfl := h; rfl)))) fun a S => ?_
         refine lq v111 S (q_move rfl) fun a S => ?_
         refine lq (.agg #[(.int .i64 x174), (.int .i64 x176), v168, v111]) S (q_build (zs := [(.int .i64 (0 : Int)), (.int .i64 (0 : Int)), (.slice none 0 0), (.slice none 0 0)]) (szs := [1, 1, 1, 1]) (ps := [(0, [(.int .i64 x174)]), (1, [(.int .i64 x176)]), (2, [v168]), (3, [v111])]) (parts := [(0, .tmp 58), (1, .tmp 61), (2, .tmp 67), (3, .tmp 68)]) rfl Tryz.underlying25 Tryz.zeroValue25 (fun w => by simp [Tryz.sizeOf2, Tryz.sizeOf22, Tryz.sizeOf23]) ⟨rfl, rfl, Nat.le_of_ble_eq_true rfl, ⟨rfl, rfl, Nat.le_of_ble_eq_true rfl, ⟨rfl, (cells_sl (H.isSl 0 rfl)), Nat.le_of_ble_eq_true rfl, ⟨rfl, (cells_sl (H.isSl 2 rfl)), Nat.le_of_ble_eq_true rfl, trivial⟩⟩⟩⟩ rfl) fun a S => ?_
         refine lx_storeBox (o := 0) (i := 1) (us := [(.int .i64 x174), (.int .i64 x176), v168, v111]) (cs' := [(.int .i64 x174), (.int .i64 x176), v168, v111]) S trivial rfl H rfl rfl rfl rfl Tryz.sizeOf25 (Nat.le_of_ble_eq_true rfl) (List.forall_mem_cons.2 ⟨rfl, (List.forall_mem_cons.2 ⟨rfl, (List.forall_mem_cons.2 ⟨one_sl (H.isSl 0 rfl), (List.forall_mem_cons.2 ⟨one_sl (H.isSl 2 rfl), (List.forall_mem_nil _)⟩)⟩)⟩)⟩) rfl (fun w178 H => ⟨H.sel [3, 5] (by decide), fun a S => ?_⟩)
         change Heap w0 [oA (rList rStr) v168 ([([116, 97, 117] : Str)] ++ x161), bA b171 [(.int .i64 x174), (.int .i64 x176), v168, v111] 25, oA (rList Rimpl_Edge) v111 x109.1, oA (rList (rInt .i64)) v99 x97.1, bA b31 [(.int .i64 (0 : Int)), (.int .i64 (0 : Int)), (.slice none 0 0), (.slice none 0 0)] 25, oA (rList rStr) v38 xs77] w178 at H
         refine lx_nil ?_
         have H : Heap w0 [oA (rList Rimpl_Edge) v111 x109.1, oA (rList rStr) v168 ([([116, 97, 117] : Str)] ++ x161), bA b171 [(.int .i64 x174), (.int .i64 x176), v168, v111] 25, oA (rList (rInt .i64)) v99 x97.1, bA b31 [(.int .i64 (0 : Int)), (.int .i64 (0 : Int)), (.slice none 0 0), (.slice none 0 0)] 25, oA (rList rStr) v38 xs77] w178 := H.front 2 rfl
         have H : Heap w0 [oA (rList rStr) v168 ([([116, 97, 117] : Str)] ++ x161), oA (rList Rimpl_Edge) v111 x109.1, bA b171 [(.int .i64 x174), (.int .i64 x176), v168, v111] 25, oA (rList (rInt .i64)) v99 x97.1, bA b31 [(.int .i64 (0 : Int)), (.int .i64 (0 : Int)), (.slice none 0 0), (.slice none 0 0)] 25, oA (rList rStr) v38 xs77] w178 := H.front 1 rfl
         have H : Heap w0 [bA b171 [(.int .i64 x174), (.int .i64 x176), v168, v111] 25, oA (rList rStr) v168 ([([116, 97, 117] : Str)] ++ x161), oA (rList Rimpl_Edge) v111 x109.1, oA (rList (rInt .i64)) v99 x97.1, bA b31 [(.int .i64 (0 : Int)), (.int .i64 (0 : Int)), (.slice none 0 0), (.slice none 0 0)] 25, oA (rList rStr) v38 xs77] w178 := H.front 2 rfl
         have H : Heap w0 [bA b31 [(.int .i64 (0 : Int)), (.int .i64 (0 : Int)), (.slice none 0 0), (.slice none 0 0)] 25, bA b171 [(.int .i64 x174), (.int .i64 x176), v168, v111] 25, oA (rList rStr) v168 ([([116, 97, 117] : Str)] ++ x161), oA (rList Rimpl_Edge) v111 x109.1, oA (rList (rInt .i64)) v99 x97.1, oA (rList rStr) v38 xs77] w178 := H.front 4 rfl
         have H : Heap w0 [bA b31 [(.int .i64 (0 : Int)), (.int .i64 (0 : Int)), (.slice none 0 0), (.slice none 0 0)] 25, bA b171 [(.int .i64 x174), (.int .i64 x176), v168, v111] 25, oA (rList rStr) v168 ([([116, 97, 117] : Str)] ++ x161), oA (rList Rimpl_Edge) v111 x109.1] w178 := H.sel [0, 1, 2, 3] (by decide)
         exact ⟨x174, x176, ([([116, 97, 117] : Str)] ++ x161), x109.1, b171, v168, S.sub ⟨rfl, rfl, rfl, trivial⟩, H, hm⟩
       ·skip
        refine lx_buildSlice (r := rStr) (xs := [([116, 97, 117] : Str)]) (ps := [(0, [(sv ([116, 97, 117] : Str))])]) (cs := [(sv ([116, 97, 117] : Str))]) (parts := [(0, .const (sv [116, 97, 117]))]) S trivial (by decide) rfl (H.put0 (A := eA) rfl) rfl Tryz.underlying22 Tryz.sizeOf9 Tryz.zeroValue9 (by decide) ⟨rfl, rfl, Nat.le_of_ble_eq_true rfl, trivial⟩ (by intro zs hz; exact fill_dense hz ⟨rfl, trivial⟩ rfl rfl) rfl (by decide) (fun w F hA => by cases (show F = [] from hA); exact ⟨_, _, [(sv ([116, 97, 117] : Str))], _, rfl, rfl, ⟨rfl, rfl⟩, ⟨rfl, rfl⟩⟩) (fun v154 w155 H => ⟨H.sel [2, 4] (by decide), fun a S => ?_⟩)
        refine lx_alloc S trivial (by decide) rfl H Tryz.zeroValue25 rfl (fun b171 w172 H => ⟨H.sel [3, 5] (by decide), fun a S => ?_⟩)
        refine lq v38 S (q_move rfl) fun a S => ?_
        have hlt := lt_of_idx (idx_some e158).2
        refine lq (ePtr v38 ((1 : Int).toNat * 1)) S (q_indexAddr rfl (H.isSl 5 rfl) rfl (idx_some e158).1 hlt Tryz.underlying22 Tryz.sizeOf9) fun a S => ?_
        refine lq (sv x157) S (q_load1 rfl Tryz.isAgg9 (fun w1 hC => ((hC.rdAt 1 rfl).elemAt (j := 0) (idx_some e158).2 (by intro B w cs h; obtain rfl := h; rfl)))) fun a S => ?_
        refine lx_call (xs := [.tmp 65]) S trivial (by decide) rfl rfl Tryz.call12 ((impl_SplitWords_ok  e162).mono ?_)
        rintro e w159 ⟨v163, rfl, Hc160⟩
        have he165 := Hc160.ext
        have H := H.call1 Hc160
        refine ⟨_, rfl, H.sel [4, 6] (by decide), fun a S => ?_⟩
        refine lx_nil ?_
        refine ⟨⟨[_, _, _, _, _, _, _, _, _, _], (fun i => [0, 9].contains i), rfl, rfl, ?_⟩, trivial⟩
        ·skip
         obtain ⟨hle, hap⟩ := app_some e167
         replace hap := hap.symm
         subst hap
         have H : Heap w0 [oA (rList rStr) v163 x161, bA b171 [(.int .i64 (0 : Int)), (.int .i64 (0 : Int)), (.slice none 0 0), (.slice none 0 0)] 25, oA (rList rStr) v154 [([116, 97, 117] : Str)], oA (rList Rimpl_Edge) v111 x109.1, oA (rList (rInt .i64)) v99 x97.1, bA b31 [(.int .i64 (0 : Int)), (.int .i64 (0 : Int)), (.slice none 0 0), (.slice none 0 0)] 25, oA (rList rStr) v38 xs77] w159 := H.front 0 rfl
         have H : Heap w0 [oA (rList rStr) v154 [([116, 97, 117] : Str)], oA (rList rStr) v163 x161, bA b171 [(.int .i64 (0 : Int)), (.int .i64 (0 : Int)), (.slice none 0 0), (.slice none 0 0)] 25, oA (rList Rimpl_Edge) v111 x109.1, oA (rList (rInt .i64)) v99 x97.1, bA b31 [(.int .i64 (0 : Int)), (.int .i64 (0 : Int)), (.slice none 0 0), (.slice none 0 0)] 25, oA (rList rStr) v38 xs77] w159 := H.front 2 rfl
         refine lx_appendOwn (r := rStr) S trivial (by decide) rfl H rfl rfl Tryz.underlying22 Tryz.ti9 rfl rfl rfl (Nat.le_of_ble_eq_true rfl) (by decide) hle (fun v168 w169 H => ⟨H.sel [3, 5] (by decide), fun a S => ?_⟩)
         refine lq v99 S (q_move rfl) fun a S => ?_
         have hlt := lt_of_idx (idx_some e175).2
         refine lq (ePtr v99 ((0 : Int).toNat * 1)) S (q_indexAddr rfl (H.isSl 3 rfl) rfl (idx_some e175).1 hlt Tryz.underlying32 Tryz.sizeOf2) fun a S => ?_
         refine lq (.int .i64 x174) S (q_load1 rfl Tryz.isAgg2 (fun w1 hC => ((hC.rdAt 0 rfl).elemAt (j := 0) (idx_some e175).2 (by intro B w cs h; obtain rfl := h; rfl)))) fun a S => ?_
         refine lq v99 S (q_move rfl) fun a S => ?_
         have hlt := lt_of_idx (idx_some e177).2
         refine lq (ePtr v99 ((1 : Int).toNat * 1)) S (q_indexAddr rfl (H.isSl 3 rfl) rfl (idx_some e177).1 hlt Tryz.underlying32 Tryz.sizeOf2) fun a S => ?_
         refine lq (.int .i64 x176) S (q_load1 rfl Tryz.isAgg2 (fun w1 hC => ((hC.rdAt 0 rfl).elemAt (j := 0) (idx_some e177).2 (by intro B w cs h; obtain rfl := h; rfl)))) fun a S => ?_
         refine lq v111 S (q_move rfl) fun a S => ?_
         refine lq (.agg #[(.int .i64 x174), (.int .i64 x176), v168, v111]) S (q_build (zs := [(.int .i64 (0 : Int)), (.int .i64 (0 : Int)), (.slice none 0 0), (.slice none 0 0)]) (szs := [1, 1, 1, 1]) (ps := [(0, [(.int .i64 x174)]), (1, [(.int .i64 x176)]), (2, [v168]), (3, [v111])]) (parts := [(0, .tmp 58), (1, .tmp 61), (2, .tmp 67), (3, .tmp 68)]) rfl Tryz.underlying25 Tryz.zeroValue25 (fun w => by simp [Tryz.sizeOf2, Tryz.sizeOf22, Tryz.sizeOf23]) ⟨rfl, rfl, Nat.le_of_ble_eq_true rfl, ⟨rfl, rfl, Nat.le_of_ble_eq_true rfl, ⟨rfl, (cells_sl (H.isSl 0 rfl)), Nat.le_of_ble_eq_true rfl, ⟨rfl, (cells_sl (H.isSl 2 rfl)), Nat.le_of_ble_eq_true rfl, trivial⟩⟩⟩⟩ rfl) fun a S => ?_
         refine lx_storeBox (o := 0) (i := 1) (us := [(.int .i64 x174), (.int .i64 x176), v168, v111]) (cs' := [(.int .i64 x174), (.int .i64 x176), v168, v111]) S trivial rfl H rfl rfl rfl rfl Tryz.sizeOf25 (Nat.le_of_ble_eq_true rfl) (List.forall_mem_cons.2 ⟨rfl, (List.forall_mem_cons.2 ⟨rfl, (List.forall_mem_cons.2 ⟨one_sl (H.isSl 0 rfl), (List.forall_mem_cons.2 ⟨one_sl (H.isSl 2 rfl), (List.forall_mem_nil _)⟩)⟩)⟩)⟩) rfl (fun w178 H => ⟨H.sel [3, 5] (by decide), fun a S => ?_⟩)
         change Heap w0 [oA (rList rStr) v168 ([([116, 97, 117] : Str)] ++ x161), bA b171 [(.int .i64 x174), (.int .i64 x176), v168, v111] 25, oA (rList Rimpl_Edge) v111 x109.1, oA (rList (rInt .i64)) v99 x97.1, bA b31 [(.int .i64 (0 : Int)), (.int .i64 (0 : Int)), (.slice none 0 0), (.slice none 0 0)] 25, oA (rList rStr) v38 xs77] w178 at H
         refine lx_nil ?_
         have H : Heap w0 [oA (rList Rimpl_Edge) v111 x109.1, oA (rList rStr) v168 ([([116, 97, 117] : Str)] ++ x161), bA b171 [(.int .i64 x174), (.int .i64 x176), v168, v111] 25, oA (rList (rInt .i64)) v99 x97.1, bA b31 [(.int .i64 (0 : Int)), (.int .i64 (0 : Int)), (.slice none 0 0), (.slice none 0 0)] 25, oA (rList rStr) v38 xs77] w178 := H.front 2 rfl
         have H : Heap w0 [oA (rList rStr) v168 ([([116, 97, 117] : Str)] ++ x161), oA (rList Rimpl_Edge) v111 x109.1, bA b171 [(.int .i64 x174), (.int .i64 x176), v168, v111] 25, oA (rList (rInt .i64)) v99 x97.1, bA b31 [(.int .i64 (0 : Int)), (.int .i64 (0 : Int)), (.slice none 0 0), (.slice none 0 0)] 25, oA (rList rStr) v38 xs77] w178 := H.front 1 rfl
         have H : Heap w0 [bA b171 [(.int .i64 x174), (.int .i64 x176), v168, v111] 25, oA (rList rStr) v168 ([([116, 97, 117] : Str)] ++ x161), oA (rList Rimpl_Edge) v111 x109.1, oA (rList (rInt .i64)) v99 x97.1, bA b31 [(.int .i64 (0 : Int)), (.int .i64 (0 : Int)), (.slice none 0 0), (.slice none 0 0)] 25, oA (rList rStr) v38 xs77] w178 := H.front 2 rfl
         have H : Heap w0 [bA b31 [(.int .i64 (0 : Int)), (.int .i64 (0 : Int)), (.slice none 0 0), (.slice none 0 0)] 25, bA b171 [(.int .i64 x174), (.int .i64 x176), v168, v111] 25, oA (rList rStr) v168 ([([116, 97, 117] : Str)] ++ x161), oA (rList Rimpl_Edge) v111 x109.1, oA (rList (rInt .i64)) v99 x97.1, oA (rList rStr) v38 xs77] w178 := H.front 4 rfl
         have H : Heap w0 [bA b31 [(.int .i64 (0 : Int)), (.int .i64 (0 : Int)), (.slice none 0 0), (.slice none 0 0)] 25, bA b171 [(.int .i64 x174), (.int .i64 x176), v168, v111] 25, oA (rList rStr) v168 ([([116, 97, 117] : Str)] ++ x161), oA (rList Rimpl_Edge) v111 x109.1] w178 := H.sel [0, 1, 2, 3] (by decide)
         exact ⟨x174, x176, ([([116, 97, 117] : Str)] ++ x161), x109.1, b171, v168, S.sub ⟨rfl, rfl, rfl, trivial⟩, H, hm⟩
       ·skip
        refine lq v38 S (q_move rfl) fun a S => ?_
        have hlt := lt_of_idx (idx_some e158).2
        refine lq (ePtr v38 ((1 : Int).toNat * 1)) S (q_indexAddr rfl (H.isSl 3 rfl) rfl (idx_some e158).1 hlt Tryz.underlying22 Tryz.sizeOf9) fun a S => ?_
        refine lq (sv x157) S (q_load1 rfl Tryz.isAgg9 (fun w1 hC => ((hC.rdAt 1 rfl).elemAt (j := 0) (idx_some e158).2 (by intro B w cs h; obtain rfl := h; rfl)))) fun a S => ?_
        refine lx_call (xs := [.tmp 65]) S trivial (by decide) rfl rfl Tryz.call12 ((impl_SplitWords_ok  e162).mono ?_)
        rintro e w159 ⟨v163, rfl, Hc160⟩
        have he165 := Hc160.ext
        have H := H.call1 Hc160
        refine ⟨_, rfl, H.sel [2, 4] (by decide), fun a S => ?_⟩
        refine lx_nil ?_
        refine ⟨⟨[_, _, _, _, _, _, _, _, _, _, _, _], (fun i => [0, 1, 2, 11].contains i), rfl, rfl, ?_⟩, ⟨[_, _, _, _, _, _, _, _, _, _, _, _], (fun i => [0, 2, 1, 11].contains i), rfl, rfl, ?_⟩, ⟨[_, _, _, _, _, _, _, _, _, _, _, _], (fun i => [1, 2, 0, 11].contains i), rfl, rfl, ?_⟩, trivial⟩
        ·skip
         refine lx_buildSlice (r := rStr) (xs := [([116, 97, 117] : Str)]) (ps := [(0, [(sv ([116, 97, 117] : Str))])]) (cs := [(sv ([116, 97, 117] : Str))]) (parts := [(0, .const (sv [116, 97, 117]))]) S trivial (by decide) rfl (H.put0 (A := eA) rfl) rfl Tryz.underlying22 Tryz.sizeOf9 Tryz.zeroValue9 (by decide) ⟨rfl, rfl, Nat.le_of_ble_eq_true rfl, trivial⟩ (by intro zs hz; exact fill_dense hz ⟨rfl, trivial⟩ rfl rfl) rfl (by decide) (fun w F hA => by cases (show F = [] from hA); exact ⟨_, _, [(sv ([116, 97, 117] : Str))], _, rfl, rfl, ⟨rfl, rfl⟩, ⟨rfl, rfl⟩⟩) (fun v154 w155 H => ⟨H.sel [3, 5] (by decide), fun a S => ?_⟩)
         obtain ⟨hle, hap⟩ := app_some e167
         replace hap := hap.symm
         subst hap
         refine lx_appendOwn (r := rStr) S trivial (by decide) rfl H rfl rfl Tryz.underlying22 Tryz.ti9 rfl rfl rfl (Nat.le_of_ble_eq_true rfl) (by decide) hle (fun v168 w169 H => ⟨H.sel [2, 4] (by decide), fun a S => ?_⟩)
         refine lx_alloc S trivial (by decide) rfl H Tryz.zeroValue25 rfl (fun b171 w172 H => ⟨H.sel [3, 5] (by decide), fun a S => ?_⟩)
         refine lq v99 S (q_move rfl) fun a S => ?_
         have hlt := lt_of_idx (idx_some e175).2
         refine lq (ePtr v99 ((0 : Int).toNat * 1)) S (q_indexAddr rfl (H.isSl 3 rfl) rfl (idx_some e175).1 hlt Tryz.underlying32 Tryz.sizeOf2) fun a S => ?_
         refine lq (.int .i64 x174) S (q_load1 rfl Tryz.isAgg2 (fun w1 hC => ((hC.rdAt 0 rfl).elemAt (j := 0) (idx_some e175).2 (by intro B w cs h; obtain rfl := h; rfl)))) fun a S => ?_
         refine lq v99 S (q_move rfl) fun a S => ?_
         have hlt := lt_of_idx (idx_some e177).2
         refine lq (ePtr v99 ((1 : Int).toNat * 1)) S (q_indexAddr rfl (H.isSl 3 rfl) rfl (idx_some e177).1 hlt Tryz.underlying32 Tryz.sizeOf2) fun a S => ?_
         refine lq (.int .i64 x176) S (q_load1 rfl Tryz.isAgg2 (fun w1 hC => ((hC.rdAt 0 rfl).elemAt (j := 0) (idx_some e177).2 (by intro B w cs h; obtain rfl := h; rfl)))) fun a S => ?_
         refine lq v111 S (q_move rfl) fun a S => ?_
         refine lq (.agg #[(.int .i64 x174), (.int .i64 x176), v168, v111]) S (q_build (zs := [(.int .i64 (0 : Int)), (.int .i64 (0 : Int)), (.slice none 0 0), (.slice none 0 0)]) (szs := [1, 1, 1, 1]) (ps := [(0, [(.int .i64 x174)]), (1, [(.int .i64 x176)]), (2, [v168]), (3, [v111])]) (parts := [(0, .tmp 58), (1, .tmp 61), (2, .tmp 67), (3, .tmp 68)]) rfl Tryz.underlying25 Tryz.zeroValue25 (fun w => by simp [Tryz.sizeOf2, Tryz.sizeOf22, Tryz.sizeOf23]) ⟨rfl, rfl, Nat.le_of_ble_eq_true rfl, ⟨rfl, rfl, Nat.le_of_ble_eq_true rfl, ⟨rfl, (cells_sl (H.isSl 1 rfl)), Nat.le_of_ble_eq_true rfl, ⟨rfl, (cells_sl (H.isSl 2 rfl)), Nat.le_of_ble_eq_true rfl, trivial⟩⟩⟩⟩ rfl) fun a S => ?_
         refine lx_storeBox (o := 0) (i := 0) (us := [(.int .i64 x174), (.int .i64 x176), v168, v111]) (cs' := [(.int .i64 x174), (.int .i64 x176), v168, v111]) S trivial rfl H rfl rfl rfl rfl Tryz.sizeOf25 (Nat.le_of_ble_eq_true rfl) (List.forall_mem_cons.2 ⟨rfl, (List.forall_mem_cons.2 ⟨rfl, (List.forall_mem_cons.2 ⟨one_sl (H.isSl 1 rfl), (List.forall_mem_cons.2 ⟨one_sl (H.isSl 2 rfl), (List.forall_mem_nil _)⟩)⟩)⟩)⟩) rfl (fun w178 H => ⟨H.sel [3, 5] (by decide), fun a S => ?_⟩)
         change Heap w0 [bA b171 [(.int .i64 x174), (.int .i64 x176), v168, v111] 25, oA (rList rStr) v168 ([([116, 97, 117] : Str)] ++ x161), oA (rList Rimpl_Edge) v111 x109.1, oA (rList (rInt .i64)) v99 x97.1, bA b31 [(.int .i64 (0 : Int)), (.int .i64 (0 : Int)), (.slice none 0 0), (.slice none 0 0)] 25, oA (rList rStr) v38 xs77] w178 at H
         refine lx_nil ?_
         have H : Heap w0 [oA (rList Rimpl_Edge) v111 x109.1, bA b171 [(.int .i64 x174), (.int .i64 x176), v168, v111] 25, oA (rList rStr) v168 ([([116, 97, 117] : Str)] ++ x161), oA (rList (rInt .i64)) v99 x97.1, bA b31 [(.int .i64 (0 : Int)), (.int .i64 (0 : Int)), (.slice none 0 0), (.slice none 0 0)] 25, oA (rList rStr) v38 xs77] w178 := H.front 2 rfl
         have H : Heap w0 [oA (rList rStr) v168 ([([116, 97, 117] : Str)] ++ x161), oA (rList Rimpl_Edge) v111 x109.1, bA b171 [(.int .i64 x174), (.int .i64 x176), v168, v111] 25, oA (rList (rInt .i64)) v99 x97.1, bA b31 [(.int .i64 (0 : Int)), (.int .i64 (0 : Int)), (.slice none 0 0), (.slice none 0 0)] 25, oA (rList rStr) v38 xs77] w178 := H.front 2 rfl
         have H : Heap w0 [bA b171 [(.int .i64 x174), (.int .i64 x176), v168, v111] 25, oA (rList rStr) v168 ([([116, 97, 117] : Str)] ++ x161), oA (rList Rimpl_Edge) v111 x109.1, oA (rList (rInt .i64)) v99 x97.1, bA b31 [(.int .i64 (0 : Int)), (.int .i64 (0 : Int)), (.slice none 0 0), (.slice none 0 0)] 25, oA (rList rStr) v38 xs77] w178 := H.front 2 rfl
         have H : Heap w0 [bA b31 [(.int .i64 (0 : Int)), (.int .i64 (0 : Int)), (.slice none 0 0), (.slice none 0 0)] 25, bA b171 [(.int .i64 x174), (.int .i64 x176), v168, v111] 25, oA (rList rStr) v168 ([([116, 97, 117] : Str)] ++ x161), oA (rList Rimpl_Edge) v111 x109.1, oA (rList (rInt .i64)) v99 x97.1, oA (rList rStr) v38 xs77] w178 := H.front 4 rfl
         have H : Heap w0 [bA b31 [(.int .i64 (0 : Int)), (.int .i64 (0 : Int)), (.slice none 0 0), (.slice none 0 0)] 25, bA b171 [(.int .i64 x174), (.int .i64 x176), v168, v111] 25, oA (rList rStr) v168 ([([116, 97, 117] : Str)] ++ x161), oA (rList Rimpl_Edge) v111 x109.1] w178 := H.sel [0, 1, 2, 3] (by decide)
         exact ⟨x174, x176, ([([116, 97, 117] : Str)] ++ x161), x109.1, b171, v168, S.sub ⟨rfl, rfl, rfl, trivial⟩, H, hm⟩
        ·skip
         refine lx_buildSlice (r := rStr) (xs := [([116, 97, 117] : Str)]) (ps := [(0, [(sv ([116, 97, 117] : Str))])]) (cs := [(sv ([116, 97, 117] : Str))]) (parts := [(0, .const (sv [116, 97, 117]))]) S trivial (by decide) rfl (H.put0 (A := eA) rfl) rfl Tryz.underlying22 Tryz.sizeOf9 Tryz.zeroValue9 (by decide) ⟨rfl, rfl, Nat.le_of_ble_eq_true rfl, trivial⟩ (by intro zs hz; exact fill_dense hz ⟨rfl, trivial⟩ rfl rfl) rfl (by decide) (fun w F hA => by cases (show F = [] from hA); exact ⟨_, _, [(sv ([116, 97, 117] : Str))], _, rfl, rfl, ⟨rfl, rfl⟩, ⟨rfl, rfl⟩⟩) (fun v154 w155 H => ⟨H.sel [3, 5] (by decide), fun a S => ?_⟩)
         refine lx_alloc S trivial (by decide) rfl H Tryz.zeroValue25 rfl (fun b171 w172 H => ⟨H.sel [4, 6] (by decide), fun a S => ?_⟩)
         obtain ⟨hle, hap⟩ := app_some e167
         replace hap := hap.symm
         subst hap
         have H : Heap w0 [oA (rList rStr) v163 x161, bA b171 [(.int .i64 (0 : Int)), (.int .i64 (0 : Int)), (.slice none 0 0), (.slice none 0 0)] 25, oA (rList rStr) v154 [([116, 97, 117] : Str)], oA (rList Rimpl_Edge) v111 x109.1, oA (rList (rInt .i64)) v99 x97.1, bA b31 [(.int .i64 (0 : Int)), (.int .i64 (0 : Int)), (.slice none 0 0), (.slice none 0 0)] 25, oA (rList rStr) v38 xs77] w172 := H.front 2 rfl
         have H : Heap w0 [oA (rList rStr) v154 [([116, 97, 117] : Str)], oA (rList rStr) v163 x161, bA b171 [(.int .i64 (0 : Int)), (.int .i64 (0 : Int)), (.slice none 0 0), (.slice none 0 0)] 25, oA (rList Rimpl_Edge) v111 x109.1, oA (rList (rInt .i64)) v99 x97.1, bA b31 [(.int .i64 (0 : Int)), (.int .i64 (0 : Int)), (.slice none 0 0), (.slice none 0 0)] 25, oA (rList rStr) v38 xs77] w172 := H.front 2 rfl
         refine lx_appendOwn (r := rStr) S trivial (by decide) rfl H rfl rfl Tryz.underlying22 Tryz.ti9 rfl rfl rfl (Nat.le_of_ble_eq_true rfl) (by decide) hle (fun v168 w169 H => ⟨H.sel [3, 5] (by decide), fun a S => ?_⟩)
         refine lq v99 S (q_move rfl) fun a S => ?_
         have hlt := lt_of_idx (idx_some e175).2
         refine lq (ePtr v99 ((0 : Int).toNat * 1)) S (q_indexAddr rfl (H.isSl 3 rfl) rfl (idx_some e175).1 hlt Tryz.underlying32 Tryz.sizeOf2) fun a S => ?_
         refine lq (.int .i64 x174) S (q_load1 rfl Tryz.isAgg2 (fun w1 hC => ((hC.rdAt 0 rfl).elemAt (j := 0) (idx_some e175).2 (by intro B w cs h; obtain rfl := h; rfl)))) fun a S => ?_
         refine lq v99 S (q_move rfl) fun a S => ?_
         have hlt := lt_of_idx (idx_some e177).2
         refine lq (ePtr v99 ((1 : Int).toNat * 1)) S (q_indexAddr rfl (H.isSl 3 rfl) rfl (idx_some e177).1 hlt Tryz.underlying32 Tryz.sizeOf2) fun a S => ?_
         refine lq (.int .i64 x176) S (q_load1 rfl Tryz.isAgg2 (fun w1 hC => ((hC.rdAt 0 rfl).elemAt (j := 0) (idx_some e177).2 (by intro B w cs h; obtain rfl := h; rfl)))) fun a S => ?_
         refine lq v111 S (q_move rfl) fun a S => ?_
         refine lq (.agg #[(.int .i64 x174), (.int .i64 x176), v168, v111]) S (q_build (zs := [(.int .i64 (0 : Int)), (.int .i64 (0 : Int)), (.slice none 0 0), (.slice none 0 0)]) (szs := [1, 1, 1, 1]) (ps := [(0, [(.int .i64 x174)]), (1, [(.int .i64 x176)]), (2, [v168]), (3, [v111])]) (parts := [(0, .tmp 58), (1, .tmp 61), (2, .tmp 67), (3, .tmp 68)]) rfl Tryz.underlying25 Tryz.zeroValue25 (fun w => by simp [Tryz.sizeOf2, Tryz.sizeOf22, Tryz.sizeOf23]) ⟨rfl, rfl, Nat.le_of_ble_eq_true rfl, ⟨rfl, rfl, Nat.le_of_ble_eq_true rfl, ⟨rfl, (cells_sl (H.isSl 0 rfl)), Nat.le_of_ble_eq_true rfl, ⟨rfl, (cells_sl (H.isSl 2 rfl)), Nat.le_of_ble_eq_true rfl, trivial⟩⟩⟩⟩ rfl) fun a S => ?_
         refine lx_storeBox (o := 0) (i := 1) (us := [(.int .i64 x174), (.int .i64 x176), v168, v111]) (cs' := [(.int .i64 x174), (.int .i64 x176), v168, v111]) S trivial rfl H rfl rfl rfl rfl Tryz.sizeOf25 (Nat.le_of_ble_eq_true rfl) (List.forall_mem_cons.2 ⟨rfl, (List.forall_mem_cons.2 ⟨rfl, (List.forall_mem_cons.2 ⟨one_sl (H.isSl 0 rfl), (List.forall_mem_cons.2 ⟨one_sl (H.isSl 2 rfl), (List.forall_mem_nil _)⟩)⟩)⟩)⟩) rfl (fun w178 H => ⟨H.sel [3, 5] (by decide), fun a S => ?_⟩)
         change Heap w0 [oA (rList rStr) v168 ([([116, 97, 117] : Str)] ++ x161), bA b171 [(.int .i64 x174), (.int .i64 x176), v168, v111] 25, oA (rList Rimpl_Edge) v111 x109.1, oA (rList (rInt .i64)) v99 x97.1, bA b31 [(.int .i64 (0 : Int)), (.int .i64 (0 : Int)), (.slice none 0 0), (.slice none 0 0)] 25, oA (rList rStr) v38 xs77] w178 at H
         refine lx_nil ?_
         have H : Heap w0 [oA (rList Rimpl_Edge) v111 x109.1, oA (rList rStr) v168 ([([116, 97, 117] : Str)] ++ x161), bA b171 [(.int .i64 x174), (.int .i64 x176), v168, v111] 25, oA (rList (rInt .i64)) v99 x97.1, bA b31 [(.int .i64 (0 : Int)), (.int .i64 (0 : Int)), (.slice none 0 0), (.slice none 0 0)] 25, oA (rList rStr) v38 xs77] w178 := H.front 2 rfl
         have H : Heap w0 [oA (rList rStr) v168 ([([116, 97, 117] : Str)] ++ x161), oA (rList Rimpl_Edge) v111 x109.1, bA b171 [(.int .i64 x174), (.int .i64 x176), v168, v111] 25, oA (rList (rInt .i64)) v99 x97.1, bA b31 [(.int .i64 (0 : Int)), (.int .i64 (0 : Int)), (.slice none 0 0), (.slice none 0 0)] 25, oA (rList rStr) v38 xs77] w178 := H.front 1 rfl
         have H : Heap w0 [bA b171 [(.int .i64 x174), (.int .i64 x176), v168, v111] 25, oA (rList rStr) v168 ([([116, 97, 117] : Str)] ++ x161), oA (rList Rimpl_Edge) v111 x109.1, oA (rList (rInt .i64)) v99 x97.1, bA b31 [(.int .i64 (0 : Int)), (.int .i64 (0 : Int)), (.slice none 0 0), (.slice none 0 0)] 25, oA (rList rStr) v38 xs77] w178 := H.front 2 rfl
         have H : Heap w0 [bA b31 [(.int .i64 (0 : Int)), (.int .i64 (0 : Int)), (.slice none 0 0), (.slice none 0 0)] 25, bA b171 [(.int .i64 x174), (.int .i64 x176), v168, v111] 25, oA (rList rStr) v168 ([([116, 97, 117] : Str)] ++ x161), oA (rList Rimpl_Edge) v111 x109.1, oA (rList (rInt .i64)) v99 x97.1, oA (rList rStr) v38 xs77] w178 := H.front 4 rfl
         have H : Heap w0 [bA b31 [(.int .i64 (0 : Int)), (.int .i64 (0 : Int)), (.slice none 0 0), (.slice none 0 0)] 25, bA b171 [(.int .i64 x174), (.int .i64 x176), v168, v111] 25, oA (rList rStr) v168 ([([116, 97, 117] : Str)] ++ x161), oA (rList Rimpl_Edge) v111 x109.1] w178 := H.sel [0, 1, 2, 3] (by decide)
         exact ⟨x174, x176, ([([116, 97, 117] : Str)] ++ x161), x109.1, b171, v168, S.sub ⟨rfl, rfl, rfl, trivial⟩, H, hm⟩
        ·skip
         refine lx_alloc S trivial (by decide) rfl H Tryz.zeroValue25 rfl (fun b171 w172 H => ⟨H.sel [3, 5] (by decide), fun a S => ?_⟩)
         refine lx_buildSlice (r := rStr) (xs := [([116, 97, 117] : Str)]) (ps := [(0, [(sv ([116, 97, 117] : Str))])]) (cs := [(sv ([116, 97, 117] : Str))]) (parts := [(0, .const (sv [116, 97, 117]))]) S trivial (by decide) rfl (H.put0 (A := eA) rfl) rfl Tryz.underlying22 Tryz.sizeOf9 Tryz.zeroValue9 (by decide) ⟨rfl, rfl, Nat.le_of_ble_eq_true rfl, trivial⟩ (by intro zs hz; exact fill_dense hz ⟨rfl, trivial⟩ rfl rfl) rfl (by decide) (fun w F hA => by cases (show F = [] from hA); exact ⟨_, _, [(sv ([116, 97, 117] : Str))], _, rfl, rfl, ⟨rfl, rfl⟩, ⟨rfl, rfl⟩⟩) (fun v154 w155 H => ⟨H.sel [4, 6] (by decide), fun a S => ?_⟩)
         obtain ⟨hle, hap⟩ := app_some e167
         replace hap := hap.symm
         subst hap
         have H : Heap w0 [oA (rList rStr) v163 x161, oA (rList rStr) v154 [([116, 97, 117] : Str)], bA b171 [(.int .i64 (0 : Int)), (.int .i64 (0 : Int)), (.slice none 0 0), (.slice none 0 0)] 25, oA (rList Rimpl_Edge) v111 x109.1, oA (rList (rInt .i64)) v99 x97.1, bA b31 [(.int .i64 (0 : Int)), (.int .i64 (0 : Int)), (.slice none 0 0), (.slice none 0 0)] 25, oA (rList rStr) v38 xs77] w155 := H.front 2 rfl
         have H : Heap w0 [oA (rList rStr) v154 [([116, 97, 117] : Str)], oA (rList rStr) v163 x161, bA b171 [(.int .i64 (0 : Int)), (.int .i64 (0 : Int)), (.slice none 0 0), (.slice none 0 0)] 25, oA (rList Rimpl_Edge) v111 x109.1, oA (rList (rInt .i64)) v99 x97.1, bA b31 [(.int .i64 (0 : Int)), (.int .i64 (0 : Int)), (.slice none 0 0), (.slice none 0 0)] 25, oA (rList rStr) v38 xs77] w155 := H.front 1 rfl
         refine lx_appendOwn (r := rStr) S trivial (by decide) rfl H rfl rfl Tryz.underlying22 Tryz.ti9 rfl rfl rfl (Nat.le_of_ble_eq_true rfl) (by decide) hle (fun v168 w169 H => ⟨H.sel [3, 5] (by decide), fun a S => ?_⟩)
         refine lq v99 S (q_move rfl) fun a S => ?_
         have hlt := lt_of_idx (idx_some e175).2
         refine lq (ePtr v99 ((0 : Int).toNat * 1)) S (q_indexAddr rfl (H.isSl 3 rfl) rfl (idx_some e175).1 hlt Tryz.underlying32 Tryz.sizeOf2) fun a S => ?_
         refine lq (.int .i64 x174) S (q_load1 rfl Tryz.isAgg2 (fun w1 hC => ((hC.rdAt 0 rfl).elemAt (j := 0) (idx_some e175).2 (by intro B w cs h; obtain rfl := h; rfl)))) fun a S => ?_
         refine lq v99 S (q_move rfl) fun a S => ?_
         have hlt := lt_of_idx (idx_some e177).2
         refine lq (ePtr v99 ((1 : Int).toNat * 1)) S (q_indexAddr rfl (H.isSl 3 rfl) rfl (idx_some e177).1 hlt Tryz.underlying32 Tryz.sizeOf2) fun a S => ?_
         refine lq (.int .i64 x176) S (q_load1 rfl Tryz.isAgg2 (fun w1 hC => ((hC.rdAt 0 rfl).elemAt (j := 0) (idx_some e177).2 (by intro B w cs h; obtain rfl := h; rfl)))) fun a S => ?_
         refine lq v111 S (q_move rfl) fun a S => ?_
         refine lq (.agg #[(.int .i64 x174), (.int .i64 x176), v168, v111]) S (q_build (zs := [(.int .i64 (0 : Int)), (.int .i64 (0 : Int)), (.slice none 0 0), (.slice none 0 0)]) (szs := [1, 1, 1, 1]) (ps := [(0, [(.int .i64 x174)]), (1, [(.int .i64 x176)]), (2, [v168]), (3, [v111])]) (parts := [(0, .tmp 58), (1, .tmp 61), (2, .tmp 67), (3, .tmp 68)]) rfl Tryz.underlying25 Tryz.zeroValue25 (fun w => by simp [Tryz.sizeOf2, Tryz.sizeOf22, Tryz.sizeOf23]) ⟨rfl, rfl, Nat.le_of_ble_eq_true rfl, ⟨rfl, rfl, Nat.le_of_ble_eq_true rfl, ⟨rfl, (cells_sl (H.isSl 0 rfl)), Nat.le_of_ble_eq_true rfl, ⟨rfl, (cells_sl (H.isSl 2 rfl)), Nat.le_of_ble_eq_true rfl, trivial⟩⟩⟩⟩ rfl) fun a S => ?_
         refine lx_storeBox (o := 0) (i := 1) (us := [(.int .i64 x174), (.int .i64 x176), v168, v111]) (cs' := [(.int .i64 x174), (.int .i64 x176), v168, v111]) S trivial rfl H rfl rfl rfl rfl Tryz.sizeOf25 (Nat.le_of_ble_eq_true rfl) (List.forall_mem_cons.2 ⟨rfl, (List.forall_mem_cons.2 ⟨rfl, (List.forall_mem_cons.2 ⟨one_sl (H.isSl 0 rfl), (List.forall_mem_cons.2 ⟨one_sl (H.isSl 2 rfl), (List.forall_mem_nil _)⟩)⟩)⟩)⟩) rfl (fun w178 H => ⟨H.sel [3, 5] (by decide), fun a S => ?_⟩)
         change Heap w0 [oA (rList rStr) v168 ([([116, 97, 117] : Str)] ++ x161), bA b171 [(.int .i64 x174), (.int .i64 x176), v168, v111] 25, oA (rList Rimpl_Edge) v111 x109.1, oA (rList (rInt .i64)) v99 x97.1, bA b31 [(.int .i64 (0 : Int)), (.int .i64 (0 : Int)), (.slice none 0 0), (.slice none 0 0)] 25, oA (rList rStr) v38 xs77] w178 at H
         refine lx_nil ?_
         have H : Heap w0 [oA (rList Rimpl_Edge) v111 x109.1, oA (rList rStr) v168 ([([116, 97, 117] : Str)] ++ x161), bA b171 [(.int .i64 x174), (.int .i64 x176), v168, v111] 25, oA (rList (rInt .i64)) v99 x97.1, bA b31 [(.int .i64 (0 : Int)), (.int .i64 (0 : Int)), (.slice none 0 0), (.slice none 0 0)] 25, oA (rList rStr) v38 xs77] w178 := H.front 2 rfl
         have H : Heap w0 [oA (rList rStr) v168 ([([116, 97, 117] : Str)] ++ x161), oA (rList Rimpl_Edge) v111 x109.1, bA b171 [(.int .i64 x174), (.int .i64 x176), v168, v111] 25, oA (rList (rInt .i64)) v99 x97.1, bA b31 [(.int .i64 (0 : Int)), (.int .i64 (0 : Int)), (.slice none 0 0), (.slice none 0 0)] 25, oA (rList rStr) v38 xs77] w178 := H.front 1 rfl
         have H : Heap w0 [bA b171 [(.int .i64 x174), (.int .i64 x176), v168, v111] 25, oA (rList rStr) v168 ([([116, 97, 117] : Str)] ++ x161), oA (rList Rimpl_Edge) v111 x109.1, oA (rList (rInt .i64)) v99 x97.1, bA b31 [(.int .i64 (0 : Int)), (.int .i64 (0 : Int)), (.slice none 0 0), (.slice none 0 0)] 25, oA (rList rStr) v38 xs77] w178 := H.front 2 rfl
         have H : Heap w0 [bA b31 [(.int .i64 (0 : Int)), (.int .i64 (0 : Int)), (.slice none 0 0), (.slice none 0 0)] 25, bA b171 [(.int .i64 x174), (.int .i64 x176), v168, v111] 25, oA (rList rStr) v168 ([([116, 97, 117] : Str)] ++ x161), oA (rList Rimpl_Edge) v111 x109.1, oA (rList (rInt .i64)) v99 x97.1, oA (rList rStr) v38 xs77] w178 := H.front 4 rfl
         have H : Heap w0 [bA b31 [(.int .i64 (0 : Int)), (.int .i64 (0 : Int)), (.slice none 0 0), (.slice none 0 0)] 25, bA b171 [(.int .i64 x174), (.int .i64 x176), v168, v111] 25, oA (rList rStr) v168 ([([116, 97, 117] : Str)] ++ x161), oA (rList Rimpl_Edge) v111 x109.1] w178 := H.sel [0, 1, 2, 3] (by decide)
         exact ⟨x174, x176, ([([116, 97, 117] : Str)] ++ x161), x109.1, b171, v168, S.sub ⟨rfl, rfl, rfl, trivial⟩, H, hm⟩
       ·skip
        refine lx_alloc S trivial (by decide) rfl H Tryz.zeroValue25 rfl (fun b171 w172 H => ⟨H.sel [2, 4] (by decide), fun a S => ?_⟩)
        refine lx_buildSlice (r := rStr) (xs := [([116, 97, 117] : Str)]) (ps := [(0, [(sv ([116, 97, 117] : Str))])]) (cs := [(sv ([116, 97, 117] : Str))]) (parts := [(0, .const (sv [116, 97, 117]))]) S trivial (by decide) rfl (H.put0 (A := eA) rfl) rfl Tryz.underlying22 Tryz.sizeOf9 Tryz.zeroValue9 (by decide) ⟨rfl, rfl, Nat.le_of_ble_eq_true rfl, trivial⟩ (by intro zs hz; exact fill_dense hz ⟨rfl, trivial⟩ rfl rfl) rfl (by decide) (fun w F hA => by cases (show F = [] from hA); exact ⟨_, _, [(sv ([116, 97, 117] : Str))], _, rfl, rfl, ⟨rfl, rfl⟩, ⟨rfl, rfl⟩⟩) (fun v154 w155 H => ⟨H.sel [3, 5] (by decide), fun a S => ?_⟩)
        refine lq v38 S (q_move rfl) fun a S => ?_
        have hlt := lt_of_idx (idx_some e158).2
        refine lq (ePtr v38 ((1 : Int).toNat * 1)) S (q_indexAddr rfl (H.isSl 5 rfl) rfl (idx_some e158).1 hlt Tryz.underlying22 Tryz.sizeOf9) fun a S => ?_
        refine lq (sv x157) S (q_load1 rfl Tryz.isAgg9 (fun w1 hC => ((hC.rdAt 1 rfl).elemAt (j := 0) (idx_some e158).2 (by intro B w cs h; obtain rfl := h; rfl)))) fun a S => ?_
        refine lx_call (xs := [.tmp 65]) S trivial (by decide) rfl rfl Tryz.call12 ((impl_SplitWords_ok  e162).mono ?_)
        rintro e w159 ⟨v163, rfl, Hc160⟩
        have he165 := Hc160.ext
        have H := H.call1 Hc160
        refine ⟨_, rfl, H.sel [4, 6] (by decide), fun a S => ?_⟩
        refine lx_nil ?_
        refine ⟨⟨[_, _, _, _, _, _, _, _, _, _], (fun i => [0, 9].contains i), rfl, rfl, ?_⟩, trivial⟩
        ·skip
         obtain ⟨hle, hap⟩ := app_some e167
         replace hap := hap.symm
         subst hap
         have H : Heap w0 [oA (rList rStr) v163 x161, oA (rList rStr) v154 [([116, 97, 117] : Str)], bA b171 [(.int .i64 (0 : Int)), (.int .i64 (0 : Int)), (.slice none 0 0), (.slice none 0 0)] 25, oA (rList Rimpl_Edge) v111 x109.1, oA (rList (rInt .i64)) v99 x97.1, bA b31 [(.int .i64 (0 : Int)), (.int .i64 (0 : Int)), (.slice none 0 0), (.slice none 0 0)] 25, oA (rList rStr) v38 xs77] w159 := H.front 0 rfl
         have H : Heap w0 [oA (rList rStr) v154 [([116, 97, 117] : Str)], oA (rList rStr) v163 x161, bA b171 [(.int .i64 (0 : Int)), (.int .i64 (0 : Int)), (.slice none 0 0), (.slice none 0 0)] 25, oA (rList Rimpl_Edge) v111 x109.1, oA (rList (rInt .i64)) v99 x97.1, bA b31 [(.int .i64 (0 : Int)), (.int .i64 (0 : Int)), (.slice none 0 0), (.slice none 0 0)] 25, oA (rList rStr) v38 xs77] w159 := H.front 1 rfl
         refine lx_appendOwn (r := rStr) S trivial (by decide) rfl H rfl rfl Tryz.underlying22 Tryz.ti9 rfl rfl rfl (Nat.le_of_ble_eq_true rfl) (by decide) hle (fun v168 w169 H => ⟨H.sel [3, 5] (by decide), fun a S => ?_⟩)
         refine lq v99 S (q_move rfl) fun a S => ?_
         have hlt := lt_of_idx (idx_some e175).2
         refine lq (ePtr v99 ((0 : Int).toNat * 1)) S (q_indexAddr rfl (H.isSl 3 rfl) rfl (idx_some e175).1 hlt Tryz.underlying32 Tryz.sizeOf2) fun a S => ?_
         refine lq (.int .i64 x174) S (q_load1 rfl Tryz.isAgg2 (fun w1 hC => ((hC.rdAt 0 rfl).elemAt (j := 0) (idx_some e175).2 (by intro B w cs h; obtain rfl := h; rfl)))) fun a S => ?_
         refine lq v99 S (q_move rfl) fun a S => ?_
         have hlt := lt_of_idx (idx_some e177).2
         refine lq (ePtr v99 ((1 : Int).toNat * 1)) S (q_indexAddr rfl (H.isSl 3 rfl) rfl (idx_some e177).1 hlt Tryz.underlying32 Tryz.sizeOf2) fun a S => ?_
         refine lq (.int .i64 x176) S (q_load1 rfl Tryz.isAgg2 (fun w1 hC => ((hC.rdAt 0 rfl).elemAt (j := 0) (idx_some e177).2 (by intro B w cs h; obtain rfl := h; rfl)))) fun a S => ?_
         refine lq v111 S (q_move rfl) fun a S => ?_
         refine lq (.agg #[(.int .i64 x174), (.int .i64 x176), v168, v111]) S (q_build (zs := [(.int .i64 (0 : Int)), (.int .i64 (0 : Int)), (.slice none 0 0), (.slice none 0 0)]) (szs := [1, 1, 1, 1]) (ps := [(0, [(.int .i64 x174)]), (1, [(.int .i64 x176)]), (2, [v168]), (3, [v111])]) (parts := [(0, .tmp 58), (1, .tmp 61), (2, .tmp 67), (3, .tmp 68)]) rfl Tryz.underlying25 Tryz.zeroValue25 (fun w => by simp [Tryz.sizeOf2, Tryz.sizeOf22, Tryz.sizeOf23]) ⟨rfl, rfl, Nat.le_of_ble_eq_true rfl, ⟨rfl, rfl, Nat.le_of_ble_eq_true rfl, ⟨rfl, (cells_sl (H.isSl 0 rfl)), Nat.le_of_ble_eq_true rfl, ⟨rfl, (cells_sl (H.isSl 2 rfl)), Nat.le_of_ble_eq_true rfl, trivial⟩⟩⟩⟩ rfl) fun a S => ?_
         refine lx_storeBox (o := 0) (i := 1) (us := [(.int .i64 x174), (.int .i64 x176), v168, v111]) (cs' := [(.int .i64 x174), (.int .i64 x176), v168, v111]) S trivial rfl H rfl rfl rfl rfl Tryz.sizeOf25 (Nat.le_of_ble_eq_true rfl) (List.forall_mem_cons.2 ⟨rfl, (List.forall_mem_cons.2 ⟨rfl, (List.forall_mem_cons.2 ⟨one_sl (H.isSl 0 rfl), (List.forall_mem_cons.2 ⟨one_sl (H.isSl 2 rfl), (List.forall_mem_nil _)⟩)⟩)⟩)⟩) rfl (fun w178 H => ⟨H.sel [3, 5] (by decide), fun a S => ?_⟩)
         change Heap w0 [oA (rList rStr) v168 ([([116, 97, 117] : Str)] ++ x161), bA b171 [(.int .i64 x174), (.int .i64 x176), v168, v111] 25, oA (rList Rimpl_Edge) v111 x109.1, oA (rList (rInt .i64)) v99 x97.1, bA b31 [(.int .i64 (0 : Int)), (.int .i64 (0 : Int)), (.slice none 0 0), (.slice none 0 0)] 25, oA (rList rStr) v38 xs77] w178 at H
         refine lx_nil ?_
         have H : Heap w0 [oA (rList Rimpl_Edge) v111 x109.1, oA (rList rStr) v168 ([([116, 97, 117] : Str)] ++ x161), bA b171 [(.int .i64 x174), (.int .i64 x176), v168, v111] 25, oA (rList (rInt .i64)) v99 x97.1, bA b31 [(.int .i64 (0 : Int)), (.int .i64 (0 : Int)), (.slice none 0 0), (.slice none 0 0)] 25, oA (rList rStr) v38 xs77] w178 := H.front 2 rfl
         have H : Heap w0 [oA (rList rStr) v168 ([([116, 97, 117] : Str)] ++ x161), oA (rList Rimpl_Edge) v111 x109.1, bA b171 [(.int .i64 x174), (.int .i64 x176), v168, v111] 25, oA (rList (rInt .i64)) v99 x97.1, bA b31 [(.int .i64 (0 : Int)), (.int .i64 (0 : Int)), (.slice none 0 0), (.slice none 0 0)] 25, oA (rList rStr) v38 xs77] w178 := H.front 1 rfl
         have H : Heap w0 [bA b171 [(.int .i64 x174), (.int .i64 x176), v168, v111] 25, oA (rList rStr) v168 ([([116, 97, 117] : Str)] ++ x161), oA (rList Rimpl_Edge) v111 x109.1, oA (rList (rInt .i64)) v99 x97.1, bA b31 [(.int .i64 (0 : Int)), (.int .i64 (0 : Int)), (.slice none 0 0), (.slice none 0 0)] 25, oA (rList rStr) v38 xs77] w178 := H.front 2 rfl
         have H : Heap w0 [bA b31 [(.int .i64 (0 : Int)), (.int .i64 (0 : Int)), (.slice none 0 0), (.slice none 0 0)] 25, bA b171 [(.int .i64 x174), (.int .i64 x176), v168, v111] 25, oA (rList rStr) v168 ([([116, 97, 117] : Str)] ++ x161), oA (rList Rimpl_Edge) v111 x109.1, oA (rList (rInt .i64)) v99 x97.1, oA (rList rStr) v38 xs77] w178 := H.front 4 rfl
         have H : Heap w0 [bA b31 [(.int .i64 (0 : Int)), (.int .i64 (0 : Int)), (.slice none 0 0), (.slice none 0 0)] 25, bA b171 [(.int .i64 x174), (.int .i64 x176), v168, v111] 25, oA (rList rStr) v168 ([([116, 97, 117] : Str)] ++ x161), oA (rList Rimpl_Edge) v111 x109.1] w178 := H.sel [0, 1, 2, 3] (by decide)
         exact ⟨x174, x176, ([([116, 97, 117] : Str)] ++ x161), x109.1, b171, v168, S.sub ⟨rfl, rfl, rfl, trivial⟩, H, hm⟩
       ·skip
        refine lx_alloc S trivial (by decide) rfl H Tryz.zeroValue25 rfl (fun b171 w172 H => ⟨H.sel [2, 4] (by decide), fun a S => ?_⟩)
        refine lq v38 S (q_move rfl) fun a S => ?_
        have hlt := lt_of_idx (idx_some e158).2
        refine lq (ePtr v38 ((1 : Int).toNat * 1)) S (q_indexAddr rfl (H.isSl 4 rfl) rfl (idx_some e158).1 hlt Tryz.underlying22 Tryz.sizeOf9) fun a S => ?_
        refine lq (sv x157) S (q_load1 rfl Tryz.isAgg9 (fun w1 hC => ((hC.rdAt 1 rfl).elemAt (j := 0) (idx_some e158).2 (by intro B w cs h; obtain rfl := h; rfl)))) fun a S => ?_
        refine lx_call (xs := [.tmp 65]) S trivial (by decide) rfl rfl Tryz.call12 ((impl_SplitWords_ok  e162).mono ?_)
        rintro e w159 ⟨v163, rfl, Hc160⟩
        have he165 := Hc160.ext
        have H := H.call1 Hc160
        refine ⟨_, rfl, H.sel [3, 5] (by decide), fun a S => ?_⟩
        refine lx_nil ?_
        refine ⟨⟨[_, _, _, _, _, _, _, _, _, _, _], (fun i => [0, 1, 10].contains i), rfl, rfl, ?_⟩, trivial⟩
        ·skip
         refine lx_buildSlice (r := rStr) (xs := [([116, 97, 117] : Str)]) (ps := [(0, [(sv ([116, 97, 117] : Str))])]) (cs := [(sv ([116, 97, 117] : Str))]) (parts := [(0, .const (sv [116, 97, 117]))]) S trivial (by decide) rfl (H.put0 (A := eA) rfl) rfl Tryz.underlying22 Tryz.sizeOf9 Tryz.zeroValue9 (by decide) ⟨rfl, rfl, Nat.le_of_ble_eq_true rfl, trivial⟩ (by intro zs hz; exact fill_dense hz ⟨rfl, trivial⟩ rfl rfl) rfl (by decide) (fun w F hA => by cases (show F = [] from hA); exact ⟨_, _, [(sv ([116, 97, 117] : Str))], _, rfl, rfl, ⟨rfl, rfl⟩, ⟨rfl, rfl⟩⟩) (fun v154 w155 H => ⟨H.sel [4, 6] (by decide), fun a S => ?_⟩)
         obtain ⟨hle, hap⟩ := app_some e167
         replace hap := hap.symm
         subst hap
         refine lx_appendOwn (r := rStr) S trivial (by decide) rfl H rfl rfl Tryz.underlying22 Tryz.ti9 rfl rfl rfl (Nat.le_of_ble_eq_true rfl) (by decide) hle (fun v168 w169 H => ⟨H.sel [3, 5] (by decide), fun a S => ?_⟩)
         refine lq v99 S (q_move rfl) fun a S => ?_
         have hlt := lt_of_idx (idx_some e175).2
         refine lq (ePtr v99 ((0 : Int).toNat * 1)) S (q_indexAddr rfl (H.isSl 3 rfl) rfl (idx_some e175).1 hlt Tryz.underlying32 Tryz.sizeOf2) fun a S => ?_
         refine lq (.int .i64 x174) S (q_load1 rfl Tryz.isAgg2 (fun w1 hC => ((hC.rdAt 0 rfl).elemAt (j := 0) (idx_some e175).2 (by intro B w cs h; obtain rfl := h; rfl)))) fun a S => ?_
         refine lq v99 S (q_move rfl) fun a S => ?_
         have hlt := lt_of_idx (idx_some e177).2
         refine lq (ePtr v99 ((1 : Int).toNat * 1)) S (q_indexAddr rfl (H.isSl 3 rfl) rfl (idx_some e177).1 hlt Tryz.underlying32 Tryz.sizeOf2) fun a S => ?_
         refine lq (.int .i64 x176) S (q_load1 rfl Tryz.isAgg2 (fun w1 hC => ((hC.rdAt 0 rfl).elemAt (j := 0) (idx_some e177).2 (by intro B w cs h; obtain rfl := h; rfl)))) fun a S => ?_
         refine lq v111 S (q_move rfl) fun a S => ?_
         refine lq (.agg #[(.int .i64 x174), (.int .i64 x176), v168, v111]) S (q_build (zs := [(.int .i64 (0 : Int)), (.int .i64 (0 : Int)), (.slice none 0 0), (.slice none 0 0)]) (szs := [1, 1, 1, 1]) (ps := [(0, [(.int .i64 x174)]), (1, [(.int .i64 x176)]), (2, [v168]), (3, [v111])]) (parts := [(0, .tmp 58), (1, .tmp 61), (2, .tmp 67), (3, .tmp 68)]) rfl Tryz.underlying25 Tryz.zeroValue25 (fun w => by simp [Tryz.sizeOf2, Tryz.sizeOf22, Tryz.sizeOf23]) ⟨rfl, rfl, Nat.le_of_ble_eq_true rfl, ⟨rfl, rfl, Nat.le_of_ble_eq_true rfl, ⟨rfl, (cells_sl (H.isSl 0 rfl)), Nat.le_of_ble_eq_true rfl, ⟨rfl, (cells_sl (H.isSl 2 rfl)), Nat.le_of_ble_eq_true rfl, trivial⟩⟩⟩⟩ rfl) fun a S => ?_
         refine lx_storeBox (o := 0) (i := 1) (us := [(.int .i64 x174), (.int .i64 x176), v168, v111]) (cs' := [(.int .i64 x174), (.int .i64 x176), v168, v111]) S trivial rfl H rfl rfl rfl rfl Tryz.sizeOf25 (Nat.le_of_ble_eq_true rfl) (List.forall_mem_cons.2 ⟨rfl, (List.forall_mem_cons.2 ⟨rfl, (List.forall_mem_cons.2 ⟨one_sl (H.isSl 0 rfl), (List.forall_mem_cons.2 ⟨one_sl (H.isSl 2 rfl), (List.forall_mem_nil _)⟩)⟩)⟩)⟩) rfl (fun w178 H => ⟨H.sel [3, 5] (by decide), fun a S => ?_⟩)
         change Heap w0 [oA (rList rStr) v168 ([([116, 97, 117] : Str)] ++ x161), bA b171 [(.int .i64 x174), (.int .i64 x176), v168, v111] 25, oA (rList Rimpl_Edge) v111 x109.1, oA (rList (rInt .i64)) v99 x97.1, bA b31 [(.int .i64 (0 : Int)), (.int .i64 (0 : Int)), (.slice none 0 0), (.slice none 0 0)] 25, oA (rList rStr) v38 xs77] w178 at H
         refine lx_nil ?_
         have H : Heap w0 [oA (rList Rimpl_Edge) v111 x109.1, oA (rList rStr) v168 ([([116, 97, 117] : Str)] ++ x161), bA b171 [(.int .i64 x174), (.int .i64 x176), v168, v111] 25, oA (rList (rInt .i64)) v99 x97.1, bA b31 [(.int .i64 (0 : Int)), (.int .i64 (0 : Int)), (.slice none 0 0), (.slice none 0 0)] 25, oA (rList rStr) v38 xs77] w178 := H.front 2 rfl
         have H : Heap w0 [oA (rList rStr) v168 ([([116, 97, 117] : Str)] ++ x161), oA (rList Rimpl_Edge) v111 x109.1, bA b171 [(.int .i64 x174), (.int .i64 x176), v168, v111] 25, oA (rList (rInt .i64)) v99 x97.1, bA b31 [(.int .i64 (0 : Int)), (.int .i64 (0 : Int)), (.slice none 0 0), (.slice none 0 0)] 25, oA (rList rStr) v38 xs77] w178 := H.front 1 rfl
         have H : Heap w0 [bA b171 [(.int .i64 x174), (.int .i64 x176), v168, v111] 25, oA (rList rStr) v168 ([([116, 97, 117] : Str)] ++ x161), oA (rList Rimpl_Edge) v111 x109.1, oA (rList (rInt .i64)) v99 x97.1, bA b31 [(.int .i64 (0 : Int)), (.int .i64 (0 : Int)), (.slice none 0 0), (.slice none 0 0)] 25, oA (rList rStr) v38 xs77] w178 := H.front 2 rfl
         have H : Heap w0 [bA b31 [(.int .i64 (0 : Int)), (.int .i64 (0 : Int)), (.slice none 0 0), (.slice none 0 0)] 25, bA b171 [(.int .i64 x174), (.int .i64 x176), v168, v111] 25, oA (rList rStr) v168 ([([116, 97, 117] : Str)] ++ x161), oA (rList Rimpl_Edge) v111 x109.1, oA (rList (rInt .i64)) v99 x97.1, oA (rList rStr) v38 xs77] w178 := H.front 4 rfl
         have H : Heap w0 [bA b31 [(.int .i64 (0 : Int)), (.int .i64 (0 : Int)), (.slice none 0 0), (.slice none 0 0)] 25, bA b171 [(.int .i64 x174), (.int .i64 x176), v168, v111] 25, oA (rList rStr) v168 ([([116, 97, 117] : Str)] ++ x161), oA (rList Rimpl_Edge) v111 x109.1] w178 := H.sel [0, 1, 2, 3] (by decide)
         exact ⟨x174, x176, ([([116, 97, 117] : Str)] ++ x161), x109.1, b171, v168, S.sub ⟨rfl, rfl, rfl, trivial⟩, H, hm⟩
  ·skip
   have H : Heap w0 [bA b31 [(.int .i64 (0 : Int)), (.int .i64 (0 : Int)), (.slice none 0 0), (.slice none 0 0)] 25, oA (rList rStr) v38 x36] w34 := H.front 1 rfl
   refine loop_ghost (fun n a w => ∃ (xs60 : List Str) (x61 : Int), Slots a 81 [(0, (sv a0)), (2, (bp b31)), (4, v38), (5, (.int .i64 x61))] ∧ Heap w0 [bA b31 [(.int .i64 (0 : Int)), (.int .i64 (0 : Int)), (.slice none 0 0), (.slice none 0 0)] 25, oA (rList rStr) v38 xs60] w ∧ iter f80 n (xs60, x61) = some res78) _ ⟨x36, (1 : Int), S.sub ⟨rfl, rfl, rfl, rfl, trivial⟩, H, hit79⟩ ?_
   rintro n a w ⟨xs60, x61, S, H, hit79⟩
   obtain ⟨m16179, o16180, rfl, hm, hc16181⟩ := iter_step hit79
   rw [hf81] at hm
   refine wp_seq (wp_seq (region_plain ?_))
   refine lq (.int .i64 x61) S (q_move rfl) fun a S => ?_
   refine lq (.bool (decide (x61 < (3 : Int)))) S (q_lss rfl rfl) fun a S => ?_
   refine lx_nil (thenN ?_)
   refine cond_b S rfl (fun hc16182 => ?_) (fun hc16182 => ?_)
   ·have hm := ite_t hc16182 hm
    refine wp_skip (thenN ?_)
    obtain ⟨K16184, hK16185, hm⟩ := join_elim hm
    refine seq_cut (fun a w => ∃ (xs16183 : List Str), Slots a 81 [(0, (sv a0)), (2, (bp b31)), (4, v38), (5, (.int .i64 x61))] ∧ Heap w0 [bA b31 [(.int .i64 (0 : Int)), (.int .i64 (0 : Int)), (.slice none 0 0), (.slice none 0 0)] 25, oA (rList rStr) v38 xs16183] w ∧ K16184 xs16183 = some o16180) ?_ ?_
    ·rintro a w ⟨xs16183, S, H, hm⟩
     subst hK16185
     refine region_plain ?_
     refine lq (.int .i64 x61) S (q_move rfl) fun a S => ?_
     refine lq (.int .i64 (W (x61 + (1 : Int)))) S (q_add rfl rfl) fun a S => ?_
     refine lq (.int .i64 (W (x61 + (1 : Int)))) S (q_assign rfl) fun a S => ?_
     refine lx_nil ?_
     exact ⟨m16179, Nat.lt_succ_self _, xs16183, (W (x61 + (1 : Int))), S.sub ⟨rfl, rfl, rfl, rfl, trivial⟩, H, it_cont hm hc16181⟩
    ·skip
     refine wp_block ?_
     refine wp_seq (region_plain ?_)
     refine lq v38 S (q_move rfl) fun a S => ?_
     refine lq (.int .i64 x61) S (q_move rfl) fun a S => ?_
     obtain ⟨x16186, e16187, hm⟩ := bind_some hm
     have hlt := lt_of_idx (idx_some e16187).2
     refine lq (ePtr v38 (x61.toNat * 1)) S (q_indexAddr rfl (H.isSl 1 rfl) rfl (idx_some e16187).1 hlt Tryz.underlying22 Tryz.sizeOf9) fun a S => ?_
     obtain ⟨c16188, h16189, hat16190⟩ := (H.rdAt 1 rfl).elem (idx_some e16187).2
     obtain rfl := h16189
     refine lx_e (sv x16186) S trivial (by decide) rfl trivial (q_load1 rfl Tryz.isAgg9 (by rintro _ rfl; exact (hat16190 0 _ rfl))) (fun a S => ?_)
     refine lq (.bool (x16186 == ([45] : Str))) S (q_seql rfl rfl) fun a S => ?_
     refine lx_nil (thenN ?_)
     refine cond_b S rfl (fun hc16191 => ?_) (fun hc16191 => ?_)
     ·have hm := ite_t hc16191 hm
      refine region_plain ?_
      refine lq v38 S (q_move rfl) fun a S => ?_
      refine lq (.int .i64 x61) S (q_move rfl) fun a S => ?_
      obtain ⟨x16192, e16193, hm⟩ := bind_some hm
      have hlt := lt_of_idx (idx_some e16193).2
      refine lq (ePtr v38 (x61.toNat * 1)) S (q_indexAddr rfl (H.isSl 1 rfl) rfl (idx_some e16193).1 hlt Tryz.underlying22 Tryz.sizeOf9) fun a S => ?_
      have H : Heap w0 [oA (rList rStr) v38 xs60, bA b31 [(.int .i64 (0 : Int)), (.int .i64 (0 : Int)), (.slice none 0 0), (.slice none 0 0)] 25] w := H.front 1 rfl
      refine lx_storeElem (r := rStr) (us := [(sv ([] : Str))]) (off := 0) (e' := ([] : Str)) S trivial rfl H.putE (ev_zero rfl) rfl (idx_some e16193).2 rfl Tryz.sizeOf9 (Nat.le_of_ble_eq_true rfl) (List.forall_mem_cons.2 ⟨rfl, (List.forall_mem_nil _)⟩) (Upd.full rfl (fun w G hG => by cases (show G = [] from hG); exact ⟨rfl, rfl⟩)) (fun w16194 H => ⟨trivial, fun a S => ?_⟩)
      refine lx_nil ?_
      refine inBlock_norm ?_
      have H : Heap w0 [bA b31 [(.int .i64 (0 : Int)), (.int .i64 (0 : Int)), (.slice none 0 0), (.slice none 0 0)] 25, oA (rList rStr) v38 (xs60.set x61.toNat ([] : Str))] w16194 := H.front 1 rfl
      exact ⟨(xs60.set x61.toNat ([] : Str)), S.sub ⟨rfl, rfl, rfl, rfl, trivial⟩, H, hm⟩
     ·have hm := ite_f hc16191 hm
      refine wp_skip ?_
      refine inBlock_norm ?_
      exact ⟨xs60, S.sub ⟨rfl, rfl, rfl, rfl, trivial⟩, H, hm⟩
   ·have hm := ite_f hc16182 hm
    refine wp_exit ?_
    refine then_exit ?_
    refine then_exit ?_
    refine inBlock_exit ?_
    obtain rfl := it_brk hm hc16181
    exact ⟨xs60, S.sub ⟨rfl, rfl, rfl, trivial⟩, H, rfl⟩

/-- laws.eqStringS -/
def laws_eqStringS_m (fuel : Nat) (a0 : (List Str)) (a1 : (List Str)) : Option (Bool) :=
  (if ((a0.length : Int) != (a1.length : Int)) = true then some (false) else (iter (fun (s : (Int)) => (match s with | (x47) => (if (decide (x47 < (a0.length : Int))) = true then (idx a0 x47).bind fun x74 => (idx a1 x47).bind fun x79 => (if (x74 != x79) = true then some (.inr (.inr false)) else some (.inl ((W (x47 + (1 : Int)))))) else some (.inr (.inl ()))) : Option (((Int)) ⊕ ((Unit) ⊕ (Bool))))) fuel ((0 : Int))).bind fun res63 => ctl (β := Unit) (ρ := Bool) (τ := Bool) res63 (fun _ => some (true)) (fun q => some (q)))
set_option maxRecDepth 20000 in
theorem laws_eqStringS_ok [dr : Dr] {w0 : World} {fuel : Nat} {p0 p1 : Value} {a0 : (List Str)} {a1 : (List Str)} {r : Bool} (h0 : Rd (rList rStr) w0 p0 a0) (h1 : Rd (rList rStr) w0 p1 a1) (hm : laws_eqStringS_m fuel a0 a1 = some r) :
  Calls Tryz.prog 16 #[p0, p1] w0 fun e w => e = .returned (.bool r) ∧ Heap w0 [] w := by
 unfold laws_eqStringS_m at hm
 have H := Heap.start w0
 refine enter (args := [p0, p1]) Tryz.func16 rfl 26 rfl (Nat.le_of_ble_eq_true rfl) (fun a S => ?_)
 refine wp_seq (region_plain ?_)
 refine lq (.bool false) S (q_assign rfl) fun a S => ?_
 refine lx_nil (thenN ?_)
 refine wp_seq (wp_seq (region_plain ?_))
 refine lq p0 S (q_move rfl) fun a S => ?_
 refine lq (.int .i64 (a0.length : Int)) S (q_lenSl rfl (h0).isSl rfl Tryz.underlying22) fun a S => ?_
 refine lq p1 S (q_move rfl) fun a S => ?_
 refine lq (.int .i64 (a1.length : Int)) S (q_lenSl rfl (h1).isSl rfl Tryz.underlying22) fun a S => ?_
 refine lq (.bool ((a0.length : Int) != (a1.length : Int))) S (q_neq rfl rfl) fun a S => ?_
 refine lx_nil (thenN ?_)
 refine cond_b S rfl (fun hc31 => ?_) (fun hc31 => ?_)
 ·have hm := ite_t hc31 hm
  refine wp_seq (region_plain ?_)
  refine lq (.bool false) S (q_assign rfl) fun a S => ?_
  refine lx_nil (thenN ?_)
  refine wp_ret (then_ret ?_)
  obtain rfl := Option.some.inj hm
  exact leave1 S rfl rfl ⟨rfl, H⟩
 ·have hm := ite_f hc31 hm
  refine wp_skip (thenN ?_)
  refine wp_seq (wp_seq (region_plain ?_))
  refine lq (.int .i64 (0 : Int)) S (q_assign rfl) fun a S => ?_
  refine lx_nil (thenN ?_)
  obtain ⟨res63, hit64, hk67⟩ := bind_some hm
  obtain ⟨f65, hf66, hit64⟩ := iter_name hit64
  refine block_loop (fun a w => Slots a 26 [] ∧ Heap w0 [] w ∧ res63 = .inl ()) ?_ ?_
  ·rintro a w ⟨S, H, rfl⟩
   have hm := ctl_inl hk67
   refine thenN ?_
   refine wp_seq (region_plain ?_)
   refine lq (.bool true) S (q_assign rfl) fun a S => ?_
   refine lx_nil (thenN ?_)
   refine wp_ret ?_
   obtain rfl := Option.some.inj hm
   exact leave1 S rfl rfl ⟨rfl, H⟩
  ·skip
   refine loop_ghost (fun n a w => ∃ (x47 : Int), Slots a 26 [(0, p0), (1, p1), (5, (.int .i64 x47))] ∧ Heap w0 [] w ∧ iter f65 n (x47) = some res63) _ ⟨(0 : Int), S.sub ⟨rfl, rfl, rfl, trivial⟩, H, hit64⟩ ?_
   rintro n a w ⟨x47, S, H, hit64⟩
   obtain ⟨m68, o69, rfl, hm, hc70⟩ := iter_step hit64
   rw [hf66] at hm
   refine wp_seq (wp_seq (region_plain ?_))
   refine lq (.int .i64 x47) S (q_move rfl) fun a S => ?_
   refine lq p0 S (q_move rfl) fun a S => ?_
   refine lq (.int .i64 (a0.length : Int)) S (q_lenSl rfl (h0).isSl rfl Tryz.underlying22) fun a S => ?_
   refine lq (.bool (decide (x47 < (a0.length : Int)))) S (q_lss rfl rfl) fun a S => ?_
   refine lx_nil (thenN ?_)
   refine cond_b S rfl (fun hc71 => ?_) (fun hc71 => ?_)
   ·have hm := ite_t hc71 hm
    refine wp_skip (thenN ?_)
    refine wp_seq ?_
    refine wp_block ?_
    refine wp_seq ?_
    refine region_drawG (fun w1 => Heap w0 [] w1) (fun i => [].contains i) mixed (by kernel_rfl) (fun w73 he72 => ?_)
    have H := H.later he72
    refine ⟨H.sel [] (by decide), ?_⟩
    refine lq p0 S (q_move rfl) fun a S => ?_
    refine lq (.int .i64 x47) S (q_move rfl) fun a S => ?_
    obtain ⟨x74, e75, hm⟩ := bind_some hm
    obtain ⟨c76, h77, hat78⟩ := (h0).elem (idx_some e75).2
    obtain rfl := h77
    have hlt := lt_of_idx (idx_some e75).2
    refine lq (ePtr p0 (x47.toNat * 1)) S (q_indexAddr rfl (h0).isSl rfl (idx_some e75).1 hlt Tryz.underlying22 Tryz.sizeOf9) fun a S => ?_
    refine lq (sv x74) S (q_load1 rfl Tryz.isAgg9 (fun w1 hC => ((hat78 0 _ rfl).ext hC.ext))) fun a S => ?_
    refine lq p1 S (q_move rfl) fun a S => ?_
    refine lq (.int .i64 x47) S (q_move rfl) fun a S => ?_
    obtain ⟨x79, e80, hm⟩ := bind_some hm
    obtain ⟨c81, h82, hat83⟩ := (h1).elem (idx_some e80).2
    obtain rfl := h82
    have hlt := lt_of_idx (idx_some e80).2
    refine lq (ePtr p1 (x47.toNat * 1)) S (q_indexAddr rfl (h1).isSl rfl (idx_some e80).1 hlt Tryz.underlying22 Tryz.sizeOf9) fun a S => ?_
    refine lq (sv x79) S (q_load1 rfl Tryz.isAgg9 (fun w1 hC => ((hat83 0 _ rfl).ext hC.ext))) fun a S => ?_
    refine lq (.bool (x74 != x79)) S (q_sneq rfl rfl) fun a S => ?_
    refine lx_nil (thenN ?_)
    refine cond_b S rfl (fun hc84 => ?_) (fun hc84 => ?_)
    ·have hm := ite_t hc84 hm
     refine wp_seq (region_plain ?_)
     refine lq (.bool false) S (q_assign rfl) fun a S => ?_
     refine lx_nil (thenN ?_)
     refine wp_ret (inBlock_ret ?_)
     refine then_ret ?_
     refine then_ret ?_
     refine inBlock_ret ?_
     refine then_ret ?_
     refine then_ret ?_
     obtain rfl := it_brk hm hc70
     have hm := ctl_inr hk67
     obtain rfl := Option.some.inj hm
     exact leave1 S rfl rfl ⟨rfl, H⟩
    ·have hm := ite_f hc84 hm
     refine wp_skip ?_
     refine inBlock_norm ?_
     refine thenN ?_
     refine region_plain ?_
     refine lq (.int .i64 x47) S (q_move rfl) fun a S => ?_
     refine lq (.int .i64 (W (x47 + (1 : Int)))) S (q_add rfl rfl) fun a S => ?_
     refine lq (.int .i64 (W (x47 + (1 : Int)))) S (q_assign rfl) fun a S => ?_
     refine lx_nil ?_
     exact ⟨m68, Nat.lt_succ_self _, (W (x47 + (1 : Int))), S.sub ⟨rfl, rfl, rfl, trivial⟩, H, it_cont hm hc70⟩
   ·have hm := ite_f hc71 hm
    refine wp_exit ?_
    refine then_exit ?_
    refine then_exit ?_
    refine inBlock_exit ?_
    obtain rfl := it_brk hm hc70
    exact ⟨S.sub trivial, H, rfl⟩

/-- laws.eqEdge -/
def laws_eqEdge_m (_ : Nat) (a0 : Timpl_Edge) (a1 : Timpl_Edge) : Option (Bool) :=
  (if (a0.1 != a1.1) = true then some (false) else (if (a0.2.1 != a1.2.1) = true then some (false) else (if (a0.2.2 != a1.2.2) = true then some (false) else some (true))))
set_option maxRecDepth 20000 in
theorem laws_eqEdge_ok [dr : Dr] {w0 : World} {fuel : Nat} {p0 p1 : Value} {a0 : Timpl_Edge} {a1 : Timpl_Edge} {r : Bool} (h0 : Rd Rimpl_Edge w0 p0 a0) (h1 : Rd Rimpl_Edge w0 p1 a1) (hm : laws_eqEdge_m fuel a0 a1 = some r) :
  Calls Tryz.prog 37 #[p0, p1] w0 fun e w => e = .returned (.bool r) ∧ Heap w0 [] w := by
 unfold laws_eqEdge_m at hm
 have H := Heap.start w0
 obtain ⟨c31, rfl, h32⟩ := h0
 obtain ⟨c33, c34, rfl, h35, h36⟩ := h32
 obtain rfl := h35
 obtain ⟨c37, c38, rfl, h39, h40⟩ := h36
 obtain rfl := h39
 obtain rfl := h40
 obtain ⟨c41, rfl, h42⟩ := h1
 obtain ⟨c43, c44, rfl, h45, h46⟩ := h42
 obtain rfl := h45
 obtain ⟨c47, c48, rfl, h49, h50⟩ := h46
 obtain rfl := h49
 obtain rfl := h50
 refine enter (args := [(.agg #[(.int .i64 a0.1), (.int .i64 a0.2.1), (.int .i64 a0.2.2)]), (.agg #[(.int .i64 a1.1), (.int .i64 a1.2.1), (.int .i64 a1.2.2)])]) Tryz.func37 rfl 20 rfl (Nat.le_of_ble_eq_true rfl) (fun a S => ?_)
 refine wp_seq (region_plain ?_)
 refine lx_box S trivial (by decide) rfl H rfl rfl (fun b51 w52 H => ⟨trivial, fun a S => ?_⟩)
 refine lx_box S trivial (by decide) rfl H rfl rfl (fun b54 w55 H => ⟨trivial, fun a S => ?_⟩)
 refine lq (.bool false) S (q_assign rfl) fun a S => ?_
 refine lx_nil (thenN ?_)
 refine wp_seq (wp_seq (region_plain ?_))
 refine lq (pAdd (bp b51) 0) S (q_fieldAddr' 0 2 rfl (isP_bp _) Tryz.underlying48 rfl Tryz.sizeOf2) fun a S => ?_
 refine lx_e (.int .i64 a0.1) S trivial (by decide) rfl trivial (q_load1 rfl Tryz.isAgg2 (by rintro _ rfl; exact (At.of_add (m := 0) (j := 0) (boxAt (i := 1) H rfl (j := 0) rfl)))) (fun a S => ?_)
 refine lq (pAdd (bp b54) 0) S (q_fieldAddr' 0 2 rfl (isP_bp _) Tryz.underlying48 rfl Tryz.sizeOf2) fun a S => ?_
 refine lx_e (.int .i64 a1.1) S trivial (by decide) rfl trivial (q_load1 rfl Tryz.isAgg2 (by rintro _ rfl; exact (At.of_add (m := 0) (j := 0) (boxAt (i := 0) H rfl (j := 0) rfl)))) (fun a S => ?_)
 refine lq (.bool (a0.1 != a1.1)) S (q_neq rfl rfl) fun a S => ?_
 refine lx_nil (thenN ?_)
 refine cond_b S rfl (fun hc57 => ?_) (fun hc57 => ?_)
 ·have hm := ite_t hc57 hm
  refine wp_seq (region_plain ?_)
  refine lq (.bool false) S (q_assign rfl) fun a S => ?_
  refine lx_nil (thenN ?_)
  refine wp_ret (then_ret ?_)
  obtain rfl := Option.some.inj hm
  have H : Heap w0 [] w55 := H.sel [] (by decide)
  exact leave1 S rfl rfl ⟨rfl, H⟩
 ·have hm := ite_f hc57 hm
  refine wp_skip (thenN ?_)
  refine wp_seq (wp_seq (region_plain ?_))
  refine lq (pAdd (bp b51) 1) S (q_fieldAddr' 1 2 rfl (isP_bp _) Tryz.underlying48 rfl Tryz.sizeOf2) fun a S => ?_
  refine lx_e (.int .i64 a0.2.1) S trivial (by decide) rfl trivial (q_load1 rfl Tryz.isAgg2 (by rintro _ rfl; exact (At.of_add (m := 1) (j := 0) (boxAt (i := 1) H rfl (j := 1) rfl)))) (fun a S => ?_)
  refine lq (pAdd (bp b54) 1) S (q_fieldAddr' 1 2 rfl (isP_bp _) Tryz.underlying48 rfl Tryz.sizeOf2) fun a S => ?_
  refine lx_e (.int .i64 a1.2.1) S trivial (by decide) rfl trivial (q_load1 rfl Tryz.isAgg2 (by rintro _ rfl; exact (At.of_add (m := 1) (j := 0) (boxAt (i := 0) H rfl (j := 1) rfl)))) (fun a S => ?_)
  refine lq (.bool (a0.2.1 != a1.2.1)) S (q_neq rfl rfl) fun a S => ?_
  refine lx_nil (thenN ?_)
  refine cond_b S rfl (fun hc58 => ?_) (fun hc58 => ?_)
  ·have hm := ite_t hc58 hm
   refine wp_seq (region_plain ?_)
   refine lq (.bool false) S (q_assign rfl) fun a S => ?_
   refine lx_nil (thenN ?_)
   refine wp_ret (then_ret ?_)
   obtain rfl := Option.some.inj hm
   have H : Heap w0 [] w55 := H.sel [] (by decide)
   exact leave1 S rfl rfl ⟨rfl, H⟩
  ·have hm := ite_f hc58 hm
   refine wp_skip (thenN ?_)
   refine wp_seq (wp_seq (region_plain ?_))
   refine lq (pAdd (bp b51) 2) S (q_fieldAddr' 2 2 rfl (isP_bp _) Tryz.underlying48 rfl Tryz.sizeOf2) fun a S => ?_
   refine lx_e (.int .i64 a0.2.2) S trivial (by decide) rfl trivial (q_load1 rfl Tryz.isAgg2 (by rintro _ rfl; exact (At.of_add (m := 2) (j := 0) (boxAt (i := 1) H rfl (j := 2) rfl)))) (fun a S => ?_)
   refine lq (pAdd (bp b54) 2) S (q_fieldAddr' 2 2 rfl (isP_bp _) Tryz.underlying48 rfl Tryz.sizeOf2) fun a S => ?_
   refine lx_e (.int .i64 a1.2.2) S trivial (by decide) rfl trivial (q_load1 rfl Tryz.isAgg2 (by rintro _ rfl; exact (At.of_add (m := 2) (j := 0) (boxAt (i := 0) H rfl (j := 2) rfl)))) (fun a S => ?_)
   refine lq (.bool (a0.2.2 != a1.2.2)) S (q_neq rfl rfl) fun a S => ?_
   refine lx_nil (thenN ?_)
   refine cond_b S rfl (fun hc59 => ?_) (fun hc59 => ?_)
   ·have hm := ite_t hc59 hm
    refine wp_seq (region_plain ?_)
    refine lq (.bool false) S (q_assign rfl) fun a S => ?_
    refine lx_nil (thenN ?_)
    refine wp_ret (then_ret ?_)
    obtain rfl := Option.some.inj hm
    have H : Heap w0 [] w55 := H.sel [] (by decide)
    exact leave1 S rfl rfl ⟨rfl, H⟩
   ·have hm := ite_f hc59 hm
    refine wp_skip (thenN ?_)
    refine wp_seq (region_plain ?_)
    refine lq (.bool true) S (q_assign rfl) fun a S => ?_
    refine lx_nil (thenN ?_)
    refine wp_ret ?_
    obtain rfl := Option.some.inj hm
    have H : Heap w0 [] w55 := H.sel [] (by decide)
    exact leave1 S rfl rfl ⟨rfl, H⟩

/-- laws.eqEdgeS -/
def laws_eqEdgeS_m (fuel : Nat) (a0 : (List Timpl_Edge)) (a1 : (List Timpl_Edge)) : Option (Bool) :=
  (if ((a0.length : Int) != (a1.length : Int)) = true then some (false) else (iter (fun (s : (Int)) => (match s with | (x68) => (if (decide (x68 < (a0.length : Int))) = true then (idx a0 x68).bind fun x116 => (idx a1 x68).bind fun x129 => (laws_eqEdge_m fuel (x116.1, x116.2.1, x116.2.2) (x129.1, x129.2.1, x129.2.2)).bind fun x144 => (if (!x144) = true then some (.inr (.inr false)) else some (.inl ((W (x68 + (1 : Int)))))) else some (.inr (.inl ()))) : Option (((Int)) ⊕ ((Unit) ⊕ (Bool))))) fuel ((0 : Int))).bind fun res105 => ctl (β := Unit) (ρ := Bool) (τ := Bool) res105 (fun _ => some (true)) (fun q => some (q)))
set_option maxRecDepth 20000 in
theorem laws_eqEdgeS_ok [dr : Dr] {w0 : World} {fuel : Nat} {p0 p1 : Value} {a0 : (List Timpl_Edge)} {a1 : (List Timpl_Edge)} {r : Bool} (h0 : Rd (rList Rimpl_Edge) w0 p0 a0) (h1 : Rd (rList Rimpl_Edge) w0 p1 a1) (hm : laws_eqEdgeS_m fuel a0 a1 = some r) :
  Calls Tryz.prog 17 #[p0, p1] w0 fun e w => e = .returned (.bool r) ∧ Heap w0 [] w := by
 unfold laws_eqEdgeS_m at hm
 have H := Heap.start w0
 refine enter (args := [p0, p1]) Tryz.func17 rfl 27 rfl (Nat.le_of_ble_eq_true rfl) (fun a S => ?_)
 refine wp_seq (region_plain ?_)
 refine lq (.bool false) S (q_assign rfl) fun a S => ?_
 refine lx_nil (thenN ?_)
 refine wp_seq (wp_seq (region_plain ?_))
 refine lq p0 S (q_move rfl) fun a S => ?_
 refine lq (.int .i64 (a0.length : Int)) S (q_lenSl rfl (h0).isSl rfl Tryz.underlying23) fun a S => ?_
 refine lq p1 S (q_move rfl) fun a S => ?_
 refine lq (.int .i64 (a1.length : Int)) S (q_lenSl rfl (h1).isSl rfl Tryz.underlying23) fun a S => ?_
 refine lq (.bool ((a0.length : Int) != (a1.length : Int))) S (q_neq rfl rfl) fun a S => ?_
 refine lx_nil (thenN ?_)
 refine cond_b S rfl (fun hc31 => ?_) (fun hc31 => ?_)
 ·have hm := ite_t hc31 hm
  refine wp_seq (region_plain ?_)
  refine lq (.bool false) S (q_assign rfl) fun a S => ?_
  refine lx_nil (thenN ?_)
  refine wp_ret (then_ret ?_)
  obtain rfl := Option.some.inj hm
  exact leave1 S rfl rfl ⟨rfl, H⟩
 ·have hm := ite_f hc31 hm
  refine wp_skip (thenN ?_)
  refine wp_seq (wp_seq (region_plain ?_))
  refine lq (.int .i64 (0 : Int)) S (q_assign rfl) fun a S => ?_
  refine lx_nil (thenN ?_)
  obtain ⟨res105, hit106, hk109⟩ := bind_some hm
  obtain ⟨f107, hf108, hit106⟩ := iter_name hit106
  refine block_loop (fun a w => Slots a 27 [] ∧ Heap w0 [] w ∧ res105 = .inl ()) ?_ ?_
  ·rintro a w ⟨S, H, rfl⟩
   have hm := ctl_inl hk109
   refine thenN ?_
   refine wp_seq (region_plain ?_)
   refine lq (.bool true) S (q_assign rfl) fun a S => ?_
   refine lx_nil (thenN ?_)
   refine wp_ret ?_
   obtain rfl := Option.some.inj hm
   exact leave1 S rfl rfl ⟨rfl, H⟩
  ·skip
   refine loop_ghost (fun n a w => ∃ (x68 : Int), Slots a 27 [(0, p0), (1, p1), (5, (.int .i64 x68))] ∧ Heap w0 [] w ∧ iter f107 n (x68) = some res105) _ ⟨(0 : Int), S.sub ⟨rfl, rfl, rfl, trivial⟩, H, hit106⟩ ?_
   rintro n a w ⟨x68, S, H, hit106⟩
   obtain ⟨m110, o111, rfl, hm, hc112⟩ := iter_step hit106
   rw [hf108] at hm
   refine wp_seq (wp_seq (region_plain ?_))
   refine lq (.int .i64 x68) S (q_move rfl) fun a S => ?_
   refine lq p0 S (q_move rfl) fun a S => ?_
   refine lq (.int .i64 (a0.length : Int)) S (q_lenSl rfl (h0).isSl rfl Tryz.underlying23) fun a S => ?_
   refine lq (.bool (decide (x68 < (a0.length : Int)))) S (q_lss rfl rfl) fun a S => ?_
   refine lx_nil (thenN ?_)
   refine cond_b S rfl (fun hc113 => ?_) (fun hc113 => ?_)
   ·have hm := ite_t hc113 hm
    refine wp_skip (thenN ?_)
    refine wp_seq ?_
    refine wp_block ?_
    refine wp_seq ?_
    refine region_drawG (fun w1 => Heap w0 [] w1) (fun i => [8].contains i) mixed (by kernel_rfl) (fun w115 he114 => ?_)
    have H := H.later he114
    refine ⟨H.sel [] (by decide), ?_⟩
    refine lq p0 S (q_move rfl) fun a S => ?_
    refine lq (.int .i64 x68) S (q_move rfl) fun a S => ?_
    obtain ⟨x116, e117, hm⟩ := bind_some hm
    obtain ⟨c118, h119, hat120⟩ := (h0).elem (idx_some e117).2
    obtain ⟨c121, c122, rfl, h123, h124⟩ := h119
    obtain rfl := h123
    obtain ⟨c125, c126, rfl, h127, h128⟩ := h124
    obtain rfl := h127
    obtain rfl := h128
    have hlt := lt_of_idx (idx_some e117).2
    refine lq (ePtr p0 (x68.toNat * 3)) S (q_indexAddr rfl (h0).isSl rfl (idx_some e117).1 hlt Tryz.underlying23 Tryz.sizeOf48) fun a S => ?_
    refine lq (.agg #[(.int .i64 x116.1), (.int .i64 x116.2.1), (.int .i64 x116.2.2)]) S (q_loadA (cs := [(.int .i64 x116.1), (.int .i64 x116.2.1), (.int .i64 x116.2.2)]) rfl ((hat120 0 _ rfl).isP) Tryz.isAgg48 Tryz.sizeOf48 (fun w1 hC => (fun j u hu => (hat120 j u hu).ext hC.ext))) fun a S => ?_
    refine lq p1 S (q_move rfl) fun a S => ?_
    refine lq (.int .i64 x68) S (q_move rfl) fun a S => ?_
    obtain ⟨x129, e130, hm⟩ := bind_some hm
    obtain ⟨c131, h132, hat133⟩ := (h1).elem (idx_some e130).2
    obtain ⟨c134, c135, rfl, h136, h137⟩ := h132
    obtain rfl := h136
    obtain ⟨c138, c139, rfl, h140, h141⟩ := h137
    obtain rfl := h140
    obtain rfl := h141
    have hlt := lt_of_idx (idx_some e130).2
    refine lq (ePtr p1 (x68.toNat * 3)) S (q_indexAddr rfl (h1).isSl rfl (idx_some e130).1 hlt Tryz.underlying23 Tryz.sizeOf48) fun a S => ?_
    refine lq (.agg #[(.int .i64 x129.1), (.int .i64 x129.2.1), (.int .i64 x129.2.2)]) S (q_loadA (cs := [(.int .i64 x129.1), (.int .i64 x129.2.1), (.int .i64 x129.2.2)]) rfl ((hat133 0 _ rfl).isP) Tryz.isAgg48 Tryz.sizeOf48 (fun w1 hC => (fun j u hu => (hat133 j u hu).ext hC.ext))) fun a S => ?_
    obtain ⟨x144, e145, hm⟩ := bind_some hm
    refine lx_call (xs := [.tmp 20, .tmp 24]) S trivial (by decide) rfl rfl Tryz.call37 ((laws_eqEdge_ok ⟨[(.int .i64 x116.1), (.int .i64 x116.2.1), (.int .i64 x116.2.2)], rfl, ⟨[(.int .i64 x116.1)], [(.int .i64 x116.2.1), (.int .i64 x116.2.2)], rfl, rfl, ⟨[(.int .i64 x116.2.1)], [(.int .i64 x116.2.2)], rfl, rfl, rfl⟩⟩⟩ ⟨[(.int .i64 x129.1), (.int .i64 x129.2.1), (.int .i64 x129.2.2)], rfl, ⟨[(.int .i64 x129.1)], [(.int .i64 x129.2.1), (.int .i64 x129.2.2)], rfl, rfl, ⟨[(.int .i64 x129.2.1)], [(.int .i64 x129.2.2)], rfl, rfl, rfl⟩⟩⟩ e145).mono ?_)
    rintro e w142 ⟨rfl, Hc143⟩
    have H := H.call0 Hc143
    refine ⟨_, rfl, H.sel [] (by decide), fun a S => ?_⟩
    refine lq (.bool (!x144)) S (q_not rfl) fun a S => ?_
    refine lx_nil (thenN ?_)
    refine cond_b S rfl (fun hc147 => ?_) (fun hc147 => ?_)
    ·have hm := ite_t hc147 hm
     refine wp_seq (region_plain ?_)
     refine lq (.bool false) S (q_assign rfl) fun a S => ?_
     refine lx_nil (thenN ?_)
     refine wp_ret (inBlock_ret ?_)
     refine then_ret ?_
     refine then_ret ?_
     refine inBlock_ret ?_
     refine then_ret ?_
     refine then_ret ?_
     obtain rfl := it_brk hm hc112
     have hm := ctl_inr hk109
     obtain rfl := Option.some.inj hm
     exact leave1 S rfl rfl ⟨rfl, H⟩
    ·have hm := ite_f hc147 hm
     refine wp_skip ?_
     refine inBlock_norm ?_
     refine thenN ?_
     refine region_plain ?_
     refine lq (.int .i64 x68) S (q_move rfl) fun a S => ?_
     refine lq (.int .i64 (W (x68 + (1 : Int)))) S (q_add rfl rfl) fun a S => ?_
     refine lq (.int .i64 (W (x68 + (1 : Int)))) S (q_assign rfl) fun a S => ?_
     refine lx_nil ?_
     exact ⟨m110, Nat.lt_succ_self _, (W (x68 + (1 : Int))), S.sub ⟨rfl, rfl, rfl, trivial⟩, H, it_cont hm hc112⟩
   ·have hm := ite_f hc113 hm
    refine wp_exit ?_
    refine then_exit ?_
    refine then_exit ?_
    refine inBlock_exit ?_
    obtain rfl := it_brk hm hc112
    exact ⟨S.sub trivial, H, rfl⟩
end Go.Proofs.YtlmopoaeekhmeaaGreatDoor
