/- The model of a statement and its walk (printed by a program of this repo). -/
import Derived.Test.YtldmecdkdoipdaaGreatDoorF0
import Derived.Test.YtldmecdkdoipdaaGreatDoorF1
import Derived.Test.YtldmecdkdoipdaaGreatDoorF2
import Derived.Test.YtldmecdkdoipdaaGreatDoorF3
import Derived.Test.YtldmecdkdoipdaaGreatDoorF4
import Derived.Test.YtldmecdkdoipdaaGreatDoorF5
import Derived.Test.YtldmecdkdoipdaaGreatDoorF6
import Derived.Test.YtldmecdkdoipdaaGreatDoorGxT
import Derived.Test.YtldmecdkdoipdaaGreatDoorGxY
namespace Go.Proofs.YtldmecdkdoipdaaGreatDoor
open Go.RowKit Go.Gx

/-- spec.l01LabelName -/
def spec_l01LabelName_m (fuel : Nat) (a0 : Str) : Option (Str) :=
  (spec_l01Open_m fuel a0).bind fun x33 => (sub a0 (0 : Int) x33).bind fun xs36 => some (xs36)
set_option maxRecDepth 20000 in
theorem spec_l01LabelName_ok [dr : Dr] {w0 : World} {fuel : Nat} {a0 : Str} {r : Str} (hm : spec_l01LabelName_m fuel a0 = some r) :
  Calls Tryz.prog 36 #[sv a0] w0 fun e w => e = .returned (sv r) ∧ Heap w0 [] w := by
 unfold spec_l01LabelName_m at hm
 have H := Heap.start w0
 refine enter (args := [sv a0]) Tryz.func36 rfl 7 rfl (Nat.le_of_ble_eq_true rfl) (fun a S => ?_)
 refine wp_seq (region_plain ?_)
 refine lq (sv ([] : Str)) S (q_assign rfl) fun a S => ?_
 refine lx_nil (thenN ?_)
 refine wp_seq (region_plain ?_)
 refine lq (sv a0) S (q_move rfl) fun a S => ?_
 refine lq (sv a0) S (q_move rfl) fun a S => ?_
 obtain ⟨x33, e34, hm⟩ := bind_some hm
 refine lx_call (xs := [.tmp 4]) S trivial (by decide) rfl rfl Tryz.call62 ((spec_l01Open_ok  e34).mono ?_)
 rintro e w31 ⟨rfl, Hc32⟩
 have H := H.call0 Hc32
 refine ⟨_, rfl, trivial, fun a S => ?_⟩
 obtain ⟨xs36, e37, hm⟩ := bind_some hm
 obtain ⟨hsb, hse⟩ := sub_some e37
 replace hse := hse.symm
 subst hse
 refine lq (sv ((a0.take (x33).toNat).drop ((0 : Int)).toNat)) S (q_ssub (lo := none) (hi := (some (.tmp 5))) (l := (0 : Int)) (h := x33) rfl Tryz.underlying9 rfl rfl hsb.1 hsb.2.1 hsb.2.2) fun a S => ?_
 refine lq (sv ((a0.take (x33).toNat).drop ((0 : Int)).toNat)) S (q_assign rfl) fun a S => ?_
 refine lx_nil (thenN ?_)
 refine wp_ret ?_
 obtain rfl := Option.some.inj hm
 exact leave1 S rfl rfl ⟨rfl, H⟩

/-- spec.RenameLabels -/
def spec_RenameLabels_m (fuel : Nat) (a0 : Timpl_Lts) (a1 : Str) (a2 : Str) : Option ((Timpl_Lts × Int)) :=
  (spec_l11Is_m fuel (a0.1, a0.2.1, a0.2.2.1, a0.2.2.2)).bind fun x57 => (if (!x57) = true then some ((((0 : Int), (0 : Int), [], []), (1 : Int))) else (spec_l01Action_m fuel a1).bind fun x66 => (if (!x66) = true then some true else (spec_l01Action_m fuel a2).bind fun x74 => some (!x74)).bind fun t69 => (if t69 = true then some ((((0 : Int), (0 : Int), [], []), (2 : Int))) else (iter (fun (s : (List Str) × (Int)) => (match s with | (xs136, x138) => (if (decide (x138 < (a0.2.2.1.length : Int))) = true then join (κ := List Str → Option (((List Str) × (Int)) ⊕ (((List Str)) ⊕ ((Timpl_Lts × Int))))) (fun (xs213 : List Str) => some (.inl (xs213, (W (x138 + (1 : Int)))))) (fun K215 => (idx a0.2.2.1 x138).bind fun x217 => (spec_l01LabelName_m fuel x217).bind fun x224 => (if (x224 == a1) = true then (idx a0.2.2.1 x138).bind fun x228 => (sub x228 (x224.length : Int) (x228.length : Int)).bind fun xs233 => (cat a2 xs233).bind fun x235 => (app xs136 [x235]).bind fun x240 => (K215 x240) else (idx a0.2.2.1 x138).bind fun x245 => (app xs136 [x245]).bind fun x253 => (K215 x253))) else some (.inr (.inl (xs136)))) : Option (((List Str) × (Int)) ⊕ (((List Str)) ⊕ ((Timpl_Lts × Int)))))) fuel (([] : List Str), (0 : Int))).bind fun res193 => ctl (β := (List Str)) (ρ := (Timpl_Lts × Int)) (τ := (Timpl_Lts × Int)) res193 (fun (xs191) => (spec_l11Make_m fuel a0.1 a0.2.1 xs191 a0.2.2.2).bind fun x200 => some (((x200.1, x200.2.1, x200.2.2.1, x200.2.2.2), (0 : Int)))) (fun q => some (q))))
set_option maxRecDepth 20000 in
theorem spec_RenameLabels_ok [dr : Dr] {w0 : World} {fuel : Nat} {p0 : Value} {a0 : Timpl_Lts} {a1 : Str} {a2 : Str} {r : (Timpl_Lts × Int)} (h0 : Rd Rimpl_Lts w0 p0 a0) (hm : spec_RenameLabels_m fuel a0 a1 a2 = some r) :
  Calls Tryz.prog 15 #[p0, sv a1, sv a2] w0 fun e w => ∃ (v0 : Value) (v1 : Value), e = .returned (.tuple #[.agg #[.int .i64 r.1.1, .int .i64 r.1.2.1, v0, v1], .int .i64 r.2]) ∧ Heap w0 [oA (rList rStr) v0 r.1.2.2.1, oA (rList Rimpl_Edge) v1 r.1.2.2.2] w := by
 unfold spec_RenameLabels_m at hm
 have H := Heap.start w0
 obtain ⟨c31, rfl, h32⟩ := h0
 obtain ⟨c37, c38, rfl, h39, h40⟩ := h32
 obtain rfl := h39
 obtain ⟨c41, c42, rfl, h43, h44⟩ := h40
 obtain rfl := h43
 obtain ⟨c45, c46, rfl, h47, h48⟩ := h44
 obtain ⟨v33, rfl, h34⟩ := rd_list h47
 obtain ⟨v35, rfl, h36⟩ := rd_list h48
 refine enter (args := [(.agg #[(.int .i64 a0.1), (.int .i64 a0.2.1), v33, v35]), sv a1, sv a2]) Tryz.func15 rfl 69 rfl (Nat.le_of_ble_eq_true rfl) (fun a S => ?_)
 refine wp_seq (region_plain ?_)
 refine lx_box S trivial (by decide) rfl H rfl rfl (fun b49 w50 H => ⟨trivial, fun a S => ?_⟩)
 refine lx_alloc S trivial (by decide) rfl H Tryz.zeroValue31 rfl (fun b52 w53 H => ⟨trivial, fun a S => ?_⟩)
 refine lq (.int .i64 (0 : Int)) S (q_assign rfl) fun a S => ?_
 refine lx_nil (thenN ?_)
 refine wp_seq (wp_seq (region_plain ?_))
 obtain ⟨x57, e58, hm⟩ := bind_some hm
 refine lx_call (xs := [.tmp 3]) S trivial (by decide) rfl rfl Tryz.call19 ((spec_l11Is_ok (rdPtr_box H 1 rfl ⟨[(.int .i64 a0.1)], [(.int .i64 a0.2.1), v33, v35], rfl, rfl, ⟨[(.int .i64 a0.2.1)], [v33, v35], rfl, rfl, ⟨[v33], [v35], rfl, ((H.arg h34)).list_rd, ((H.arg h36)).list_rd⟩⟩⟩) e58).mono ?_)
 rintro e w55 ⟨rfl, Hc56⟩
 have H := H.call0 Hc56
 refine ⟨_, rfl, trivial, fun a S => ?_⟩
 refine lq (.bool (!x57)) S (q_not rfl) fun a S => ?_
 refine lx_nil (thenN ?_)
 refine cond_b S rfl (fun hc60 => ?_) (fun hc60 => ?_)
 ·have hm := ite_t hc60 hm
  refine wp_seq (region_plain ?_)
  refine lq (.agg #[(.int .i64 (0 : Int)), (.int .i64 (0 : Int)), (.slice none 0 0), (.slice none 0 0)]) S (q_build (zs := [(.int .i64 (0 : Int)), (.int .i64 (0 : Int)), (.slice none 0 0), (.slice none 0 0)]) (szs := [1, 1, 1, 1]) (ps := []) (parts := []) rfl Tryz.underlying31 Tryz.zeroValue31 (fun w => by simp [Tryz.sizeOf2, Tryz.sizeOf22, Tryz.sizeOf29]) trivial rfl) fun a S => ?_
  refine lx_storeBox (o := 0) (i := 0) (us := [(.int .i64 (0 : Int)), (.int .i64 (0 : Int)), (.slice none 0 0), (.slice none 0 0)]) (cs' := [(.int .i64 (0 : Int)), (.int .i64 (0 : Int)), (.slice none 0 0), (.slice none 0 0)]) S trivial rfl H rfl rfl rfl rfl Tryz.sizeOf31 (Nat.le_of_ble_eq_true rfl) (List.forall_mem_cons.2 ⟨rfl, (List.forall_mem_cons.2 ⟨rfl, (List.forall_mem_cons.2 ⟨rfl, (List.forall_mem_cons.2 ⟨rfl, (List.forall_mem_nil _)⟩)⟩)⟩)⟩) rfl (fun w61 H => ⟨trivial, fun a S => ?_⟩)
  change Heap w0 [bA b52 [(.int .i64 (0 : Int)), (.int .i64 (0 : Int)), (.slice none 0 0), (.slice none 0 0)] 31, bA b49 [(.int .i64 a0.1), (.int .i64 a0.2.1), v33, v35] 31] w61 at H
  refine lq (.int .i64 (1 : Int)) S (q_assign rfl) fun a S => ?_
  refine lx_nil (thenN ?_)
  refine wp_ret ?_
  have hrv0 := RV.cellA (t := 31) (q := 6) (env := [(0, (.agg #[(.int .i64 a0.1), (.int .i64 a0.2.1), v33, v35])), (1, (sv a1)), (2, (sv a2)), (3, (bp b49)), (6, (bp b52)), (7, (.int .i64 (1 : Int))), (11, (.bool x57)), (12, (.bool (!x57))), (13, (.agg #[(.int .i64 (0 : Int)), (.int .i64 (0 : Int)), (.slice none 0 0), (.slice none 0 0)]))]) H (i := 0) rfl rfl Tryz.isAgg31 Tryz.sizeOf31
  have hrv1 : RV Tryz.prog _ w61 (.tmp 7) (.int .i64 (1 : Int)) := (rfl : lk [(0, (.agg #[(.int .i64 a0.1), (.int .i64 a0.2.1), v33, v35])), (1, (sv a1)), (2, (sv a2)), (3, (bp b49)), (6, (bp b52)), (7, (.int .i64 (1 : Int))), (11, (.bool x57)), (12, (.bool (!x57))), (13, (.agg #[(.int .i64 (0 : Int)), (.int .i64 (0 : Int)), (.slice none 0 0), (.slice none 0 0)]))] 7 = some (.int .i64 (1 : Int)))
  refine then_ret ?_
  obtain rfl := Option.some.inj hm
  have H : Heap w0 [oA (rList rStr) (.slice none 0 0) ([] : List Str), bA b52 [(.int .i64 (0 : Int)), (.int .i64 (0 : Int)), (.slice none 0 0), (.slice none 0 0)] 31, bA b49 [(.int .i64 a0.1), (.int .i64 a0.2.1), v33, v35] 31] w61 := H.nilList rStr
  have H : Heap w0 [oA (rList Rimpl_Edge) (.slice none 0 0) ([] : List Timpl_Edge), oA (rList rStr) (.slice none 0 0) ([] : List Str), bA b52 [(.int .i64 (0 : Int)), (.int .i64 (0 : Int)), (.slice none 0 0), (.slice none 0 0)] 31, bA b49 [(.int .i64 a0.1), (.int .i64 a0.2.1), v33, v35] 31] w61 := H.nilList Rimpl_Edge
  have H : Heap w0 [oA (rList rStr) (.slice none 0 0) ([] : List Str), oA (rList Rimpl_Edge) (.slice none 0 0) ([] : List Timpl_Edge), bA b52 [(.int .i64 (0 : Int)), (.int .i64 (0 : Int)), (.slice none 0 0), (.slice none 0 0)] 31, bA b49 [(.int .i64 a0.1), (.int .i64 a0.2.1), v33, v35] 31] w61 := H.front 1 rfl
  have H : Heap w0 [oA (rList rStr) (.slice none 0 0) ([] : List Str), oA (rList Rimpl_Edge) (.slice none 0 0) ([] : List Timpl_Edge)] w61 := H.sel [0, 1] (by decide)
  exact leaveR2 S rfl hrv0 hrv1 ⟨(.slice none 0 0), (.slice none 0 0), rfl, H⟩
 ·have hm := ite_f hc60 hm
  refine wp_skip (thenN ?_)
  refine wp_seq (wp_seq (region_plain ?_))
  refine lq (sv a1) S (q_move rfl) fun a S => ?_
  obtain ⟨x66, e67, hm⟩ := bind_some hm
  refine lx_call (xs := [.tmp 14]) S trivial (by decide) rfl rfl Tryz.call35 ((spec_l01Action_ok  e67).mono ?_)
  rintro e w64 ⟨rfl, Hc65⟩
  have H := H.call0 Hc65
  refine ⟨_, rfl, trivial, fun a S => ?_⟩
  refine lq (.bool (!x66)) S (q_not rfl) fun a S => ?_
  refine lq (.bool (!x66)) S (q_move rfl) fun a S => ?_
  obtain ⟨t69, e70, hm⟩ := bind_some hm
  refine lx_cut 4 (fun a w => Slots a 69 [(1, (sv a1)), (2, (sv a2)), (3, (bp b49)), (6, (bp b52)), (21, (.bool t69))] ∧ Heap w0 [bA b52 [(.int .i64 (0 : Int)), (.int .i64 (0 : Int)), (.slice none 0 0), (.slice none 0 0)] 31, bA b49 [(.int .i64 a0.1), (.int .i64 a0.2.1), v33, v35] 31] w) ?_ ?_
  ·by_cases hc71 : (!x66) = true
   ·have hm := ite_t hc71 e70
    refine lx_skip S rfl rfl (isB_ne hc71) (by decide) (fun a S => ?_)
    refine lx_skip S rfl rfl (isB_ne hc71) (by decide) (fun a S => ?_)
    refine lx_skip S rfl rfl (isB_ne hc71) (by decide) (fun a S => ?_)
    refine lq (.bool true) S (q_pickT' rfl hc71 rfl) fun a S => ?_
    refine lx_nil ?_
    obtain rfl := Option.some.inj hm
    exact ⟨S.sub ⟨rfl, rfl, rfl, rfl, rfl, trivial⟩, H⟩
   ·have hm := ite_f (eq_false_of_ne_true hc71) e70
    have hc71 : (!x66) = false := eq_false_of_ne_true hc71
    refine lx_q (sv a2) S (want_b rfl rfl hc71) (by decide) (q_move rfl) (fun a S => ?_)
    obtain ⟨x74, e75, hm⟩ := bind_some hm
    refine lx_call (xs := [.tmp 18]) S (want_b rfl rfl hc71) (by decide) rfl rfl Tryz.call35 ((spec_l01Action_ok  e75).mono ?_)
    rintro e w72 ⟨rfl, Hc73⟩
    have H := H.call0 Hc73
    refine ⟨_, rfl, trivial, fun a S => ?_⟩
    refine lx_q (.bool (!x74)) S (want_b rfl rfl hc71) (by decide) (q_not rfl) (fun a S => ?_)
    refine lq (.bool (!x74)) S (q_pickF' rfl hc71 rfl) fun a S => ?_
    refine lx_nil ?_
    obtain rfl := Option.some.inj hm
    exact ⟨S.sub ⟨rfl, rfl, rfl, rfl, rfl, trivial⟩, H⟩
  ·rintro a w ⟨S, H⟩
   refine lx_nil (thenN ?_)
   refine cond_b S rfl (fun hc77 => ?_) (fun hc77 => ?_)
   ·have hm := ite_t hc77 hm
    refine wp_seq (region_plain ?_)
    refine lq (.agg #[(.int .i64 (0 : Int)), (.int .i64 (0 : Int)), (.slice none 0 0), (.slice none 0 0)]) S (q_build (zs := [(.int .i64 (0 : Int)), (.int .i64 (0 : Int)), (.slice none 0 0), (.slice none 0 0)]) (szs := [1, 1, 1, 1]) (ps := []) (parts := []) rfl Tryz.underlying31 Tryz.zeroValue31 (fun w => by simp [Tryz.sizeOf2, Tryz.sizeOf22, Tryz.sizeOf29]) trivial rfl) fun a S => ?_
    refine lx_storeBox (o := 0) (i := 0) (us := [(.int .i64 (0 : Int)), (.int .i64 (0 : Int)), (.slice none 0 0), (.slice none 0 0)]) (cs' := [(.int .i64 (0 : Int)), (.int .i64 (0 : Int)), (.slice none 0 0), (.slice none 0 0)]) S trivial rfl H rfl rfl rfl rfl Tryz.sizeOf31 (Nat.le_of_ble_eq_true rfl) (List.forall_mem_cons.2 ⟨rfl, (List.forall_mem_cons.2 ⟨rfl, (List.forall_mem_cons.2 ⟨rfl, (List.forall_mem_cons.2 ⟨rfl, (List.forall_mem_nil _)⟩)⟩)⟩)⟩) rfl (fun w78 H => ⟨trivial, fun a S => ?_⟩)
    change Heap w0 [bA b52 [(.int .i64 (0 : Int)), (.int .i64 (0 : Int)), (.slice none 0 0), (.slice none 0 0)] 31, bA b49 [(.int .i64 a0.1), (.int .i64 a0.2.1), v33, v35] 31] w78 at H
    refine lq (.int .i64 (2 : Int)) S (q_assign rfl) fun a S => ?_
    refine lx_nil (thenN ?_)
    refine wp_ret ?_
    have hrv0 := RV.cellA (t := 31) (q := 6) (env := [(1, (sv a1)), (2, (sv a2)), (3, (bp b49)), (6, (bp b52)), (7, (.int .i64 (2 : Int))), (21, (.bool t69)), (22, (.agg #[(.int .i64 (0 : Int)), (.int .i64 (0 : Int)), (.slice none 0 0), (.slice none 0 0)]))]) H (i := 0) rfl rfl Tryz.isAgg31 Tryz.sizeOf31
    have hrv1 : RV Tryz.prog _ w78 (.tmp 7) (.int .i64 (2 : Int)) := (rfl : lk [(1, (sv a1)), (2, (sv a2)), (3, (bp b49)), (6, (bp b52)), (7, (.int .i64 (2 : Int))), (21, (.bool t69)), (22, (.agg #[(.int .i64 (0 : Int)), (.int .i64 (0 : Int)), (.slice none 0 0), (.slice none 0 0)]))] 7 = some (.int .i64 (2 : Int)))
    refine then_ret ?_
    obtain rfl := Option.some.inj hm
    have H : Heap w0 [oA (rList rStr) (.slice none 0 0) ([] : List Str), bA b52 [(.int .i64 (0 : Int)), (.int .i64 (0 : Int)), (.slice none 0 0), (.slice none 0 0)] 31, bA b49 [(.int .i64 a0.1), (.int .i64 a0.2.1), v33, v35] 31] w78 := H.nilList rStr
    have H : Heap w0 [oA (rList Rimpl_Edge) (.slice none 0 0) ([] : List Timpl_Edge), oA (rList rStr) (.slice none 0 0) ([] : List Str), bA b52 [(.int .i64 (0 : Int)), (.int .i64 (0 : Int)), (.slice none 0 0), (.slice none 0 0)] 31, bA b49 [(.int .i64 a0.1), (.int .i64 a0.2.1), v33, v35] 31] w78 := H.nilList Rimpl_Edge
    have H : Heap w0 [oA (rList rStr) (.slice none 0 0) ([] : List Str), oA (rList Rimpl_Edge) (.slice none 0 0) ([] : List Timpl_Edge), bA b52 [(.int .i64 (0 : Int)), (.int .i64 (0 : Int)), (.slice none 0 0), (.slice none 0 0)] 31, bA b49 [(.int .i64 a0.1), (.int .i64 a0.2.1), v33, v35] 31] w78 := H.front 1 rfl
    have H : Heap w0 [oA (rList rStr) (.slice none 0 0) ([] : List Str), oA (rList Rimpl_Edge) (.slice none 0 0) ([] : List Timpl_Edge)] w78 := H.sel [0, 1] (by decide)
    exact leaveR2 S rfl hrv0 hrv1 ⟨(.slice none 0 0), (.slice none 0 0), rfl, H⟩
   ·have hm := ite_f hc77 hm
    refine wp_skip (thenN ?_)
    refine wp_seq (region_plain ?_)
    refine lx_buildSlice0 (r := rStr) S trivial (by decide) rfl H Tryz.underlying22 Tryz.sizeOf9 (fun v81 w82 H => ⟨trivial, fun a S => ?_⟩)
    refine lq v81 S (q_assign rfl) fun a S => ?_
    refine lx_nil (thenN ?_)
    refine wp_seq (wp_seq (region_plain ?_))
    refine lq (.int .i64 (0 : Int)) S (q_assign rfl) fun a S => ?_
    refine lx_nil (thenN ?_)
    obtain ⟨res193, hit194, hk197⟩ := bind_some hm
    obtain ⟨f195, hf196, hit194⟩ := iter_name hit194
    refine block_loop (fun a w => ∃ (xs191 : List Str) (v190 : Value), Slots a 69 [(3, (bp b49)), (6, (bp b52)), (8, v190)] ∧ Heap w0 [bA b49 [(.int .i64 a0.1), (.int .i64 a0.2.1), v33, v35] 31, bA b52 [(.int .i64 (0 : Int)), (.int .i64 (0 : Int)), (.slice none 0 0), (.slice none 0 0)] 31, oA (rList rStr) v190 xs191] w ∧ res193 = .inl (xs191)) ?_ ?_
    ·rintro a w ⟨xs191, v190, S, H, rfl⟩
     have hm := ctl_inl hk197
     refine thenN ?_
     refine wp_seq (region_plain ?_)
     refine lq (pAdd (bp b49) 0) S (q_fieldAddr' 0 2 rfl (isP_bp _) Tryz.underlying31 rfl Tryz.sizeOf2) fun a S => ?_
     refine lx_e (.int .i64 a0.1) S trivial (by decide) rfl trivial (q_load1 rfl Tryz.isAgg2 (by rintro _ rfl; exact (At.of_add (m := 0) (j := 0) (boxAt (i := 0) H rfl (j := 0) rfl)))) (fun a S => ?_)
     refine lq (pAdd (bp b49) 1) S (q_fieldAddr' 1 2 rfl (isP_bp _) Tryz.underlying31 rfl Tryz.sizeOf2) fun a S => ?_
     refine lx_e (.int .i64 a0.2.1) S trivial (by decide) rfl trivial (q_load1 rfl Tryz.isAgg2 (by rintro _ rfl; exact (At.of_add (m := 1) (j := 0) (boxAt (i := 0) H rfl (j := 1) rfl)))) (fun a S => ?_)
     refine lq v190 S (q_move rfl) fun a S => ?_
     refine lq (pAdd (bp b49) 3) S (q_fieldAddr' 3 29 rfl (isP_bp _) Tryz.underlying31 rfl Tryz.sizeOf29) fun a S => ?_
     refine lx_e v35 S trivial (by decide) rfl trivial (q_load1 rfl Tryz.isAgg29 (by rintro _ rfl; exact (At.of_add (m := 3) (j := 0) (boxAt (i := 0) H rfl (j := 3) rfl)))) (fun a S => ?_)
     obtain ⟨x200, e201, hm⟩ := bind_some hm
     refine lx_call (xs := [.tmp 62, .tmp 64, .tmp 65, .tmp 67]) S trivial (by decide) rfl rfl Tryz.call37 ((spec_l11Make_ok   (H.rdAt 2 rfl) (H.arg h36) e201).mono ?_)
     rintro e w198 ⟨v202, v203, rfl, Hc199⟩
     have H := H.call2 Hc199
     refine ⟨_, rfl, trivial, fun a S => ?_⟩
     refine lx_storeBox (o := 0) (i := 3) (us := [(.int .i64 x200.1), (.int .i64 x200.2.1), v202, v203]) (cs' := [(.int .i64 x200.1), (.int .i64 x200.2.1), v202, v203]) S trivial rfl H rfl rfl rfl rfl Tryz.sizeOf31 (Nat.le_of_ble_eq_true rfl) (List.forall_mem_cons.2 ⟨rfl, (List.forall_mem_cons.2 ⟨rfl, (List.forall_mem_cons.2 ⟨one_sl (H.isSl 0 rfl), (List.forall_mem_cons.2 ⟨one_sl (H.isSl 1 rfl), (List.forall_mem_nil _)⟩)⟩)⟩)⟩) rfl (fun w207 H => ⟨trivial, fun a S => ?_⟩)
     change Heap w0 [oA (rList rStr) v202 x200.2.2.1, oA (rList Rimpl_Edge) v203 x200.2.2.2, bA b49 [(.int .i64 a0.1), (.int .i64 a0.2.1), v33, v35] 31, bA b52 [(.int .i64 x200.1), (.int .i64 x200.2.1), v202, v203] 31, oA (rList rStr) v190 xs191] w207 at H
     refine lq (.int .i64 (0 : Int)) S (q_assign rfl) fun a S => ?_
     refine lx_nil (thenN ?_)
     refine wp_ret ?_
     have hrv0 := RV.cellA (t := 31) (q := 6) (env := [(3, (bp b49)), (6, (bp b52)), (7, (.int .i64 (0 : Int))), (8, v190), (61, (pAdd (bp b49) 0)), (62, (.int .i64 a0.1)), (63, (pAdd (bp b49) 1)), (64, (.int .i64 a0.2.1)), (65, v190), (66, (pAdd (bp b49) 3)), (67, v35), (68, (.agg #[(.int .i64 x200.1), (.int .i64 x200.2.1), v202, v203]))]) H (i := 3) rfl rfl Tryz.isAgg31 Tryz.sizeOf31
     have hrv1 : RV Tryz.prog _ w207 (.tmp 7) (.int .i64 (0 : Int)) := (rfl : lk [(3, (bp b49)), (6, (bp b52)), (7, (.int .i64 (0 : Int))), (8, v190), (61, (pAdd (bp b49) 0)), (62, (.int .i64 a0.1)), (63, (pAdd (bp b49) 1)), (64, (.int .i64 a0.2.1)), (65, v190), (66, (pAdd (bp b49) 3)), (67, v35), (68, (.agg #[(.int .i64 x200.1), (.int .i64 x200.2.1), v202, v203]))] 7 = some (.int .i64 (0 : Int)))
     obtain rfl := Option.some.inj hm
     have H : Heap w0 [oA (rList rStr) v202 x200.2.2.1, oA (rList Rimpl_Edge) v203 x200.2.2.2] w207 := H.sel [0, 1] (by decide)
     exact leaveR2 S rfl hrv0 hrv1 ⟨v202, v203, rfl, H⟩
    ·skip
     have H : Heap w0 [bA b52 [(.int .i64 (0 : Int)), (.int .i64 (0 : Int)), (.slice none 0 0), (.slice none 0 0)] 31, oA (rList rStr) v81 ([] : List Str), bA b49 [(.int .i64 a0.1), (.int .i64 a0.2.1), v33, v35] 31] w82 := H.front 1 rfl
     have H : Heap w0 [bA b49 [(.int .i64 a0.1), (.int .i64 a0.2.1), v33, v35] 31, bA b52 [(.int .i64 (0 : Int)), (.int .i64 (0 : Int)), (.slice none 0 0), (.slice none 0 0)] 31, oA (rList rStr) v81 ([] : List Str)] w82 := H.front 2 rfl
     refine loop_ghost (fun n a w => ∃ (xs136 : List Str) (x138 : Int) (v135 : Value), Slots a 69 [(1, (sv a1)), (2, (sv a2)), (3, (bp b49)), (6, (bp b52)), (8, v135), (9, (.int .i64 x138))] ∧ Heap w0 [bA b49 [(.int .i64 a0.1), (.int .i64 a0.2.1), v33, v35] 31, bA b52 [(.int .i64 (0 : Int)), (.int .i64 (0 : Int)), (.slice none 0 0), (.slice none 0 0)] 31, oA (rList rStr) v135 xs136] w ∧ iter f195 n (xs136, x138) = some res193) _ ⟨([] : List Str), (0 : Int), v81, S.sub ⟨rfl, rfl, rfl, rfl, rfl, rfl, trivial⟩, H, hit194⟩ ?_
     rintro n a w ⟨xs136, x138, v135, S, H, hit194⟩
     obtain ⟨m208, o209, rfl, hm, hc210⟩ := iter_step hit194
     rw [hf196] at hm
     refine wp_seq (wp_seq (region_plain ?_))
     refine lq (.int .i64 x138) S (q_move rfl) fun a S => ?_
     refine lq (pAdd (bp b49) 2) S (q_fieldAddr' 2 22 rfl (isP_bp _) Tryz.underlying31 rfl Tryz.sizeOf22) fun a S => ?_
     refine lx_e v33 S trivial (by decide) rfl trivial (q_load1 rfl Tryz.isAgg22 (by rintro _ rfl; exact (At.of_add (m := 2) (j := 0) (boxAt (i := 0) H rfl (j := 2) rfl)))) (fun a S => ?_)
     refine lq (.int .i64 (a0.2.2.1.length : Int)) S (q_lenSl rfl (h34).isSl rfl Tryz.underlying22) fun a S => ?_
     refine lq (.bool (decide (x138 < (a0.2.2.1.length : Int)))) S (q_lss rfl rfl) fun a S => ?_
     refine lx_nil (thenN ?_)
     refine cond_b S rfl (fun hc211 => ?_) (fun hc211 => ?_)
     ·have hm := ite_t hc211 hm
      refine wp_skip (thenN ?_)
      obtain ⟨K215, hK216, hm⟩ := join_elim hm
      refine seq_cut (fun a w => ∃ (xs213 : List Str) (v212 : Value), Slots a 69 [(1, (sv a1)), (2, (sv a2)), (3, (bp b49)), (6, (bp b52)), (8, v212), (9, (.int .i64 x138))] ∧ Heap w0 [bA b49 [(.int .i64 a0.1), (.int .i64 a0.2.1), v33, v35] 31, bA b52 [(.int .i64 (0 : Int)), (.int .i64 (0 : Int)), (.slice none 0 0), (.slice none 0 0)] 31, oA (rList rStr) v212 xs213] w ∧ K215 xs213 = some o209) ?_ ?_
      ·rintro a w ⟨xs213, v212, S, H, hm⟩
       subst hK216
       refine region_plain ?_
       refine lq (.int .i64 x138) S (q_move rfl) fun a S => ?_
       refine lq (.int .i64 (W (x138 + (1 : Int)))) S (q_add rfl rfl) fun a S => ?_
       refine lq (.int .i64 (W (x138 + (1 : Int)))) S (q_assign rfl) fun a S => ?_
       refine lx_nil ?_
       exact ⟨m208, Nat.lt_succ_self _, xs213, (W (x138 + (1 : Int))), v212, S.sub ⟨rfl, rfl, rfl, rfl, rfl, rfl, trivial⟩, H, it_cont hm hc210⟩
      ·skip
       refine wp_block ?_
       refine wp_seq (region_plain ?_)
       refine lq (pAdd (bp b49) 2) S (q_fieldAddr' 2 22 rfl (isP_bp _) Tryz.underlying31 rfl Tryz.sizeOf22) fun a S => ?_
       refine lx_e v33 S trivial (by decide) rfl trivial (q_load1 rfl Tryz.isAgg22 (by rintro _ rfl; exact (At.of_add (m := 2) (j := 0) (boxAt (i := 0) H rfl (j := 2) rfl)))) (fun a S => ?_)
       refine lq (.int .i64 x138) S (q_move rfl) fun a S => ?_
       obtain ⟨x217, e218, hm⟩ := bind_some hm
       obtain ⟨c219, h220, hat221⟩ := (h34).elem (idx_some e218).2
       obtain rfl := h220
       have hlt := lt_of_idx (idx_some e218).2
       refine lq (ePtr v33 (x138.toNat * 1)) S (q_indexAddr rfl (h34).isSl rfl (idx_some e218).1 hlt Tryz.underlying22 Tryz.sizeOf9) fun a S => ?_
       refine lx_e (sv x217) S trivial (by decide) rfl trivial (q_load1 rfl Tryz.isAgg9 (by rintro _ rfl; exact ((hat221 0 _ rfl).ext H.ext))) (fun a S => ?_)
       obtain ⟨x224, e225, hm⟩ := bind_some hm
       refine lx_call (xs := [.tmp 35]) S trivial (by decide) rfl rfl Tryz.call36 ((spec_l01LabelName_ok  e225).mono ?_)
       rintro e w222 ⟨rfl, Hc223⟩
       have H := H.call0 Hc223
       refine ⟨_, rfl, trivial, fun a S => ?_⟩
       refine lq (sv x224) S (q_assign rfl) fun a S => ?_
       refine lx_nil (thenN ?_)
       refine wp_seq (region_plain ?_)
       refine lq (sv x224) S (q_move rfl) fun a S => ?_
       refine lq (sv a1) S (q_move rfl) fun a S => ?_
       refine lq (.bool (x224 == a1)) S (q_seql rfl rfl) fun a S => ?_
       refine lx_nil (thenN ?_)
       refine cond_b S rfl (fun hc227 => ?_) (fun hc227 => ?_)
       ·have hm := ite_t hc227 hm
        refine region_plain ?_
        refine lq v135 S (q_move rfl) fun a S => ?_
        refine lq (sv a2) S (q_move rfl) fun a S => ?_
        refine lq (pAdd (bp b49) 2) S (q_fieldAddr' 2 22 rfl (isP_bp _) Tryz.underlying31 rfl Tryz.sizeOf22) fun a S => ?_
        refine lx_e v33 S trivial (by decide) rfl trivial (q_load1 rfl Tryz.isAgg22 (by rintro _ rfl; exact (At.of_add (m := 2) (j := 0) (boxAt (i := 0) H rfl (j := 2) rfl)))) (fun a S => ?_)
        refine lq (.int .i64 x138) S (q_move rfl) fun a S => ?_
        obtain ⟨x228, e229, hm⟩ := bind_some hm
        obtain ⟨c230, h231, hat232⟩ := (h34).elem (idx_some e229).2
        obtain rfl := h231
        have hlt := lt_of_idx (idx_some e229).2
        refine lq (ePtr v33 (x138.toNat * 1)) S (q_indexAddr rfl (h34).isSl rfl (idx_some e229).1 hlt Tryz.underlying22 Tryz.sizeOf9) fun a S => ?_
        refine lx_e (sv x228) S trivial (by decide) rfl trivial (q_load1 rfl Tryz.isAgg9 (by rintro _ rfl; exact ((hat232 0 _ rfl).ext H.ext))) (fun a S => ?_)
        refine lq (sv x224) S (q_move rfl) fun a S => ?_
        refine lq (.int .i64 (x224.length : Int)) S (q_lenStr rfl rfl Tryz.underlying9) fun a S => ?_
        obtain ⟨xs233, e234, hm⟩ := bind_some hm
        obtain ⟨hsb, hse⟩ := sub_some e234
        replace hse := hse.symm
        subst hse
        refine lq (sv ((x228.take ((x228.length : Int)).toNat).drop ((x224.length : Int)).toNat)) S (q_ssub (lo := (some (.tmp 48))) (hi := none) (l := (x224.length : Int)) (h := (x228.length : Int)) rfl Tryz.underlying9 rfl rfl hsb.1 hsb.2.1 hsb.2.2) fun a S => ?_
        obtain ⟨x235, e236, hm⟩ := bind_some hm
        obtain ⟨hle, hcat⟩ := cat_some e236
        subst hcat
        refine lq (sv (a2 ++ ((x228.take ((x228.length : Int)).toNat).drop ((x224.length : Int)).toNat))) S (q_cat rfl rfl hle) fun a S => ?_
        refine lx_buildSlice (r := rStr) (xs := [(a2 ++ ((x228.take ((x228.length : Int)).toNat).drop ((x224.length : Int)).toNat))]) (ps := [(0, [(sv (a2 ++ ((x228.take ((x228.length : Int)).toNat).drop ((x224.length : Int)).toNat)))])]) (cs := [(sv (a2 ++ ((x228.take ((x228.length : Int)).toNat).drop ((x224.length : Int)).toNat)))]) (parts := [(0, .tmp 50)]) S trivial (by decide) rfl (H.put0 (A := eA) rfl) rfl Tryz.underlying22 Tryz.sizeOf9 Tryz.zeroValue9 (by decide) ⟨rfl, rfl, Nat.le_of_ble_eq_true rfl, trivial⟩ (by intro zs hz; exact fill_dense hz ⟨rfl, trivial⟩ rfl rfl) rfl (by decide) (fun w F hA => by cases (show F = [] from hA); exact ⟨_, _, [(sv (a2 ++ ((x228.take ((x228.length : Int)).toNat).drop ((x224.length : Int)).toNat)))], _, rfl, rfl, ⟨rfl, rfl⟩, ⟨rfl, rfl⟩⟩) (fun v237 w238 H => ⟨trivial, fun a S => ?_⟩)
        obtain ⟨x240, e241, hm⟩ := bind_some hm
        obtain ⟨hle, hap⟩ := app_some e241
        replace hap := hap.symm
        subst hap
        have H : Heap w0 [oA (rList rStr) v237 [(a2 ++ ((x228.take ((x228.length : Int)).toNat).drop ((x224.length : Int)).toNat))], bA b49 [(.int .i64 a0.1), (.int .i64 a0.2.1), v33, v35] 31, bA b52 [(.int .i64 (0 : Int)), (.int .i64 (0 : Int)), (.slice none 0 0), (.slice none 0 0)] 31, oA (rList rStr) v135 xs136] w238 := H.front 0 rfl
        have H : Heap w0 [oA (rList rStr) v135 xs136, oA (rList rStr) v237 [(a2 ++ ((x228.take ((x228.length : Int)).toNat).drop ((x224.length : Int)).toNat))], bA b49 [(.int .i64 a0.1), (.int .i64 a0.2.1), v33, v35] 31, bA b52 [(.int .i64 (0 : Int)), (.int .i64 (0 : Int)), (.slice none 0 0), (.slice none 0 0)] 31] w238 := H.front 3 rfl
        refine lx_appendOwn (r := rStr) S trivial (by decide) rfl H rfl rfl Tryz.underlying22 Tryz.ti9 rfl rfl rfl (Nat.le_of_ble_eq_true rfl) (by decide) hle (fun v242 w243 H => ⟨trivial, fun a S => ?_⟩)
        refine lq v242 S (q_assign rfl) fun a S => ?_
        refine lx_nil ?_
        refine inBlock_norm ?_
        have H : Heap w0 [bA b52 [(.int .i64 (0 : Int)), (.int .i64 (0 : Int)), (.slice none 0 0), (.slice none 0 0)] 31, oA (rList rStr) v242 (xs136 ++ [(a2 ++ ((x228.take ((x228.length : Int)).toNat).drop ((x224.length : Int)).toNat))]), bA b49 [(.int .i64 a0.1), (.int .i64 a0.2.1), v33, v35] 31] w243 := H.front 2 rfl
        have H : Heap w0 [bA b49 [(.int .i64 a0.1), (.int .i64 a0.2.1), v33, v35] 31, bA b52 [(.int .i64 (0 : Int)), (.int .i64 (0 : Int)), (.slice none 0 0), (.slice none 0 0)] 31, oA (rList rStr) v242 (xs136 ++ [(a2 ++ ((x228.take ((x228.length : Int)).toNat).drop ((x224.length : Int)).toNat))])] w243 := H.front 2 rfl
        exact ⟨(xs136 ++ [(a2 ++ ((x228.take ((x228.length : Int)).toNat).drop ((x224.length : Int)).toNat))]), v242, S.sub ⟨rfl, rfl, rfl, rfl, rfl, rfl, trivial⟩, H, hm⟩
       ·have hm := ite_f hc227 hm
        refine region_plain ?_
        refine lq v135 S (q_move rfl) fun a S => ?_
        refine lq (pAdd (bp b49) 2) S (q_fieldAddr' 2 22 rfl (isP_bp _) Tryz.underlying31 rfl Tryz.sizeOf22) fun a S => ?_
        refine lx_e v33 S trivial (by decide) rfl trivial (q_load1 rfl Tryz.isAgg22 (by rintro _ rfl; exact (At.of_add (m := 2) (j := 0) (boxAt (i := 0) H rfl (j := 2) rfl)))) (fun a S => ?_)
        refine lq (.int .i64 x138) S (q_move rfl) fun a S => ?_
        obtain ⟨x245, e246, hm⟩ := bind_some hm
        obtain ⟨c247, h248, hat249⟩ := (h34).elem (idx_some e246).2
        obtain rfl := h248
        have hlt := lt_of_idx (idx_some e246).2
        refine lq (ePtr v33 (x138.toNat * 1)) S (q_indexAddr rfl (h34).isSl rfl (idx_some e246).1 hlt Tryz.underlying22 Tryz.sizeOf9) fun a S => ?_
        refine lx_e (sv x245) S trivial (by decide) rfl trivial (q_load1 rfl Tryz.isAgg9 (by rintro _ rfl; exact ((hat249 0 _ rfl).ext H.ext))) (fun a S => ?_)
        refine lx_buildSlice (r := rStr) (xs := [x245]) (ps := [(0, [(sv x245)])]) (cs := [(sv x245)]) (parts := [(0, .tmp 58)]) S trivial (by decide) rfl (H.put0 (A := eA) rfl) rfl Tryz.underlying22 Tryz.sizeOf9 Tryz.zeroValue9 (by decide) ⟨rfl, rfl, Nat.le_of_ble_eq_true rfl, trivial⟩ (by intro zs hz; exact fill_dense hz ⟨rfl, trivial⟩ rfl rfl) rfl (by decide) (fun w F hA => by cases (show F = [] from hA); exact ⟨_, _, [(sv x245)], _, rfl, rfl, ⟨rfl, rfl⟩, ⟨rfl, rfl⟩⟩) (fun v250 w251 H => ⟨trivial, fun a S => ?_⟩)
        obtain ⟨x253, e254, hm⟩ := bind_some hm
        obtain ⟨hle, hap⟩ := app_some e254
        replace hap := hap.symm
        subst hap
        have H : Heap w0 [oA (rList rStr) v250 [x245], bA b49 [(.int .i64 a0.1), (.int .i64 a0.2.1), v33, v35] 31, bA b52 [(.int .i64 (0 : Int)), (.int .i64 (0 : Int)), (.slice none 0 0), (.slice none 0 0)] 31, oA (rList rStr) v135 xs136] w251 := H.front 0 rfl
        have H : Heap w0 [oA (rList rStr) v135 xs136, oA (rList rStr) v250 [x245], bA b49 [(.int .i64 a0.1), (.int .i64 a0.2.1), v33, v35] 31, bA b52 [(.int .i64 (0 : Int)), (.int .i64 (0 : Int)), (.slice none 0 0), (.slice none 0 0)] 31] w251 := H.front 3 rfl
        refine lx_appendOwn (r := rStr) S trivial (by decide) rfl H rfl rfl Tryz.underlying22 Tryz.ti9 rfl rfl rfl (Nat.le_of_ble_eq_true rfl) (by decide) hle (fun v255 w256 H => ⟨trivial, fun a S => ?_⟩)
        refine lq v255 S (q_assign rfl) fun a S => ?_
        refine lx_nil ?_
        refine inBlock_norm ?_
        have H : Heap w0 [bA b52 [(.int .i64 (0 : Int)), (.int .i64 (0 : Int)), (.slice none 0 0), (.slice none 0 0)] 31, oA (rList rStr) v255 (xs136 ++ [x245]), bA b49 [(.int .i64 a0.1), (.int .i64 a0.2.1), v33, v35] 31] w256 := H.front 2 rfl
        have H : Heap w0 [bA b49 [(.int .i64 a0.1), (.int .i64 a0.2.1), v33, v35] 31, bA b52 [(.int .i64 (0 : Int)), (.int .i64 (0 : Int)), (.slice none 0 0), (.slice none 0 0)] 31, oA (rList rStr) v255 (xs136 ++ [x245])] w256 := H.front 2 rfl
        exact ⟨(xs136 ++ [x245]), v255, S.sub ⟨rfl, rfl, rfl, rfl, rfl, rfl, trivial⟩, H, hm⟩
     ·have hm := ite_f hc211 hm
      refine wp_exit ?_
      refine then_exit ?_
      refine then_exit ?_
      refine inBlock_exit ?_
      obtain rfl := it_brk hm hc210
      exact ⟨xs136, v135, S.sub ⟨rfl, rfl, rfl, trivial⟩, H, rfl⟩

/-- impl.LabelText -/
def impl_LabelText_m (fuel : Nat) (a0 : Str) (a1 : (List Int)) : Option (Str) :=
  (impl_labelOf_m fuel a0 a1).bind fun x33 => (if (!x33.2) = true then some (([] : Str)) else some (x33.1))
set_option maxRecDepth 20000 in
theorem impl_LabelText_ok {w0 : World} {fuel : Nat} {p1 : Value} {a0 : Str} {a1 : (List Int)} {r : Str} (hG : Glob Tryz.prog w0) (h1 : Rd (rList (rInt .i64)) w0 p1 a1) (hm : impl_LabelText_m fuel a0 a1 = some r) :
  Calls Tryz.prog 42 #[sv a0, p1] w0 fun e w => e = .returned (sv r) ∧ Heap w0 [] w := by
 unfold impl_LabelText_m at hm
 have H := Heap.start w0
 refine enter (args := [sv a0, p1]) Tryz.func42 rfl 16 rfl (Nat.le_of_ble_eq_true rfl) (fun a S => ?_)
 refine wp_seq (region_plain ?_)
 refine lq (sv ([] : Str)) S (q_assign rfl) fun a S => ?_
 refine lx_nil (thenN ?_)
 refine wp_seq (region_plain ?_)
 refine lq (sv a0) S (q_move rfl) fun a S => ?_
 refine lq p1 S (q_move rfl) fun a S => ?_
 obtain ⟨x33, e34, hm⟩ := bind_some hm
 refine lx_call (xs := [.tmp 8, .tmp 9]) S trivial (by decide) rfl rfl Tryz.call71 ((impl_labelOf_ok (hG.ext H.ext)  (H.arg h1) e34).mono ?_)
 rintro e w31 ⟨rfl, Hc32⟩
 have H := H.call0 Hc32
 refine ⟨_, rfl, trivial, fun a S => ?_⟩
 refine lq (.tuple #[(sv x33.1), (.bool x33.2)]) S (q_move rfl) fun a S => ?_
 refine lq (sv x33.1) S (q_extract rfl rfl) fun a S => ?_
 refine lq (.bool x33.2) S (q_extract rfl rfl) fun a S => ?_
 refine lq (sv x33.1) S (q_assign rfl) fun a S => ?_
 refine lq (.bool x33.2) S (q_assign rfl) fun a S => ?_
 refine lx_nil (thenN ?_)
 refine wp_seq (wp_seq (region_plain ?_))
 refine lq (.bool x33.2) S (q_move rfl) fun a S => ?_
 refine lq (.bool (!x33.2)) S (q_not rfl) fun a S => ?_
 refine lx_nil (thenN ?_)
 refine cond_b S rfl (fun hc36 => ?_) (fun hc36 => ?_)
 ·have hm := ite_t hc36 hm
  refine wp_seq (region_plain ?_)
  refine lq (sv ([] : Str)) S (q_assign rfl) fun a S => ?_
  refine lx_nil (thenN ?_)
  refine wp_ret (then_ret ?_)
  obtain rfl := Option.some.inj hm
  exact leave1 S rfl rfl ⟨rfl, H⟩
 ·have hm := ite_f hc36 hm
  refine wp_skip (thenN ?_)
  refine wp_seq (region_plain ?_)
  refine lq (sv x33.1) S (q_move rfl) fun a S => ?_
  refine lq (sv x33.1) S (q_assign rfl) fun a S => ?_
  refine lx_nil (thenN ?_)
  refine wp_ret ?_
  obtain rfl := Option.some.inj hm
  exact leave1 S rfl rfl ⟨rfl, H⟩

/-- impl.RenameLabels$1 -/
def impl_RenameLabels_1_m (fuel : Nat) (a0 : Str) (a1 : Str) (a2 : Str) : Option (Str) :=
  (impl_readLabel_m fuel a0).bind fun x39 => (if (x39.1 == a1) = true then (impl_LabelText_m fuel a2 x39.2.1).bind fun x47 => some (x47) else some (a0))
set_option maxRecDepth 20000 in
theorem impl_RenameLabels_1_ok {w0 : World} {fuel : Nat} {p1 p2 : Value} {a0 : Str} {a1 : Str} {a2 : Str} {r : Str} (hG : GlobE Tryz.prog w0) (h1 : Rd (rPtr rStr) w0 p1 a1) (h2 : Rd (rPtr rStr) w0 p2 a2) (hm : impl_RenameLabels_1_m fuel a0 a1 a2 = some r) :
  Calls Tryz.prog 40 #[sv a0, p1, p2] w0 fun e w => e = .returned (sv r) ∧ Heap w0 [] w := by
 unfold impl_RenameLabels_1_m at hm
 have H := Heap.start w0
 obtain ⟨c31, h32, hat33⟩ := h1.ptr
 obtain rfl := h32
 obtain ⟨c34, h35, hat36⟩ := h2.ptr
 obtain rfl := h35
 refine enter (args := [sv a0, p1, p2]) Tryz.func40 rfl 21 rfl (Nat.le_of_ble_eq_true rfl) (fun a S => ?_)
 refine wp_seq (region_plain ?_)
 refine lq (sv ([] : Str)) S (q_assign rfl) fun a S => ?_
 refine lx_nil (thenN ?_)
 refine wp_seq (wp_seq (region_plain ?_))
 refine lq (sv a0) S (q_move rfl) fun a S => ?_
 obtain ⟨x39, e40, hm⟩ := bind_some hm
 refine lx_call (xs := [.tmp 9]) S trivial (by decide) rfl rfl Tryz.call41 ((impl_readLabel_ok (hG.ext H.ext)  e40).mono ?_)
 rintro e w37 ⟨v41, rfl, Hc38⟩
 have H := H.call1 Hc38
 refine ⟨_, rfl, trivial, fun a S => ?_⟩
 refine lq (.tuple #[(sv x39.1), v41, (.bool x39.2.2)]) S (q_move rfl) fun a S => ?_
 refine lq (sv x39.1) S (q_extract rfl rfl) fun a S => ?_
 refine lq v41 S (q_extract rfl rfl) fun a S => ?_
 refine lq (.bool x39.2.2) S (q_extract rfl rfl) fun a S => ?_
 refine lq (sv x39.1) S (q_assign rfl) fun a S => ?_
 refine lq v41 S (q_assign rfl) fun a S => ?_
 refine lq (.bool x39.2.2) S (q_assign rfl) fun a S => ?_
 refine lx_nil (thenN ?_)
 refine wp_seq (region_plain ?_)
 refine lq (sv x39.1) S (q_move rfl) fun a S => ?_
 refine lx_e (sv a1) S trivial (by decide) rfl trivial (q_load1 rfl Tryz.isAgg9 (by rintro _ rfl; exact ((hat33 0 _ rfl).ext H.ext))) (fun a S => ?_)
 refine lq (.bool (x39.1 == a1)) S (q_seql rfl rfl) fun a S => ?_
 refine lx_nil (thenN ?_)
 refine cond_b S rfl (fun hc44 => ?_) (fun hc44 => ?_)
 ·have hm := ite_t hc44 hm
  refine wp_seq (region_plain ?_)
  refine lx_e (sv a2) S trivial (by decide) rfl trivial (q_load1 rfl Tryz.isAgg9 (by rintro _ rfl; exact ((hat36 0 _ rfl).ext H.ext))) (fun a S => ?_)
  refine lq v41 S (q_move rfl) fun a S => ?_
  obtain ⟨x47, e48, hm⟩ := bind_some hm
  refine lx_call (xs := [.tmp 17, .tmp 18]) S trivial (by decide) rfl rfl Tryz.call42 ((impl_LabelText_ok (hG.ext H.ext).toGlob  (H.rdAt 0 rfl) e48).mono ?_)
  rintro e w45 ⟨rfl, Hc46⟩
  have H := H.call0 Hc46
  refine ⟨_, rfl, trivial, fun a S => ?_⟩
  refine lq (sv x47) S (q_assign rfl) fun a S => ?_
  refine lx_nil (thenN ?_)
  refine wp_ret (then_ret ?_)
  obtain rfl := Option.some.inj hm
  have H : Heap w0 [] w45 := H.sel [] (by decide)
  exact leave1 S rfl rfl ⟨rfl, H⟩
 ·have hm := ite_f hc44 hm
  refine wp_skip (thenN ?_)
  refine wp_seq (region_plain ?_)
  refine lq (sv a0) S (q_move rfl) fun a S => ?_
  refine lq (sv a0) S (q_assign rfl) fun a S => ?_
  refine lx_nil (thenN ?_)
  refine wp_ret ?_
  obtain rfl := Option.some.inj hm
  have H : Heap w0 [] w37 := H.sel [] (by decide)
  exact leave1 S rfl rfl ⟨rfl, H⟩

/-- (impl.Lts).relabel -/
def impl_Lts_relabel_m (fuel : Nat) (a0 : Timpl_Lts) (a1 : (Str → Option Str)) : Option (Timpl_Lts) :=
  (iter (fun (s : (List Str) × (Int)) => (match s with | (xs82, x84) => (if (decide (x84 < (a0.2.2.1.length : Int))) = true then (idx a0.2.2.1 x84).bind fun x239 => (a1 x239).bind fun x248 => (app xs82 [x248]).bind fun x254 => some (.inl (x254, (W (x84 + (1 : Int))))) else some (.inr (.inl (xs82)))) : Option (((List Str) × (Int)) ⊕ (((List Str)) ⊕ (Timpl_Lts))))) fuel ([], (0 : Int))).bind fun res113 => ctl (β := (List Str)) (ρ := Timpl_Lts) (τ := Timpl_Lts) res113 (fun (xs111) => (impl_Lts_arcs_m fuel (a0.1, a0.2.1, a0.2.2.1, a0.2.2.2)).bind fun x120 => (iter (fun (s : (List Timpl_arc) × (Int)) => (match s with | (xs155, x156) => (if (decide (x156 < (x120.length : Int))) = true then (idx xs155 x156).bind fun x207 => (a1 x207.2.1).bind fun x228 => (idx xs155 x156).bind fun x231 => some (.inl ((xs155.set x156.toNat (x231.1, x228, x231.2.2)), (W (x156 + (1 : Int))))) else some (.inr (.inl (xs155)))) : Option (((List Timpl_arc) × (Int)) ⊕ (((List Timpl_arc)) ⊕ (Timpl_Lts))))) fuel (x120, (0 : Int))).bind fun res188 => ctl (β := (List Timpl_arc)) (ρ := Timpl_Lts) (τ := Timpl_Lts) res188 (fun (xs187) => (impl_lts_m fuel a0.1 a0.2.1 xs111 xs187).bind fun x195 => some ((x195.1, x195.2.1, x195.2.2.1, x195.2.2.2))) (fun q => some (q))) (fun q => some (q))
set_option maxRecDepth 20000 in
theorem impl_Lts_relabel_ok [dr : Dr] {w0 : World} {fuel : Nat} {p0 : Value} {a0 : Timpl_Lts} {a1 : (Str → Option Str)} {f1 : Nat} {fs1 cp1 : List Value} {r : Timpl_Lts} (h0 : Rd Rimpl_Lts w0 p0 a0) (hcf1 : ∀ args w, (callFunc f1 args).run Tryz.prog w = .ok (.enter f1 args) w) (hf1 : ∀ {w : World} {x0_ : Str} {y : Str}, Ext w0 w → a1 x0_ = some y → Calls Tryz.prog f1 (fs1 ++ ([sv x0_] : List Value) ++ cp1).toArray w fun e w' => e = .returned (sv y) ∧ Heap w [] w') (hm : impl_Lts_relabel_m fuel a0 a1 = some r) :
  Calls Tryz.prog 39 #[p0, .func (.func f1) fs1.toArray cp1.toArray] w0 fun e w => ∃ (v0 : Value) (v1 : Value), e = .returned (.agg #[.int .i64 r.1, .int .i64 r.2.1, v0, v1]) ∧ Heap w0 [oA (rList rStr) v0 r.2.2.1, oA (rList Rimpl_Edge) v1 r.2.2.2] w := by
 unfold impl_Lts_relabel_m at hm
 have H := Heap.start w0
 obtain ⟨c31, rfl, h32⟩ := h0
 obtain ⟨c37, c38, rfl, h39, h40⟩ := h32
 obtain rfl := h39
 obtain ⟨c41, c42, rfl, h43, h44⟩ := h40
 obtain rfl := h43
 obtain ⟨c45, c46, rfl, h47, h48⟩ := h44
 obtain ⟨v33, rfl, h34⟩ := rd_list h47
 obtain ⟨v35, rfl, h36⟩ := rd_list h48
 refine enter (args := [(.agg #[(.int .i64 a0.1), (.int .i64 a0.2.1), v33, v35]), .func (.func f1) fs1.toArray cp1.toArray]) Tryz.func39 rfl 50 rfl (Nat.le_of_ble_eq_true rfl) (fun a S => ?_)
 refine wp_seq (region_plain ?_)
 refine lx_box S trivial (by decide) rfl H rfl rfl (fun b49 w50 H => ⟨trivial, fun a S => ?_⟩)
 refine lx_alloc S trivial (by decide) rfl H Tryz.zeroValue31 rfl (fun b52 w53 H => ⟨trivial, fun a S => ?_⟩)
 refine lx_nil (thenN ?_)
 refine wp_seq (region_plain ?_)
 refine lq (.slice none 0 0) S (q_assign rfl) fun a S => ?_
 refine lx_nil (thenN ?_)
 refine wp_seq (wp_seq (region_plain ?_))
 refine lq (pAdd (bp b49) 2) S (q_fieldAddr' 2 22 rfl (isP_bp _) Tryz.underlying31 rfl Tryz.sizeOf22) fun a S => ?_
 refine lx_e v33 S trivial (by decide) rfl trivial (q_load1 rfl Tryz.isAgg22 (by rintro _ rfl; exact (At.of_add (m := 2) (j := 0) (boxAt (i := 1) H rfl (j := 2) rfl)))) (fun a S => ?_)
 refine lq (.int .i64 (a0.2.2.1.length : Int)) S (q_lenSl rfl (h34).isSl rfl Tryz.underlying22) fun a S => ?_
 refine lq (.int .i64 (0 : Int)) S (q_move rfl) fun a S => ?_
 refine lx_nil (thenN ?_)
 obtain ⟨res113, hit114, hk117⟩ := bind_some hm
 obtain ⟨f115, hf116, hit114⟩ := iter_name hit114
 refine block_loop (fun a w => ∃ (xs111 : List Str) (v110 : Value), Slots a 50 [(1, (.func (.func f1) fs1.toArray cp1.toArray)), (2, (bp b49)), (4, (bp b52)), (5, v110)] ∧ Heap w0 [bA b49 [(.int .i64 a0.1), (.int .i64 a0.2.1), v33, v35] 31, bA b52 [(.int .i64 (0 : Int)), (.int .i64 (0 : Int)), (.slice none 0 0), (.slice none 0 0)] 31, oA (rList rStr) v110 xs111] w ∧ res113 = .inl (xs111)) ?_ ?_
 ·rintro a w ⟨xs111, v110, S, H, rfl⟩
  have hm := ctl_inl hk117
  refine thenN ?_
  refine wp_seq (region_plain ?_)
  refine lx_e (.agg #[(.int .i64 a0.1), (.int .i64 a0.2.1), v33, v35]) S trivial (by decide) rfl trivial (q_loadA (cs := [(.int .i64 a0.1), (.int .i64 a0.2.1), v33, v35]) rfl (isP_bp _) Tryz.isAgg31 Tryz.sizeOf31 (by rintro _ rfl; exact (fun j u hu => boxAt (i := 0) H rfl hu))) (fun a S => ?_)
  obtain ⟨x120, e121, hm⟩ := bind_some hm
  refine lx_call (xs := [.tmp 25]) S trivial (by decide) rfl rfl Tryz.call57 ((impl_Lts_arcs_ok ⟨[(.int .i64 a0.1), (.int .i64 a0.2.1), v33, v35], rfl, ⟨[(.int .i64 a0.1)], [(.int .i64 a0.2.1), v33, v35], rfl, rfl, ⟨[(.int .i64 a0.2.1)], [v33, v35], rfl, rfl, ⟨[v33], [v35], rfl, ((H.arg h34)).list_rd, ((H.arg h36)).list_rd⟩⟩⟩⟩ e121).mono ?_)
  rintro e w118 ⟨v122, rfl, Hc119⟩
  have H := H.call1 Hc119
  refine ⟨_, rfl, trivial, fun a S => ?_⟩
  refine lq v122 S (q_assign rfl) fun a S => ?_
  refine lx_nil (thenN ?_)
  refine wp_seq (wp_seq (region_plain ?_))
  refine lq v122 S (q_move rfl) fun a S => ?_
  refine lq (.int .i64 (x120.length : Int)) S (q_lenSl rfl (H.isSl 0 rfl) rfl Tryz.underlying81) fun a S => ?_
  refine lq (.int .i64 (0 : Int)) S (q_move rfl) fun a S => ?_
  refine lx_nil (thenN ?_)
  obtain ⟨res188, hit189, hk192⟩ := bind_some hm
  obtain ⟨f190, hf191, hit189⟩ := iter_name hit189
  refine block_loop (fun a w => ∃ (xs187 : List Timpl_arc), Slots a 50 [(2, (bp b49)), (4, (bp b52)), (5, v110), (8, v122)] ∧ Heap w0 [bA b49 [(.int .i64 a0.1), (.int .i64 a0.2.1), v33, v35] 31, bA b52 [(.int .i64 (0 : Int)), (.int .i64 (0 : Int)), (.slice none 0 0), (.slice none 0 0)] 31, oA (rList rStr) v110 xs111, oA (rList Rimpl_arc) v122 xs187] w ∧ res188 = .inl (xs187)) ?_ ?_
  ·rintro a w ⟨xs187, S, H, rfl⟩
   have hm := ctl_inl hk192
   refine thenN ?_
   refine wp_seq (region_plain ?_)
   refine lq (pAdd (bp b49) 0) S (q_fieldAddr' 0 2 rfl (isP_bp _) Tryz.underlying31 rfl Tryz.sizeOf2) fun a S => ?_
   refine lx_e (.int .i64 a0.1) S trivial (by decide) rfl trivial (q_load1 rfl Tryz.isAgg2 (by rintro _ rfl; exact (At.of_add (m := 0) (j := 0) (boxAt (i := 0) H rfl (j := 0) rfl)))) (fun a S => ?_)
   refine lq (pAdd (bp b49) 1) S (q_fieldAddr' 1 2 rfl (isP_bp _) Tryz.underlying31 rfl Tryz.sizeOf2) fun a S => ?_
   refine lx_e (.int .i64 a0.2.1) S trivial (by decide) rfl trivial (q_load1 rfl Tryz.isAgg2 (by rintro _ rfl; exact (At.of_add (m := 1) (j := 0) (boxAt (i := 0) H rfl (j := 1) rfl)))) (fun a S => ?_)
   refine lq v110 S (q_move rfl) fun a S => ?_
   refine lq v122 S (q_move rfl) fun a S => ?_
   obtain ⟨x195, e196, hm⟩ := bind_some hm
   refine lx_call (xs := [.tmp 44, .tmp 46, .tmp 47, .tmp 48]) S trivial (by decide) rfl rfl Tryz.call58 ((impl_lts_ok   (H.rdAt 2 rfl) (H.rdAt 3 rfl) e196).mono ?_)
   rintro e w193 ⟨v197, v198, rfl, Hc194⟩
   have H := H.call2 Hc194
   refine ⟨_, rfl, trivial, fun a S => ?_⟩
   refine lx_storeBox (o := 0) (i := 3) (us := [(.int .i64 x195.1), (.int .i64 x195.2.1), v197, v198]) (cs' := [(.int .i64 x195.1), (.int .i64 x195.2.1), v197, v198]) S trivial rfl H rfl rfl rfl rfl Tryz.sizeOf31 (Nat.le_of_ble_eq_true rfl) (List.forall_mem_cons.2 ⟨rfl, (List.forall_mem_cons.2 ⟨rfl, (List.forall_mem_cons.2 ⟨one_sl (H.isSl 0 rfl), (List.forall_mem_cons.2 ⟨one_sl (H.isSl 1 rfl), (List.forall_mem_nil _)⟩)⟩)⟩)⟩) rfl (fun w202 H => ⟨trivial, fun a S => ?_⟩)
   change Heap w0 [oA (rList rStr) v197 x195.2.2.1, oA (rList Rimpl_Edge) v198 x195.2.2.2, bA b49 [(.int .i64 a0.1), (.int .i64 a0.2.1), v33, v35] 31, bA b52 [(.int .i64 x195.1), (.int .i64 x195.2.1), v197, v198] 31, oA (rList rStr) v110 xs111, oA (rList Rimpl_arc) v122 xs187] w202 at H
   refine lx_nil (thenN ?_)
   refine wp_ret ?_
   have hrv0 := RV.cellA (t := 31) (q := 4) (env := [(2, (bp b49)), (4, (bp b52)), (5, v110), (8, v122), (43, (pAdd (bp b49) 0)), (44, (.int .i64 a0.1)), (45, (pAdd (bp b49) 1)), (46, (.int .i64 a0.2.1)), (47, v110), (48, v122), (49, (.agg #[(.int .i64 x195.1), (.int .i64 x195.2.1), v197, v198]))]) H (i := 3) rfl rfl Tryz.isAgg31 Tryz.sizeOf31
   obtain rfl := Option.some.inj hm
   have H : Heap w0 [oA (rList rStr) v197 x195.2.2.1, oA (rList Rimpl_Edge) v198 x195.2.2.2] w202 := H.sel [0, 1] (by decide)
   exact leaveR1 S rfl hrv0 ⟨v197, v198, rfl, H⟩
  ·skip
   have H : Heap w0 [oA (rList rStr) v110 xs111, oA (rList Rimpl_arc) v122 x120, bA b49 [(.int .i64 a0.1), (.int .i64 a0.2.1), v33, v35] 31, bA b52 [(.int .i64 (0 : Int)), (.int .i64 (0 : Int)), (.slice none 0 0), (.slice none 0 0)] 31] w118 := H.front 3 rfl
   have H : Heap w0 [bA b52 [(.int .i64 (0 : Int)), (.int .i64 (0 : Int)), (.slice none 0 0), (.slice none 0 0)] 31, oA (rList rStr) v110 xs111, oA (rList Rimpl_arc) v122 x120, bA b49 [(.int .i64 a0.1), (.int .i64 a0.2.1), v33, v35] 31] w118 := H.front 3 rfl
   have H : Heap w0 [bA b49 [(.int .i64 a0.1), (.int .i64 a0.2.1), v33, v35] 31, bA b52 [(.int .i64 (0 : Int)), (.int .i64 (0 : Int)), (.slice none 0 0), (.slice none 0 0)] 31, oA (rList rStr) v110 xs111, oA (rList Rimpl_arc) v122 x120] w118 := H.front 3 rfl
   refine loop_ghost (fun n a w => ∃ (xs155 : List Timpl_arc) (x156 : Int), Slots a 50 [(1, (.func (.func f1) fs1.toArray cp1.toArray)), (2, (bp b49)), (4, (bp b52)), (5, v110), (8, v122), (27, v122), (28, (.int .i64 (x120.length : Int))), (29, (.int .i64 x156))] ∧ Heap w0 [bA b49 [(.int .i64 a0.1), (.int .i64 a0.2.1), v33, v35] 31, bA b52 [(.int .i64 (0 : Int)), (.int .i64 (0 : Int)), (.slice none 0 0), (.slice none 0 0)] 31, oA (rList rStr) v110 xs111, oA (rList Rimpl_arc) v122 xs155] w ∧ iter f190 n (xs155, x156) = some res188) _ ⟨x120, (0 : Int), S.sub ⟨rfl, rfl, rfl, rfl, rfl, rfl, rfl, rfl, trivial⟩, H, hit189⟩ ?_
   rintro n a w ⟨xs155, x156, S, H, hit189⟩
   obtain ⟨m203, o204, rfl, hm, hc205⟩ := iter_step hit189
   rw [hf191] at hm
   refine wp_seq (region_plain ?_)
   refine lq (.bool (decide (x156 < (x120.length : Int)))) S (q_lss rfl rfl) fun a S => ?_
   refine lx_nil (thenN ?_)
   refine wp_seq ?_
   refine cond_b S rfl (fun hc206 => ?_) (fun hc206 => ?_)
   ·have hm := ite_t hc206 hm
    refine wp_skip (thenN ?_)
    refine wp_seq ?_
    refine wp_block ?_
    refine wp_seq (region_plain ?_)
    refine lq (.int .i64 x156) S (q_move rfl) fun a S => ?_
    obtain ⟨x207, e208, hm⟩ := bind_some hm
    have hlt := lt_of_idx (idx_some e208).2
    refine lq (ePtr v122 (x156.toNat * 3)) S (q_indexAddr rfl (H.isSl 3 rfl) rfl (idx_some e208).1 hlt Tryz.underlying81 Tryz.sizeOf90) fun a S => ?_
    obtain ⟨c209, h210, hat211⟩ := (H.rdAt 3 rfl).elem (idx_some e208).2
    obtain ⟨c212, c213, rfl, h214, h215⟩ := h210
    obtain rfl := h214
    obtain ⟨c216, c217, rfl, h218, h219⟩ := h215
    obtain rfl := h218
    obtain rfl := h219
    refine lx_e (.agg #[(.int .i64 x207.1), (sv x207.2.1), (.int .i64 x207.2.2)]) S trivial (by decide) rfl trivial (q_loadA (cs := [(.int .i64 x207.1), (sv x207.2.1), (.int .i64 x207.2.2)]) rfl (((H.isSl 3 rfl)).ptr (lt_of_idx (idx_some e208).2) _) Tryz.isAgg90 Tryz.sizeOf90 (by rintro _ rfl; exact (fun j u hu => hat211 j u hu))) (fun a S => ?_)
    refine lx_alloc S trivial (by decide) rfl H Tryz.zeroValue90 rfl (fun b220 w221 H => ⟨trivial, fun a S => ?_⟩)
    refine lq (.int .i64 x156) S (q_assign rfl) fun a S => ?_
    refine lx_storeBox (o := 0) (i := 0) (us := [(.int .i64 x207.1), (sv x207.2.1), (.int .i64 x207.2.2)]) (cs' := [(.int .i64 x207.1), (sv x207.2.1), (.int .i64 x207.2.2)]) S trivial rfl H rfl rfl rfl rfl Tryz.sizeOf90 (Nat.le_of_ble_eq_true rfl) (List.forall_mem_cons.2 ⟨rfl, (List.forall_mem_cons.2 ⟨rfl, (List.forall_mem_cons.2 ⟨rfl, (List.forall_mem_nil _)⟩)⟩)⟩) rfl (fun w223 H => ⟨trivial, fun a S => ?_⟩)
    change Heap w0 [bA b220 [(.int .i64 x207.1), (sv x207.2.1), (.int .i64 x207.2.2)] 90, bA b49 [(.int .i64 a0.1), (.int .i64 a0.2.1), v33, v35] 31, bA b52 [(.int .i64 (0 : Int)), (.int .i64 (0 : Int)), (.slice none 0 0), (.slice none 0 0)] 31, oA (rList rStr) v110 xs111, oA (rList Rimpl_arc) v122 xs155] w223 at H
    refine lx_nil (thenN ?_)
    refine region_plain ?_
    refine lq v122 S (q_move rfl) fun a S => ?_
    refine lq (.int .i64 x156) S (q_move rfl) fun a S => ?_
    refine lq (.func (.func f1) fs1.toArray cp1.toArray) S (q_move rfl) fun a S => ?_
    refine lq (pAdd (bp b220) 1) S (q_fieldAddr' 1 9 rfl (isP_bp _) Tryz.underlying90 rfl Tryz.sizeOf9) fun a S => ?_
    refine lx_e (sv x207.2.1) S trivial (by decide) rfl trivial (q_load1 rfl Tryz.isAgg9 (by rintro _ rfl; exact (At.of_add (m := 1) (j := 0) (boxAt (i := 0) H rfl (j := 1) rfl)))) (fun a S => ?_)
    obtain ⟨x228, e229, hm⟩ := bind_some hm
    refine lx_callV (f := f1) (first := fs1) (cap := cp1) (xs := [.tmp 38]) S trivial (by decide) rfl rfl rfl hcf1 ((hf1 H.ext  e229).mono ?_)
    rintro e w226 ⟨rfl, Hc227⟩
    have H := H.call0 Hc227
    refine ⟨_, rfl, trivial, fun a S => ?_⟩
    obtain ⟨x231, e232, hm⟩ := bind_some hm
    have hlt := lt_of_idx (idx_some e232).2
    refine lq (ePtr v122 (x156.toNat * 3)) S (q_indexAddr rfl (H.isSl 4 rfl) rfl (idx_some e232).1 hlt Tryz.underlying81 Tryz.sizeOf90) fun a S => ?_
    refine lq (pAdd (ePtr v122 (x156.toNat * 3)) 1) S (q_fieldAddr' 1 9 rfl (((H.isSl 4 rfl)).ptr (lt_of_idx (idx_some e232).2) _) Tryz.underlying90 rfl Tryz.sizeOf9) fun a S => ?_
    have H : Heap w0 [oA (rList Rimpl_arc) v122 xs155, bA b220 [(.int .i64 x207.1), (sv x207.2.1), (.int .i64 x207.2.2)] 90, bA b49 [(.int .i64 a0.1), (.int .i64 a0.2.1), v33, v35] 31, bA b52 [(.int .i64 (0 : Int)), (.int .i64 (0 : Int)), (.slice none 0 0), (.slice none 0 0)] 31, oA (rList rStr) v110 xs111] w226 := H.front 4 rfl
    refine lx_storeElem (r := Rimpl_arc) (us := [(sv x228)]) (off := 1) (e' := (x231.1, x228, x231.2.2)) S trivial rfl H.putE rfl rfl (idx_some e232).2 rfl Tryz.sizeOf9 (Nat.le_of_ble_eq_true rfl) (List.forall_mem_cons.2 ⟨rfl, (List.forall_mem_nil _)⟩) (Upd.snd (off := 0) (Upd.fst (off := 0) (Nat.le_of_ble_eq_true rfl) (Upd.full rfl (fun w G hG => by cases (show G = [] from hG); exact ⟨rfl, rfl⟩)))) (fun w233 H => ⟨trivial, fun a S => ?_⟩)
    refine lx_nil ?_
    refine inBlock_norm ?_
    refine thenN ?_
    refine region_plain ?_
    refine lq (.int .i64 (W (x156 + (1 : Int)))) S (q_add rfl rfl) fun a S => ?_
    refine lq (.int .i64 (W (x156 + (1 : Int)))) S (q_move rfl) fun a S => ?_
    refine lx_nil ?_
    have H : Heap w0 [oA (rList rStr) v110 xs111, oA (rList Rimpl_arc) v122 (xs155.set x156.toNat (x231.1, x228, x231.2.2)), bA b220 [(.int .i64 x207.1), (sv x207.2.1), (.int .i64 x207.2.2)] 90, bA b49 [(.int .i64 a0.1), (.int .i64 a0.2.1), v33, v35] 31, bA b52 [(.int .i64 (0 : Int)), (.int .i64 (0 : Int)), (.slice none 0 0), (.slice none 0 0)] 31] w233 := H.front 4 rfl
    have H : Heap w0 [bA b52 [(.int .i64 (0 : Int)), (.int .i64 (0 : Int)), (.slice none 0 0), (.slice none 0 0)] 31, oA (rList rStr) v110 xs111, oA (rList Rimpl_arc) v122 (xs155.set x156.toNat (x231.1, x228, x231.2.2)), bA b220 [(.int .i64 x207.1), (sv x207.2.1), (.int .i64 x207.2.2)] 90, bA b49 [(.int .i64 a0.1), (.int .i64 a0.2.1), v33, v35] 31] w233 := H.front 4 rfl
    have H : Heap w0 [bA b49 [(.int .i64 a0.1), (.int .i64 a0.2.1), v33, v35] 31, bA b52 [(.int .i64 (0 : Int)), (.int .i64 (0 : Int)), (.slice none 0 0), (.slice none 0 0)] 31, oA (rList rStr) v110 xs111, oA (rList Rimpl_arc) v122 (xs155.set x156.toNat (x231.1, x228, x231.2.2)), bA b220 [(.int .i64 x207.1), (sv x207.2.1), (.int .i64 x207.2.2)] 90] w233 := H.front 4 rfl
    have H : Heap w0 [bA b49 [(.int .i64 a0.1), (.int .i64 a0.2.1), v33, v35] 31, bA b52 [(.int .i64 (0 : Int)), (.int .i64 (0 : Int)), (.slice none 0 0), (.slice none 0 0)] 31, oA (rList rStr) v110 xs111, oA (rList Rimpl_arc) v122 (xs155.set x156.toNat (x231.1, x228, x231.2.2))] w233 := H.sel [0, 1, 2, 3] (by decide)
    exact ⟨m203, Nat.lt_succ_self _, (xs155.set x156.toNat (x231.1, x228, x231.2.2)), (W (x156 + (1 : Int))), S.sub ⟨rfl, rfl, rfl, rfl, rfl, rfl, rfl, rfl, trivial⟩, H, it_cont hm hc205⟩
   ·have hm := ite_f hc206 hm
    refine wp_exit ?_
    refine then_exit ?_
    refine then_exit ?_
    refine inBlock_exit ?_
    obtain rfl := it_brk hm hc205
    exact ⟨xs155, S.sub ⟨rfl, rfl, rfl, rfl, trivial⟩, H, rfl⟩
 ·skip
  have H : Heap w0 [oA (rList rStr) (.slice none 0 0) ([] : List Str), bA b52 [(.int .i64 (0 : Int)), (.int .i64 (0 : Int)), (.slice none 0 0), (.slice none 0 0)] 31, bA b49 [(.int .i64 a0.1), (.int .i64 a0.2.1), v33, v35] 31] w53 := H.nilList rStr
  have H : Heap w0 [bA b52 [(.int .i64 (0 : Int)), (.int .i64 (0 : Int)), (.slice none 0 0), (.slice none 0 0)] 31, oA (rList rStr) (.slice none 0 0) ([] : List Str), bA b49 [(.int .i64 a0.1), (.int .i64 a0.2.1), v33, v35] 31] w53 := H.front 1 rfl
  have H : Heap w0 [bA b49 [(.int .i64 a0.1), (.int .i64 a0.2.1), v33, v35] 31, bA b52 [(.int .i64 (0 : Int)), (.int .i64 (0 : Int)), (.slice none 0 0), (.slice none 0 0)] 31, oA (rList rStr) (.slice none 0 0) ([] : List Str)] w53 := H.front 2 rfl
  refine loop_ghost (fun n a w => ∃ (xs82 : List Str) (x84 : Int) (v81 : Value), Slots a 50 [(1, (.func (.func f1) fs1.toArray cp1.toArray)), (2, (bp b49)), (4, (bp b52)), (5, v81), (12, v33), (13, (.int .i64 (a0.2.2.1.length : Int))), (14, (.int .i64 x84))] ∧ Heap w0 [bA b49 [(.int .i64 a0.1), (.int .i64 a0.2.1), v33, v35] 31, bA b52 [(.int .i64 (0 : Int)), (.int .i64 (0 : Int)), (.slice none 0 0), (.slice none 0 0)] 31, oA (rList rStr) v81 xs82] w ∧ iter f115 n (xs82, x84) = some res113) _ ⟨[], (0 : Int), (.slice none 0 0), S.sub ⟨rfl, rfl, rfl, rfl, rfl, rfl, rfl, trivial⟩, H, hit114⟩ ?_
  rintro n a w ⟨xs82, x84, v81, S, H, hit114⟩
  obtain ⟨m235, o236, rfl, hm, hc237⟩ := iter_step hit114
  rw [hf116] at hm
  refine wp_seq (region_plain ?_)
  refine lq (.bool (decide (x84 < (a0.2.2.1.length : Int)))) S (q_lss rfl rfl) fun a S => ?_
  refine lx_nil (thenN ?_)
  refine wp_seq ?_
  refine cond_b S rfl (fun hc238 => ?_) (fun hc238 => ?_)
  ·have hm := ite_t hc238 hm
   refine wp_skip (thenN ?_)
   refine wp_seq ?_
   refine wp_block ?_
   refine wp_seq (region_plain ?_)
   obtain ⟨x239, e240, hm⟩ := bind_some hm
   obtain ⟨c241, h242, hat243⟩ := (h34).elem (idx_some e240).2
   obtain rfl := h242
   have hlt := lt_of_idx (idx_some e240).2
   refine lq (ePtr v33 (x84.toNat * 1)) S (q_indexAddr rfl (h34).isSl rfl (idx_some e240).1 hlt Tryz.underlying22 Tryz.sizeOf9) fun a S => ?_
   refine lx_e (sv x239) S trivial (by decide) rfl trivial (q_load1 rfl Tryz.isAgg9 (by rintro _ rfl; exact ((hat243 0 _ rfl).ext H.ext))) (fun a S => ?_)
   refine lq (sv x239) S (q_assign rfl) fun a S => ?_
   refine lx_nil (thenN ?_)
   refine region_plain ?_
   refine lq v81 S (q_move rfl) fun a S => ?_
   refine lq (.func (.func f1) fs1.toArray cp1.toArray) S (q_move rfl) fun a S => ?_
   refine lq (sv x239) S (q_move rfl) fun a S => ?_
   obtain ⟨x248, e249, hm⟩ := bind_some hm
   refine lx_callV (f := f1) (first := fs1) (cap := cp1) (xs := [.tmp 20]) S trivial (by decide) rfl rfl rfl hcf1 ((hf1 H.ext  e249).mono ?_)
   rintro e w246 ⟨rfl, Hc247⟩
   have H := H.call0 Hc247
   refine ⟨_, rfl, trivial, fun a S => ?_⟩
   refine lx_buildSlice (r := rStr) (xs := [x248]) (ps := [(0, [(sv x248)])]) (cs := [(sv x248)]) (parts := [(0, .tmp 21)]) S trivial (by decide) rfl (H.put0 (A := eA) rfl) rfl Tryz.underlying22 Tryz.sizeOf9 Tryz.zeroValue9 (by decide) ⟨rfl, rfl, Nat.le_of_ble_eq_true rfl, trivial⟩ (by intro zs hz; exact fill_dense hz ⟨rfl, trivial⟩ rfl rfl) rfl (by decide) (fun w F hA => by cases (show F = [] from hA); exact ⟨_, _, [(sv x248)], _, rfl, rfl, ⟨rfl, rfl⟩, ⟨rfl, rfl⟩⟩) (fun v251 w252 H => ⟨trivial, fun a S => ?_⟩)
   obtain ⟨x254, e255, hm⟩ := bind_some hm
   obtain ⟨hle, hap⟩ := app_some e255
   replace hap := hap.symm
   subst hap
   have H : Heap w0 [oA (rList rStr) v251 [x248], bA b49 [(.int .i64 a0.1), (.int .i64 a0.2.1), v33, v35] 31, bA b52 [(.int .i64 (0 : Int)), (.int .i64 (0 : Int)), (.slice none 0 0), (.slice none 0 0)] 31, oA (rList rStr) v81 xs82] w252 := H.front 0 rfl
   have H : Heap w0 [oA (rList rStr) v81 xs82, oA (rList rStr) v251 [x248], bA b49 [(.int .i64 a0.1), (.int .i64 a0.2.1), v33, v35] 31, bA b52 [(.int .i64 (0 : Int)), (.int .i64 (0 : Int)), (.slice none 0 0), (.slice none 0 0)] 31] w252 := H.front 3 rfl
   refine lx_appendOwn (r := rStr) S trivial (by decide) rfl H rfl rfl Tryz.underlying22 Tryz.ti9 rfl rfl rfl (Nat.le_of_ble_eq_true rfl) (by decide) hle (fun v256 w257 H => ⟨trivial, fun a S => ?_⟩)
   refine lq v256 S (q_assign rfl) fun a S => ?_
   refine lx_nil ?_
   refine inBlock_norm ?_
   refine thenN ?_
   refine region_plain ?_
   refine lq (.int .i64 (W (x84 + (1 : Int)))) S (q_add rfl rfl) fun a S => ?_
   refine lq (.int .i64 (W (x84 + (1 : Int)))) S (q_move rfl) fun a S => ?_
   refine lx_nil ?_
   have H : Heap w0 [bA b52 [(.int .i64 (0 : Int)), (.int .i64 (0 : Int)), (.slice none 0 0), (.slice none 0 0)] 31, oA (rList rStr) v256 (xs82 ++ [x248]), bA b49 [(.int .i64 a0.1), (.int .i64 a0.2.1), v33, v35] 31] w257 := H.front 2 rfl
   have H : Heap w0 [bA b49 [(.int .i64 a0.1), (.int .i64 a0.2.1), v33, v35] 31, bA b52 [(.int .i64 (0 : Int)), (.int .i64 (0 : Int)), (.slice none 0 0), (.slice none 0 0)] 31, oA (rList rStr) v256 (xs82 ++ [x248])] w257 := H.front 2 rfl
   exact ⟨m235, Nat.lt_succ_self _, (xs82 ++ [x248]), (W (x84 + (1 : Int))), v256, S.sub ⟨rfl, rfl, rfl, rfl, rfl, rfl, rfl, trivial⟩, H, it_cont hm hc237⟩
  ·have hm := ite_f hc238 hm
   refine wp_exit ?_
   refine then_exit ?_
   refine then_exit ?_
   refine inBlock_exit ?_
   obtain rfl := it_brk hm hc237
   exact ⟨xs82, v81, S.sub ⟨rfl, rfl, rfl, rfl, trivial⟩, H, rfl⟩

/-- impl.RenameLabels -/
def impl_RenameLabels_m (fuel : Nat) (a0 : Timpl_Lts) (a1 : Str) (a2 : Str) : Option ((Timpl_Lts × Int)) :=
  (impl_ValidLts_m fuel (a0.1, a0.2.1, a0.2.2.1, a0.2.2.2)).bind fun x63 => (if (!x63) = true then some ((((0 : Int), (0 : Int), [], []), (1 : Int))) else (impl_IsAction_m fuel a1).bind fun x72 => (if (!x72) = true then some true else (impl_IsAction_m fuel a2).bind fun x80 => some (!x80)).bind fun t75 => (if t75 = true then some ((((0 : Int), (0 : Int), [], []), (2 : Int))) else (impl_Lts_relabel_m fuel (a0.1, a0.2.1, a0.2.2.1, a0.2.2.2) (fun (z0 : Str) => impl_RenameLabels_1_m fuel z0 a1 a2)).bind fun x89 => some (((x89.1, x89.2.1, x89.2.2.1, x89.2.2.2), (0 : Int)))))
set_option maxRecDepth 20000 in
theorem impl_RenameLabels_ok {w0 : World} {fuel : Nat} {p0 : Value} {a0 : Timpl_Lts} {a1 : Str} {a2 : Str} {r : (Timpl_Lts × Int)} (hG : GlobE Tryz.prog w0) (h0 : Rd Rimpl_Lts w0 p0 a0) (hm : impl_RenameLabels_m fuel a0 a1 a2 = some r) :
  Calls Tryz.prog 16 #[p0, sv a1, sv a2] w0 fun e w => ∃ (v0 : Value) (v1 : Value), e = .returned (.tuple #[.agg #[.int .i64 r.1.1, .int .i64 r.1.2.1, v0, v1], .int .i64 r.2]) ∧ Heap w0 [oA (rList rStr) v0 r.1.2.2.1, oA (rList Rimpl_Edge) v1 r.1.2.2.2] w := by
 unfold impl_RenameLabels_m at hm
 have H := Heap.start w0
 obtain ⟨c31, rfl, h32⟩ := h0
 obtain ⟨c37, c38, rfl, h39, h40⟩ := h32
 obtain rfl := h39
 obtain ⟨c41, c42, rfl, h43, h44⟩ := h40
 obtain rfl := h43
 obtain ⟨c45, c46, rfl, h47, h48⟩ := h44
 obtain ⟨v33, rfl, h34⟩ := rd_list h47
 obtain ⟨v35, rfl, h36⟩ := rd_list h48
 refine enter (args := [(.agg #[(.int .i64 a0.1), (.int .i64 a0.2.1), v33, v35]), sv a1, sv a2]) Tryz.func16 rfl 26 rfl (Nat.le_of_ble_eq_true rfl) (fun a S => ?_)
 refine wp_seq (region_plain ?_)
 refine lx_box S trivial (by decide) rfl H rfl rfl (fun b49 w50 H => ⟨trivial, fun a S => ?_⟩)
 refine lx_box S trivial (by decide) rfl H rfl rfl (fun b52 w53 H => ⟨trivial, fun a S => ?_⟩)
 refine lx_box S trivial (by decide) rfl H rfl rfl (fun b55 w56 H => ⟨trivial, fun a S => ?_⟩)
 refine lx_alloc S trivial (by decide) rfl H Tryz.zeroValue31 rfl (fun b58 w59 H => ⟨trivial, fun a S => ?_⟩)
 refine lq (.int .i64 (0 : Int)) S (q_assign rfl) fun a S => ?_
 refine lx_nil (thenN ?_)
 refine wp_seq ?_
 refine wp_block ?_
 refine wp_seq (region_plain ?_)
 refine lx_e (.agg #[(.int .i64 a0.1), (.int .i64 a0.2.1), v33, v35]) S trivial (by decide) rfl trivial (q_loadA (cs := [(.int .i64 a0.1), (.int .i64 a0.2.1), v33, v35]) rfl (isP_bp _) Tryz.isAgg31 Tryz.sizeOf31 (by rintro _ rfl; exact (fun j u hu => boxAt (i := 3) H rfl hu))) (fun a S => ?_)
 obtain ⟨x63, e64, hm⟩ := bind_some hm
 refine lx_call (xs := [.tmp 9]) S trivial (by decide) rfl rfl Tryz.call29 ((impl_ValidLts_ok (hG.ext H.ext) ⟨[(.int .i64 a0.1), (.int .i64 a0.2.1), v33, v35], rfl, ⟨[(.int .i64 a0.1)], [(.int .i64 a0.2.1), v33, v35], rfl, rfl, ⟨[(.int .i64 a0.2.1)], [v33, v35], rfl, rfl, ⟨[v33], [v35], rfl, ((H.arg h34)).list_rd, ((H.arg h36)).list_rd⟩⟩⟩⟩ e64).mono ?_)
 rintro e w61 ⟨rfl, Hc62⟩
 have H := H.call0 Hc62
 refine ⟨_, rfl, trivial, fun a S => ?_⟩
 refine lq (.bool (!x63)) S (q_not rfl) fun a S => ?_
 refine lq (.bool (!x63)) S (q_assign rfl) fun a S => ?_
 refine lx_nil (thenN ?_)
 refine cond_b S rfl (fun hc66 => ?_) (fun hc66 => ?_)
 ·have hm := ite_t hc66 hm
  refine wp_seq (region_plain ?_)
  refine lq (.agg #[(.int .i64 (0 : Int)), (.int .i64 (0 : Int)), (.slice none 0 0), (.slice none 0 0)]) S (q_build (zs := [(.int .i64 (0 : Int)), (.int .i64 (0 : Int)), (.slice none 0 0), (.slice none 0 0)]) (szs := [1, 1, 1, 1]) (ps := []) (parts := []) rfl Tryz.underlying31 Tryz.zeroValue31 (fun w => by simp [Tryz.sizeOf2, Tryz.sizeOf22, Tryz.sizeOf29]) trivial rfl) fun a S => ?_
  refine lx_storeBox (o := 0) (i := 0) (us := [(.int .i64 (0 : Int)), (.int .i64 (0 : Int)), (.slice none 0 0), (.slice none 0 0)]) (cs' := [(.int .i64 (0 : Int)), (.int .i64 (0 : Int)), (.slice none 0 0), (.slice none 0 0)]) S trivial rfl H rfl rfl rfl rfl Tryz.sizeOf31 (Nat.le_of_ble_eq_true rfl) (List.forall_mem_cons.2 ⟨rfl, (List.forall_mem_cons.2 ⟨rfl, (List.forall_mem_cons.2 ⟨rfl, (List.forall_mem_cons.2 ⟨rfl, (List.forall_mem_nil _)⟩)⟩)⟩)⟩) rfl (fun w67 H => ⟨trivial, fun a S => ?_⟩)
  change Heap w0 [bA b58 [(.int .i64 (0 : Int)), (.int .i64 (0 : Int)), (.slice none 0 0), (.slice none 0 0)] 31, bA b55 [(sv a2)] 9, bA b52 [(sv a1)] 9, bA b49 [(.int .i64 a0.1), (.int .i64 a0.2.1), v33, v35] 31] w67 at H
  refine lq (.int .i64 (1 : Int)) S (q_assign rfl) fun a S => ?_
  refine lx_nil (thenN ?_)
  refine wp_ret ?_
  have hrv0 := RV.cellA (t := 31) (q := 6) (env := [(0, (.agg #[(.int .i64 a0.1), (.int .i64 a0.2.1), v33, v35])), (1, (sv a1)), (2, (sv a2)), (3, (bp b49)), (4, (bp b52)), (5, (bp b55)), (6, (bp b58)), (7, (.int .i64 (1 : Int))), (8, (.bool (!x63))), (9, (.agg #[(.int .i64 a0.1), (.int .i64 a0.2.1), v33, v35])), (10, (.bool x63)), (11, (.bool (!x63))), (12, (.agg #[(.int .i64 (0 : Int)), (.int .i64 (0 : Int)), (.slice none 0 0), (.slice none 0 0)]))]) H (i := 0) rfl rfl Tryz.isAgg31 Tryz.sizeOf31
  have hrv1 : RV Tryz.prog _ w67 (.tmp 7) (.int .i64 (1 : Int)) := (rfl : lk [(0, (.agg #[(.int .i64 a0.1), (.int .i64 a0.2.1), v33, v35])), (1, (sv a1)), (2, (sv a2)), (3, (bp b49)), (4, (bp b52)), (5, (bp b55)), (6, (bp b58)), (7, (.int .i64 (1 : Int))), (8, (.bool (!x63))), (9, (.agg #[(.int .i64 a0.1), (.int .i64 a0.2.1), v33, v35])), (10, (.bool x63)), (11, (.bool (!x63))), (12, (.agg #[(.int .i64 (0 : Int)), (.int .i64 (0 : Int)), (.slice none 0 0), (.slice none 0 0)]))] 7 = some (.int .i64 (1 : Int)))
  refine inBlock_ret ?_
  refine then_ret ?_
  obtain rfl := Option.some.inj hm
  have H : Heap w0 [oA (rList rStr) (.slice none 0 0) ([] : List Str), bA b58 [(.int .i64 (0 : Int)), (.int .i64 (0 : Int)), (.slice none 0 0), (.slice none 0 0)] 31, bA b55 [(sv a2)] 9, bA b52 [(sv a1)] 9, bA b49 [(.int .i64 a0.1), (.int .i64 a0.2.1), v33, v35] 31] w67 := H.nilList rStr
  have H : Heap w0 [oA (rList Rimpl_Edge) (.slice none 0 0) ([] : List Timpl_Edge), oA (rList rStr) (.slice none 0 0) ([] : List Str), bA b58 [(.int .i64 (0 : Int)), (.int .i64 (0 : Int)), (.slice none 0 0), (.slice none 0 0)] 31, bA b55 [(sv a2)] 9, bA b52 [(sv a1)] 9, bA b49 [(.int .i64 a0.1), (.int .i64 a0.2.1), v33, v35] 31] w67 := H.nilList Rimpl_Edge
  have H : Heap w0 [oA (rList rStr) (.slice none 0 0) ([] : List Str), oA (rList Rimpl_Edge) (.slice none 0 0) ([] : List Timpl_Edge), bA b58 [(.int .i64 (0 : Int)), (.int .i64 (0 : Int)), (.slice none 0 0), (.slice none 0 0)] 31, bA b55 [(sv a2)] 9, bA b52 [(sv a1)] 9, bA b49 [(.int .i64 a0.1), (.int .i64 a0.2.1), v33, v35] 31] w67 := H.front 1 rfl
  have H : Heap w0 [oA (rList rStr) (.slice none 0 0) ([] : List Str), oA (rList Rimpl_Edge) (.slice none 0 0) ([] : List Timpl_Edge)] w67 := H.sel [0, 1] (by decide)
  exact leaveR2 S rfl hrv0 hrv1 ⟨(.slice none 0 0), (.slice none 0 0), rfl, H⟩
 ·have hm := ite_f hc66 hm
  refine wp_seq (region_plain ?_)
  refine lx_e (sv a1) S trivial (by decide) rfl trivial (q_load1 rfl Tryz.isAgg9 (by rintro _ rfl; exact (boxAt (i := 2) H rfl (j := 0) rfl))) (fun a S => ?_)
  obtain ⟨x72, e73, hm⟩ := bind_some hm
  refine lx_call (xs := [.tmp 14]) S trivial (by decide) rfl rfl Tryz.call38 ((impl_IsAction_ok  e73).mono ?_)
  rintro e w70 ⟨rfl, Hc71⟩
  have H := H.call0 Hc71
  refine ⟨_, rfl, trivial, fun a S => ?_⟩
  refine lq (.bool (!x72)) S (q_not rfl) fun a S => ?_
  refine lq (.bool (!x72)) S (q_move rfl) fun a S => ?_
  obtain ⟨t75, e76, hm⟩ := bind_some hm
  refine lx_cut 4 (fun a w => Slots a 26 [(3, (bp b49)), (4, (bp b52)), (5, (bp b55)), (6, (bp b58)), (21, (.bool t75))] ∧ Heap w0 [bA b58 [(.int .i64 (0 : Int)), (.int .i64 (0 : Int)), (.slice none 0 0), (.slice none 0 0)] 31, bA b55 [(sv a2)] 9, bA b52 [(sv a1)] 9, bA b49 [(.int .i64 a0.1), (.int .i64 a0.2.1), v33, v35] 31] w) ?_ ?_
  ·by_cases hc77 : (!x72) = true
   ·have hm := ite_t hc77 e76
    refine lx_skip S rfl rfl (isB_ne hc77) (by decide) (fun a S => ?_)
    refine lx_skip S rfl rfl (isB_ne hc77) (by decide) (fun a S => ?_)
    refine lx_skip S rfl rfl (isB_ne hc77) (by decide) (fun a S => ?_)
    refine lq (.bool true) S (q_pickT' rfl hc77 rfl) fun a S => ?_
    refine lx_nil ?_
    obtain rfl := Option.some.inj hm
    exact ⟨S.sub ⟨rfl, rfl, rfl, rfl, rfl, trivial⟩, H⟩
   ·have hm := ite_f (eq_false_of_ne_true hc77) e76
    have hc77 : (!x72) = false := eq_false_of_ne_true hc77
    refine lx_e (sv a2) S (want_b rfl rfl hc77) (by decide) rfl trivial (q_load1 rfl Tryz.isAgg9 (by rintro _ rfl; exact (boxAt (i := 1) H rfl (j := 0) rfl))) (fun a S => ?_)
    obtain ⟨x80, e81, hm⟩ := bind_some hm
    refine lx_call (xs := [.tmp 18]) S (want_b rfl rfl hc77) (by decide) rfl rfl Tryz.call38 ((impl_IsAction_ok  e81).mono ?_)
    rintro e w78 ⟨rfl, Hc79⟩
    have H := H.call0 Hc79
    refine ⟨_, rfl, trivial, fun a S => ?_⟩
    refine lx_q (.bool (!x80)) S (want_b rfl rfl hc77) (by decide) (q_not rfl) (fun a S => ?_)
    refine lq (.bool (!x80)) S (q_pickF' rfl hc77 rfl) fun a S => ?_
    refine lx_nil ?_
    obtain rfl := Option.some.inj hm
    exact ⟨S.sub ⟨rfl, rfl, rfl, rfl, rfl, trivial⟩, H⟩
  ·rintro a w ⟨S, H⟩
   refine lq (.bool t75) S (q_assign rfl) fun a S => ?_
   refine lx_nil (thenN ?_)
   refine cond_b S rfl (fun hc83 => ?_) (fun hc83 => ?_)
   ·have hm := ite_t hc83 hm
    refine wp_seq (region_plain ?_)
    refine lq (.agg #[(.int .i64 (0 : Int)), (.int .i64 (0 : Int)), (.slice none 0 0), (.slice none 0 0)]) S (q_build (zs := [(.int .i64 (0 : Int)), (.int .i64 (0 : Int)), (.slice none 0 0), (.slice none 0 0)]) (szs := [1, 1, 1, 1]) (ps := []) (parts := []) rfl Tryz.underlying31 Tryz.zeroValue31 (fun w => by simp [Tryz.sizeOf2, Tryz.sizeOf22, Tryz.sizeOf29]) trivial rfl) fun a S => ?_
    refine lx_storeBox (o := 0) (i := 0) (us := [(.int .i64 (0 : Int)), (.int .i64 (0 : Int)), (.slice none 0 0), (.slice none 0 0)]) (cs' := [(.int .i64 (0 : Int)), (.int .i64 (0 : Int)), (.slice none 0 0), (.slice none 0 0)]) S trivial rfl H rfl rfl rfl rfl Tryz.sizeOf31 (Nat.le_of_ble_eq_true rfl) (List.forall_mem_cons.2 ⟨rfl, (List.forall_mem_cons.2 ⟨rfl, (List.forall_mem_cons.2 ⟨rfl, (List.forall_mem_cons.2 ⟨rfl, (List.forall_mem_nil _)⟩)⟩)⟩)⟩) rfl (fun w84 H => ⟨trivial, fun a S => ?_⟩)
    change Heap w0 [bA b58 [(.int .i64 (0 : Int)), (.int .i64 (0 : Int)), (.slice none 0 0), (.slice none 0 0)] 31, bA b55 [(sv a2)] 9, bA b52 [(sv a1)] 9, bA b49 [(.int .i64 a0.1), (.int .i64 a0.2.1), v33, v35] 31] w84 at H
    refine lq (.int .i64 (2 : Int)) S (q_assign rfl) fun a S => ?_
    refine lx_nil (thenN ?_)
    refine wp_ret ?_
    have hrv0 := RV.cellA (t := 31) (q := 6) (env := [(3, (bp b49)), (4, (bp b52)), (5, (bp b55)), (6, (bp b58)), (7, (.int .i64 (2 : Int))), (13, (.bool t75)), (21, (.bool t75)), (22, (.agg #[(.int .i64 (0 : Int)), (.int .i64 (0 : Int)), (.slice none 0 0), (.slice none 0 0)]))]) H (i := 0) rfl rfl Tryz.isAgg31 Tryz.sizeOf31
    have hrv1 : RV Tryz.prog _ w84 (.tmp 7) (.int .i64 (2 : Int)) := (rfl : lk [(3, (bp b49)), (4, (bp b52)), (5, (bp b55)), (6, (bp b58)), (7, (.int .i64 (2 : Int))), (13, (.bool t75)), (21, (.bool t75)), (22, (.agg #[(.int .i64 (0 : Int)), (.int .i64 (0 : Int)), (.slice none 0 0), (.slice none 0 0)]))] 7 = some (.int .i64 (2 : Int)))
    refine inBlock_ret ?_
    refine then_ret ?_
    obtain rfl := Option.some.inj hm
    have H : Heap w0 [oA (rList rStr) (.slice none 0 0) ([] : List Str), bA b58 [(.int .i64 (0 : Int)), (.int .i64 (0 : Int)), (.slice none 0 0), (.slice none 0 0)] 31, bA b55 [(sv a2)] 9, bA b52 [(sv a1)] 9, bA b49 [(.int .i64 a0.1), (.int .i64 a0.2.1), v33, v35] 31] w84 := H.nilList rStr
    have H : Heap w0 [oA (rList Rimpl_Edge) (.slice none 0 0) ([] : List Timpl_Edge), oA (rList rStr) (.slice none 0 0) ([] : List Str), bA b58 [(.int .i64 (0 : Int)), (.int .i64 (0 : Int)), (.slice none 0 0), (.slice none 0 0)] 31, bA b55 [(sv a2)] 9, bA b52 [(sv a1)] 9, bA b49 [(.int .i64 a0.1), (.int .i64 a0.2.1), v33, v35] 31] w84 := H.nilList Rimpl_Edge
    have H : Heap w0 [oA (rList rStr) (.slice none 0 0) ([] : List Str), oA (rList Rimpl_Edge) (.slice none 0 0) ([] : List Timpl_Edge), bA b58 [(.int .i64 (0 : Int)), (.int .i64 (0 : Int)), (.slice none 0 0), (.slice none 0 0)] 31, bA b55 [(sv a2)] 9, bA b52 [(sv a1)] 9, bA b49 [(.int .i64 a0.1), (.int .i64 a0.2.1), v33, v35] 31] w84 := H.front 1 rfl
    have H : Heap w0 [oA (rList rStr) (.slice none 0 0) ([] : List Str), oA (rList Rimpl_Edge) (.slice none 0 0) ([] : List Timpl_Edge)] w84 := H.sel [0, 1] (by decide)
    exact leaveR2 S rfl hrv0 hrv1 ⟨(.slice none 0 0), (.slice none 0 0), rfl, H⟩
   ·have hm := ite_f hc83 hm
    refine wp_skip ?_
    refine inBlock_norm ?_
    refine thenN ?_
    refine wp_seq (region_plain ?_)
    refine lx_e (.agg #[(.int .i64 a0.1), (.int .i64 a0.2.1), v33, v35]) S trivial (by decide) rfl trivial (q_loadA (cs := [(.int .i64 a0.1), (.int .i64 a0.2.1), v33, v35]) rfl (isP_bp _) Tryz.isAgg31 Tryz.sizeOf31 (by rintro _ rfl; exact (fun j u hu => boxAt (i := 3) H rfl hu))) (fun a S => ?_)
    refine lq (.func (.func 40) #[] #[(bp b52), (bp b55)]) S (q_makeFunc (xs := []) (ys := [.tmp 4, .tmp 5]) rfl rfl) fun a S => ?_
    obtain ⟨x89, e90, hm⟩ := bind_some hm
    have hcap91 : Rd (rPtr rStr) w (bp b52) a1 := (rdPtr_box H 2 rfl rfl)
    have hcap92 : Rd (rPtr rStr) w (bp b55) a2 := (rdPtr_box H 1 rfl rfl)
    refine lx_call (xs := [.tmp 23, .tmp 24]) S trivial (by decide) rfl rfl Tryz.call39 ((impl_Lts_relabel_ok (f1 := 40) (fs1 := ([] : List Value)) (cp1 := ([(bp b52), (bp b55)] : List Value)) (a1 := (fun (z0 : Str) => impl_RenameLabels_1_m fuel z0 a1 a2)) ⟨[(.int .i64 a0.1), (.int .i64 a0.2.1), v33, v35], rfl, ⟨[(.int .i64 a0.1)], [(.int .i64 a0.2.1), v33, v35], rfl, rfl, ⟨[(.int .i64 a0.2.1)], [v33, v35], rfl, rfl, ⟨[v33], [v35], rfl, ((H.arg h34)).list_rd, ((H.arg h36)).list_rd⟩⟩⟩⟩ Tryz.call40 (fun he  hm => impl_RenameLabels_1_ok (hG.ext (H.ext.trans he))   (hcap91.ext he) (hcap92.ext he) hm) e90).mono ?_)
    rintro e w87 ⟨v93, v94, rfl, Hc88⟩
    have H := H.call2 Hc88
    refine ⟨_, rfl, trivial, fun a S => ?_⟩
    refine lx_storeBox (o := 0) (i := 2) (us := [(.int .i64 x89.1), (.int .i64 x89.2.1), v93, v94]) (cs' := [(.int .i64 x89.1), (.int .i64 x89.2.1), v93, v94]) S trivial rfl H rfl rfl rfl rfl Tryz.sizeOf31 (Nat.le_of_ble_eq_true rfl) (List.forall_mem_cons.2 ⟨rfl, (List.forall_mem_cons.2 ⟨rfl, (List.forall_mem_cons.2 ⟨one_sl (H.isSl 0 rfl), (List.forall_mem_cons.2 ⟨one_sl (H.isSl 1 rfl), (List.forall_mem_nil _)⟩)⟩)⟩)⟩) rfl (fun w98 H => ⟨trivial, fun a S => ?_⟩)
    change Heap w0 [oA (rList rStr) v93 x89.2.2.1, oA (rList Rimpl_Edge) v94 x89.2.2.2, bA b58 [(.int .i64 x89.1), (.int .i64 x89.2.1), v93, v94] 31, bA b55 [(sv a2)] 9, bA b52 [(sv a1)] 9, bA b49 [(.int .i64 a0.1), (.int .i64 a0.2.1), v33, v35] 31] w98 at H
    refine lq (.int .i64 (0 : Int)) S (q_assign rfl) fun a S => ?_
    refine lx_nil (thenN ?_)
    refine wp_ret ?_
    have hrv0 := RV.cellA (t := 31) (q := 6) (env := [(3, (bp b49)), (4, (bp b52)), (5, (bp b55)), (6, (bp b58)), (7, (.int .i64 (0 : Int))), (13, (.bool t75)), (21, (.bool t75)), (23, (.agg #[(.int .i64 a0.1), (.int .i64 a0.2.1), v33, v35])), (24, (.func (.func 40) #[] #[(bp b52), (bp b55)])), (25, (.agg #[(.int .i64 x89.1), (.int .i64 x89.2.1), v93, v94]))]) H (i := 2) rfl rfl Tryz.isAgg31 Tryz.sizeOf31
    have hrv1 : RV Tryz.prog _ w98 (.tmp 7) (.int .i64 (0 : Int)) := (rfl : lk [(3, (bp b49)), (4, (bp b52)), (5, (bp b55)), (6, (bp b58)), (7, (.int .i64 (0 : Int))), (13, (.bool t75)), (21, (.bool t75)), (23, (.agg #[(.int .i64 a0.1), (.int .i64 a0.2.1), v33, v35])), (24, (.func (.func 40) #[] #[(bp b52), (bp b55)])), (25, (.agg #[(.int .i64 x89.1), (.int .i64 x89.2.1), v93, v94]))] 7 = some (.int .i64 (0 : Int)))
    obtain rfl := Option.some.inj hm
    have H : Heap w0 [oA (rList rStr) v93 x89.2.2.1, oA (rList Rimpl_Edge) v94 x89.2.2.2] w98 := H.sel [0, 1] (by decide)
    exact leaveR2 S rfl hrv0 hrv1 ⟨v93, v94, rfl, H⟩

/-- laws.FnExactRenameLabels -/
def laws_FnExactRenameLabels_m (fuel : Nat) (a0 : Tlaws_Lts) (a1 : Str) (a2 : Str) : Option (Bool) :=
  (if (decide ((1048576 : Int) < (a1.length : Int))) = true then some (true) else (if (decide ((1048576 : Int) < (a2.length : Int))) = true then some (true) else (laws_szLts_m fuel (a0.1, a0.2.1, a0.2.2.1, a0.2.2.2) (1048576 : Int)).bind fun x56 => (if (decide (x56 < (0 : Int))) = true then some (true) else (laws_toLts_m fuel (a0.1, a0.2.1, a0.2.2.1, a0.2.2.2)).bind fun x62 => (spec_RenameLabels_m fuel (x62.1, x62.2.1, x62.2.2.1, x62.2.2.2) a1 a2).bind fun x71 => (laws_toLts_m fuel (a0.1, a0.2.1, a0.2.2.1, a0.2.2.2)).bind fun x84 => (impl_RenameLabels_m fuel (x84.1, x84.2.1, x84.2.2.1, x84.2.2.2) a1 a2).bind fun x97 => (laws_eqLts_m fuel (x97.1.1, x97.1.2.1, x97.1.2.2.1, x97.1.2.2.2) (x71.1.1, x71.1.2.1, x71.1.2.2.1, x71.1.2.2.2)).bind fun x110 => (if (!x110) = true then some true else some (x97.2 != x71.2)).bind fun t113 => (if t113 = true then some (false) else (laws_toLts_m fuel (a0.1, a0.2.1, a0.2.2.1, a0.2.2.2)).bind fun x121 => (laws_eqLts_m fuel (x84.1, x84.2.1, x84.2.2.1, x84.2.2.2) (x121.1, x121.2.1, x121.2.2.1, x121.2.2.2)).bind fun x130 => (if (!x130) = true then some (false) else (laws_markLts_m fuel (x84.1, x84.2.1, x84.2.2.1, x84.2.2.2) (1 : Int)).bind fun x136 => (if (decide (x136.1 < (0 : Int))) = true then some true else (laws_eqLts_m fuel (x97.1.1, x97.1.2.1, x97.1.2.2.1, x97.1.2.2.2) (x71.1.1, x71.1.2.1, x71.1.2.2.1, x71.1.2.2.2)).bind fun x143 => some (!x143)).bind fun t138 => (if t138 = true then some true else some (x97.2 != x71.2)).bind fun t146 => (if t146 = true then some (false) else (laws_markLts_m fuel (x97.1.1, x97.1.2.1, x97.1.2.2.1, x97.1.2.2.2) (1 : Int)).bind fun x152 => (laws_heldLts_m fuel (x97.1.1, x97.1.2.1, x152.2.1, x152.2.2) (1 : Int)).bind fun x156 => (if (decide (x156 < (0 : Int))) = true then some (false) else (if (x156 != x152.1) = true then some (false) else (laws_toLts_m fuel (a0.1, a0.2.1, a0.2.2.1, a0.2.2.2)).bind fun x163 => (impl_RenameLabels_m fuel (x163.1, x163.2.1, x163.2.2.1, x163.2.2.2) a1 a2).bind fun x172 => (laws_eqLts_m fuel (x172.1.1, x172.1.2.1, x172.1.2.2.1, x172.1.2.2.2) (x71.1.1, x71.1.2.1, x71.1.2.2.1, x71.1.2.2.2)).bind fun x185 => (if (!x185) = true then some true else some (x172.2 != x71.2)).bind fun t188 => (if t188 = true then some (false) else (laws_heldLts_m fuel (x97.1.1, x97.1.2.1, x152.2.1, x152.2.2) (1 : Int)).bind fun x194 => (if (decide (x194 < (0 : Int))) = true then some (false) else (if (x194 != x152.1) = true then some (false) else some (true))))))))))))
set_option maxRecDepth 20000 in
theorem laws_FnExactRenameLabels_ok {w0 : World} {fuel : Nat} {p0 : Value} {a0 : Tlaws_Lts} {a1 : Str} {a2 : Str} {r : Bool} (hG : GlobE Tryz.prog w0) (h0 : Rd Rlaws_Lts w0 p0 a0) (hm : laws_FnExactRenameLabels_m fuel a0 a1 a2 = some r) :
  Calls Tryz.prog 5 #[p0, sv a1, sv a2] w0 fun e w => e = .returned (.bool r) ∧ Heap w0 [] w := by
 unfold laws_FnExactRenameLabels_m at hm
 have H := Heap.start w0
 obtain ⟨c31, rfl, h32⟩ := h0
 obtain ⟨c37, c38, rfl, h39, h40⟩ := h32
 obtain rfl := h39
 obtain ⟨c41, c42, rfl, h43, h44⟩ := h40
 obtain rfl := h43
 obtain ⟨c45, c46, rfl, h47, h48⟩ := h44
 obtain ⟨v33, rfl, h34⟩ := rd_list h47
 obtain ⟨v35, rfl, h36⟩ := rd_list h48
 refine enter (args := [(.agg #[(.int .i64 a0.1), (.int .i64 a0.2.1), v33, v35]), sv a1, sv a2]) Tryz.func5 rfl 112 rfl (Nat.le_of_ble_eq_true rfl) (fun a S => ?_)
 refine wp_seq (region_plain ?_)
 refine lx_box S trivial (by decide) rfl H rfl rfl (fun b49 w50 H => ⟨trivial, fun a S => ?_⟩)
 refine lq (.bool false) S (q_assign rfl) fun a S => ?_
 refine lx_nil (thenN ?_)
 refine wp_seq (wp_seq (region_plain ?_))
 refine lq (sv a1) S (q_move rfl) fun a S => ?_
 refine lq (.int .i64 (a1.length : Int)) S (q_lenStr rfl rfl Tryz.underlying9) fun a S => ?_
 refine lq (.bool (decide ((1048576 : Int) < (a1.length : Int)))) S (q_gtr rfl rfl) fun a S => ?_
 refine lx_nil (thenN ?_)
 refine cond_b S rfl (fun hc52 => ?_) (fun hc52 => ?_)
 ·have hm := ite_t hc52 hm
  refine wp_seq (region_plain ?_)
  refine lq (.bool true) S (q_assign rfl) fun a S => ?_
  refine lx_nil (thenN ?_)
  refine wp_ret (then_ret ?_)
  obtain rfl := Option.some.inj hm
  have H : Heap w0 [] w50 := H.sel [] (by decide)
  exact leave1 S rfl rfl ⟨rfl, H⟩
 ·have hm := ite_f hc52 hm
  refine wp_skip (thenN ?_)
  refine wp_seq (wp_seq (region_plain ?_))
  refine lq (sv a2) S (q_move rfl) fun a S => ?_
  refine lq (.int .i64 (a2.length : Int)) S (q_lenStr rfl rfl Tryz.underlying9) fun a S => ?_
  refine lq (.bool (decide ((1048576 : Int) < (a2.length : Int)))) S (q_gtr rfl rfl) fun a S => ?_
  refine lx_nil (thenN ?_)
  refine cond_b S rfl (fun hc53 => ?_) (fun hc53 => ?_)
  ·have hm := ite_t hc53 hm
   refine wp_seq (region_plain ?_)
   refine lq (.bool true) S (q_assign rfl) fun a S => ?_
   refine lx_nil (thenN ?_)
   refine wp_ret (then_ret ?_)
   obtain rfl := Option.some.inj hm
   have H : Heap w0 [] w50 := H.sel [] (by decide)
   exact leave1 S rfl rfl ⟨rfl, H⟩
  ·have hm := ite_f hc53 hm
   refine wp_skip (thenN ?_)
   refine wp_seq (region_plain ?_)
   refine lq (.int .i64 (1048576 : Int)) S (q_assign rfl) fun a S => ?_
   refine lx_nil (thenN ?_)
   refine wp_seq (region_plain ?_)
   refine lx_e (.agg #[(.int .i64 a0.1), (.int .i64 a0.2.1), v33, v35]) S trivial (by decide) rfl trivial (q_loadA (cs := [(.int .i64 a0.1), (.int .i64 a0.2.1), v33, v35]) rfl (isP_bp _) Tryz.isAgg25 Tryz.sizeOf25 (by rintro _ rfl; exact (fun j u hu => boxAt (i := 0) H rfl hu))) (fun a S => ?_)
   refine lq (.int .i64 (1048576 : Int)) S (q_move rfl) fun a S => ?_
   obtain ⟨x56, e57, hm⟩ := bind_some hm
   refine lx_call (xs := [.tmp 24, .tmp 25]) S trivial (by decide) rfl rfl Tryz.call6 ((laws_szLts_ok ⟨[(.int .i64 a0.1), (.int .i64 a0.2.1), v33, v35], rfl, ⟨[(.int .i64 a0.1)], [(.int .i64 a0.2.1), v33, v35], rfl, rfl, ⟨[(.int .i64 a0.2.1)], [v33, v35], rfl, rfl, ⟨[v33], [v35], rfl, ((H.arg h34)).list_rd, ((H.arg h36)).list_rd⟩⟩⟩⟩  e57).mono ?_)
   rintro e w54 ⟨rfl, Hc55⟩
   have H := H.call0 Hc55
   refine ⟨_, rfl, trivial, fun a S => ?_⟩
   refine lq (.int .i64 x56) S (q_assign rfl) fun a S => ?_
   refine lx_nil (thenN ?_)
   refine wp_seq (wp_seq (region_plain ?_))
   refine lq (.int .i64 x56) S (q_move rfl) fun a S => ?_
   refine lq (.bool (decide (x56 < (0 : Int)))) S (q_lss rfl rfl) fun a S => ?_
   refine lx_nil (thenN ?_)
   refine cond_b S rfl (fun hc59 => ?_) (fun hc59 => ?_)
   ·have hm := ite_t hc59 hm
    refine wp_seq (region_plain ?_)
    refine lq (.bool true) S (q_assign rfl) fun a S => ?_
    refine lx_nil (thenN ?_)
    refine wp_ret (then_ret ?_)
    obtain rfl := Option.some.inj hm
    have H : Heap w0 [] w54 := H.sel [] (by decide)
    exact leave1 S rfl rfl ⟨rfl, H⟩
   ·have hm := ite_f hc59 hm
    refine wp_skip (thenN ?_)
    refine wp_seq (region_plain ?_)
    refine lx_e (.agg #[(.int .i64 a0.1), (.int .i64 a0.2.1), v33, v35]) S trivial (by decide) rfl trivial (q_loadA (cs := [(.int .i64 a0.1), (.int .i64 a0.2.1), v33, v35]) rfl (isP_bp _) Tryz.isAgg25 Tryz.sizeOf25 (by rintro _ rfl; exact (fun j u hu => boxAt (i := 0) H rfl hu))) (fun a S => ?_)
    obtain ⟨x62, e63, hm⟩ := bind_some hm
    refine lx_call (xs := [.tmp 30]) S trivial (by decide) rfl rfl Tryz.call8 ((laws_toLts_ok ⟨[(.int .i64 a0.1), (.int .i64 a0.2.1), v33, v35], rfl, ⟨[(.int .i64 a0.1)], [(.int .i64 a0.2.1), v33, v35], rfl, rfl, ⟨[(.int .i64 a0.2.1)], [v33, v35], rfl, rfl, ⟨[v33], [v35], rfl, ((H.arg h34)).list_rd, ((H.arg h36)).list_rd⟩⟩⟩⟩ e63).mono ?_)
    rintro e w60 ⟨v64, v65, rfl, Hc61⟩
    have H := H.call2 Hc61
    refine ⟨_, rfl, trivial, fun a S => ?_⟩
    refine lq (sv a1) S (q_move rfl) fun a S => ?_
    refine lq (sv a2) S (q_move rfl) fun a S => ?_
    obtain ⟨x71, e72, hm⟩ := bind_some hm
    refine lx_call (xs := [.tmp 31, .tmp 32, .tmp 33]) S trivial (by decide) rfl rfl Tryz.call15 ((spec_RenameLabels_ok ⟨[(.int .i64 x62.1), (.int .i64 x62.2.1), v64, v65], rfl, ⟨[(.int .i64 x62.1)], [(.int .i64 x62.2.1), v64, v65], rfl, rfl, ⟨[(.int .i64 x62.2.1)], [v64, v65], rfl, rfl, ⟨[v64], [v65], rfl, ((H.rdAt 0 rfl)).list_rd, ((H.rdAt 1 rfl)).list_rd⟩⟩⟩⟩   e72).mono ?_)
    rintro e w69 ⟨v73, v74, rfl, Hc70⟩
    have H := H.call2 Hc70
    refine ⟨_, rfl, trivial, fun a S => ?_⟩
    refine lq (.tuple #[(.agg #[(.int .i64 x71.1.1), (.int .i64 x71.1.2.1), v73, v74]), (.int .i64 x71.2)]) S (q_move rfl) fun a S => ?_
    refine lq (.agg #[(.int .i64 x71.1.1), (.int .i64 x71.1.2.1), v73, v74]) S (q_extract rfl rfl) fun a S => ?_
    refine lq (.int .i64 x71.2) S (q_extract rfl rfl) fun a S => ?_
    refine lx_alloc S trivial (by decide) rfl H Tryz.zeroValue31 rfl (fun b78 w79 H => ⟨trivial, fun a S => ?_⟩)
    refine lx_storeBox (o := 0) (i := 0) (us := [(.int .i64 x71.1.1), (.int .i64 x71.1.2.1), v73, v74]) (cs' := [(.int .i64 x71.1.1), (.int .i64 x71.1.2.1), v73, v74]) S trivial rfl H rfl rfl rfl rfl Tryz.sizeOf31 (Nat.le_of_ble_eq_true rfl) (List.forall_mem_cons.2 ⟨rfl, (List.forall_mem_cons.2 ⟨rfl, (List.forall_mem_cons.2 ⟨one_sl (H.isSl 1 rfl), (List.forall_mem_cons.2 ⟨one_sl (H.isSl 2 rfl), (List.forall_mem_nil _)⟩)⟩)⟩)⟩) rfl (fun w81 H => ⟨trivial, fun a S => ?_⟩)
    change Heap w0 [bA b78 [(.int .i64 x71.1.1), (.int .i64 x71.1.2.1), v73, v74] 31, oA (rList rStr) v73 x71.1.2.2.1, oA (rList Rimpl_Edge) v74 x71.1.2.2.2, oA (rList rStr) v64 x62.2.2.1, oA (rList Rimpl_Edge) v65 x62.2.2.2, bA b49 [(.int .i64 a0.1), (.int .i64 a0.2.1), v33, v35] 25] w81 at H
    refine lq (.int .i64 x71.2) S (q_assign rfl) fun a S => ?_
    refine lx_nil (thenN ?_)
    refine wp_seq (region_plain ?_)
    refine lx_e (.agg #[(.int .i64 a0.1), (.int .i64 a0.2.1), v33, v35]) S trivial (by decide) rfl trivial (q_loadA (cs := [(.int .i64 a0.1), (.int .i64 a0.2.1), v33, v35]) rfl (isP_bp _) Tryz.isAgg25 Tryz.sizeOf25 (by rintro _ rfl; exact (fun j u hu => boxAt (i := 5) H rfl hu))) (fun a S => ?_)
    obtain ⟨x84, e85, hm⟩ := bind_some hm
    refine lx_call (xs := [.tmp 37]) S trivial (by decide) rfl rfl Tryz.call8 ((laws_toLts_ok ⟨[(.int .i64 a0.1), (.int .i64 a0.2.1), v33, v35], rfl, ⟨[(.int .i64 a0.1)], [(.int .i64 a0.2.1), v33, v35], rfl, rfl, ⟨[(.int .i64 a0.2.1)], [v33, v35], rfl, rfl, ⟨[v33], [v35], rfl, ((H.arg h34)).list_rd, ((H.arg h36)).list_rd⟩⟩⟩⟩ e85).mono ?_)
    rintro e w82 ⟨v86, v87, rfl, Hc83⟩
    have H := H.call2 Hc83
    refine ⟨_, rfl, trivial, fun a S => ?_⟩
    refine lx_alloc S trivial (by decide) rfl H Tryz.zeroValue31 rfl (fun b91 w92 H => ⟨trivial, fun a S => ?_⟩)
    refine lx_storeBox (o := 0) (i := 0) (us := [(.int .i64 x84.1), (.int .i64 x84.2.1), v86, v87]) (cs' := [(.int .i64 x84.1), (.int .i64 x84.2.1), v86, v87]) S trivial rfl H rfl rfl rfl rfl Tryz.sizeOf31 (Nat.le_of_ble_eq_true rfl) (List.forall_mem_cons.2 ⟨rfl, (List.forall_mem_cons.2 ⟨rfl, (List.forall_mem_cons.2 ⟨one_sl (H.isSl 1 rfl), (List.forall_mem_cons.2 ⟨one_sl (H.isSl 2 rfl), (List.forall_mem_nil _)⟩)⟩)⟩)⟩) rfl (fun w94 H => ⟨trivial, fun a S => ?_⟩)
    change Heap w0 [bA b91 [(.int .i64 x84.1), (.int .i64 x84.2.1), v86, v87] 31, oA (rList rStr) v86 x84.2.2.1, oA (rList Rimpl_Edge) v87 x84.2.2.2, bA b78 [(.int .i64 x71.1.1), (.int .i64 x71.1.2.1), v73, v74] 31, oA (rList rStr) v73 x71.1.2.2.1, oA (rList Rimpl_Edge) v74 x71.1.2.2.2, oA (rList rStr) v64 x62.2.2.1, oA (rList Rimpl_Edge) v65 x62.2.2.2, bA b49 [(.int .i64 a0.1), (.int .i64 a0.2.1), v33, v35] 25] w94 at H
    refine lx_nil (thenN ?_)
    refine wp_seq (region_plain ?_)
    refine lx_e (.agg #[(.int .i64 x84.1), (.int .i64 x84.2.1), v86, v87]) S trivial (by decide) rfl trivial (q_loadA (cs := [(.int .i64 x84.1), (.int .i64 x84.2.1), v86, v87]) rfl (isP_bp _) Tryz.isAgg31 Tryz.sizeOf31 (by rintro _ rfl; exact (fun j u hu => boxAt (i := 0) H rfl hu))) (fun a S => ?_)
    refine lq (sv a1) S (q_move rfl) fun a S => ?_
    refine lq (sv a2) S (q_move rfl) fun a S => ?_
    obtain ⟨x97, e98, hm⟩ := bind_some hm
    refine lx_call (xs := [.tmp 40, .tmp 41, .tmp 42]) S trivial (by decide) rfl rfl Tryz.call16 ((impl_RenameLabels_ok (hG.ext H.ext) ⟨[(.int .i64 x84.1), (.int .i64 x84.2.1), v86, v87], rfl, ⟨[(.int .i64 x84.1)], [(.int .i64 x84.2.1), v86, v87], rfl, rfl, ⟨[(.int .i64 x84.2.1)], [v86, v87], rfl, rfl, ⟨[v86], [v87], rfl, ((H.rdAt 1 rfl)).list_rd, ((H.rdAt 2 rfl)).list_rd⟩⟩⟩⟩   e98).mono ?_)
    rintro e w95 ⟨v99, v100, rfl, Hc96⟩
    have H := H.call2 Hc96
    refine ⟨_, rfl, trivial, fun a S => ?_⟩
    refine lq (.tuple #[(.agg #[(.int .i64 x97.1.1), (.int .i64 x97.1.2.1), v99, v100]), (.int .i64 x97.2)]) S (q_move rfl) fun a S => ?_
    refine lq (.agg #[(.int .i64 x97.1.1), (.int .i64 x97.1.2.1), v99, v100]) S (q_extract rfl rfl) fun a S => ?_
    refine lq (.int .i64 x97.2) S (q_extract rfl rfl) fun a S => ?_
    refine lx_alloc S trivial (by decide) rfl H Tryz.zeroValue31 rfl (fun b104 w105 H => ⟨trivial, fun a S => ?_⟩)
    refine lx_storeBox (o := 0) (i := 0) (us := [(.int .i64 x97.1.1), (.int .i64 x97.1.2.1), v99, v100]) (cs' := [(.int .i64 x97.1.1), (.int .i64 x97.1.2.1), v99, v100]) S trivial rfl H rfl rfl rfl rfl Tryz.sizeOf31 (Nat.le_of_ble_eq_true rfl) (List.forall_mem_cons.2 ⟨rfl, (List.forall_mem_cons.2 ⟨rfl, (List.forall_mem_cons.2 ⟨one_sl (H.isSl 1 rfl), (List.forall_mem_cons.2 ⟨one_sl (H.isSl 2 rfl), (List.forall_mem_nil _)⟩)⟩)⟩)⟩) rfl (fun w107 H => ⟨trivial, fun a S => ?_⟩)
    change Heap w0 [bA b104 [(.int .i64 x97.1.1), (.int .i64 x97.1.2.1), v99, v100] 31, oA (rList rStr) v99 x97.1.2.2.1, oA (rList Rimpl_Edge) v100 x97.1.2.2.2, bA b91 [(.int .i64 x84.1), (.int .i64 x84.2.1), v86, v87] 31, oA (rList rStr) v86 x84.2.2.1, oA (rList Rimpl_Edge) v87 x84.2.2.2, bA b78 [(.int .i64 x71.1.1), (.int .i64 x71.1.2.1), v73, v74] 31, oA (rList rStr) v73 x71.1.2.2.1, oA (rList Rimpl_Edge) v74 x71.1.2.2.2, oA (rList rStr) v64 x62.2.2.1, oA (rList Rimpl_Edge) v65 x62.2.2.2, bA b49 [(.int .i64 a0.1), (.int .i64 a0.2.1), v33, v35] 25] w107 at H
    refine lq (.int .i64 x97.2) S (q_assign rfl) fun a S => ?_
    refine lx_nil (thenN ?_)
    refine wp_seq (wp_seq (region_plain ?_))
    refine lx_e (.agg #[(.int .i64 x97.1.1), (.int .i64 x97.1.2.1), v99, v100]) S trivial (by decide) rfl trivial (q_loadA (cs := [(.int .i64 x97.1.1), (.int .i64 x97.1.2.1), v99, v100]) rfl (isP_bp _) Tryz.isAgg31 Tryz.sizeOf31 (by rintro _ rfl; exact (fun j u hu => boxAt (i := 0) H rfl hu))) (fun a S => ?_)
    refine lx_e (.agg #[(.int .i64 x71.1.1), (.int .i64 x71.1.2.1), v73, v74]) S trivial (by decide) rfl trivial (q_loadA (cs := [(.int .i64 x71.1.1), (.int .i64 x71.1.2.1), v73, v74]) rfl (isP_bp _) Tryz.isAgg31 Tryz.sizeOf31 (by rintro _ rfl; exact (fun j u hu => boxAt (i := 6) H rfl hu))) (fun a S => ?_)
    obtain ⟨x110, e111, hm⟩ := bind_some hm
    refine lx_call (xs := [.tmp 46, .tmp 47]) S trivial (by decide) rfl rfl Tryz.call10 ((laws_eqLts_ok ⟨[(.int .i64 x97.1.1), (.int .i64 x97.1.2.1), v99, v100], rfl, ⟨[(.int .i64 x97.1.1)], [(.int .i64 x97.1.2.1), v99, v100], rfl, rfl, ⟨[(.int .i64 x97.1.2.1)], [v99, v100], rfl, rfl, ⟨[v99], [v100], rfl, ((H.rdAt 1 rfl)).list_rd, ((H.rdAt 2 rfl)).list_rd⟩⟩⟩⟩ ⟨[(.int .i64 x71.1.1), (.int .i64 x71.1.2.1), v73, v74], rfl, ⟨[(.int .i64 x71.1.1)], [(.int .i64 x71.1.2.1), v73, v74], rfl, rfl, ⟨[(.int .i64 x71.1.2.1)], [v73, v74], rfl, rfl, ⟨[v73], [v74], rfl, ((H.rdAt 7 rfl)).list_rd, ((H.rdAt 8 rfl)).list_rd⟩⟩⟩⟩ e111).mono ?_)
    rintro e w108 ⟨rfl, Hc109⟩
    have H := H.call0 Hc109
    refine ⟨_, rfl, trivial, fun a S => ?_⟩
    refine lq (.bool (!x110)) S (q_not rfl) fun a S => ?_
    refine lq (.bool (!x110)) S (q_move rfl) fun a S => ?_
    obtain ⟨t113, e114, hm⟩ := bind_some hm
    refine lx_cut 4 (fun a w => Slots a 112 [(1, (sv a1)), (2, (sv a2)), (3, (bp b49)), (8, (bp b78)), (9, (.int .i64 x71.2)), (10, (bp b91)), (11, (bp b104)), (12, (.int .i64 x97.2)), (54, (.bool t113))] ∧ Heap w0 [bA b104 [(.int .i64 x97.1.1), (.int .i64 x97.1.2.1), v99, v100] 31, oA (rList rStr) v99 x97.1.2.2.1, oA (rList Rimpl_Edge) v100 x97.1.2.2.2, bA b91 [(.int .i64 x84.1), (.int .i64 x84.2.1), v86, v87] 31, oA (rList rStr) v86 x84.2.2.1, oA (rList Rimpl_Edge) v87 x84.2.2.2, bA b78 [(.int .i64 x71.1.1), (.int .i64 x71.1.2.1), v73, v74] 31, oA (rList rStr) v73 x71.1.2.2.1, oA (rList Rimpl_Edge) v74 x71.1.2.2.2, bA b49 [(.int .i64 a0.1), (.int .i64 a0.2.1), v33, v35] 25] w) ?_ ?_
    ·by_cases hc115 : (!x110) = true
     ·have hm := ite_t hc115 e114
      refine lx_skip S rfl rfl (isB_ne hc115) (by decide) (fun a S => ?_)
      refine lx_skip S rfl rfl (isB_ne hc115) (by decide) (fun a S => ?_)
      refine lx_skip S rfl rfl (isB_ne hc115) (by decide) (fun a S => ?_)
      refine lq (.bool true) S (q_pickT' rfl hc115 rfl) fun a S => ?_
      refine lx_nil ?_
      obtain rfl := Option.some.inj hm
      have H := H.sel [0, 1, 2, 3, 4, 5, 6, 7, 8, 11] (by decide)
      exact ⟨S.sub ⟨rfl, rfl, rfl, rfl, rfl, rfl, rfl, rfl, rfl, trivial⟩, H⟩
     ·have hm := ite_f (eq_false_of_ne_true hc115) e114
      have hc115 : (!x110) = false := eq_false_of_ne_true hc115
      refine lx_q (.int .i64 x97.2) S (want_b rfl rfl hc115) (by decide) (q_move rfl) (fun a S => ?_)
      refine lx_q (.int .i64 x71.2) S (want_b rfl rfl hc115) (by decide) (q_move rfl) (fun a S => ?_)
      refine lx_q (.bool (x97.2 != x71.2)) S (want_b rfl rfl hc115) (by decide) (q_neq rfl rfl) (fun a S => ?_)
      refine lq (.bool (x97.2 != x71.2)) S (q_pickF' rfl hc115 rfl) fun a S => ?_
      refine lx_nil ?_
      obtain rfl := Option.some.inj hm
      have H := H.sel [0, 1, 2, 3, 4, 5, 6, 7, 8, 11] (by decide)
      exact ⟨S.sub ⟨rfl, rfl, rfl, rfl, rfl, rfl, rfl, rfl, rfl, trivial⟩, H⟩
    ·rintro a w ⟨S, H⟩
     refine lx_nil (thenN ?_)
     refine cond_b S rfl (fun hc116 => ?_) (fun hc116 => ?_)
     ·have hm := ite_t hc116 hm
      refine wp_seq (region_plain ?_)
      refine lq (.bool false) S (q_assign rfl) fun a S => ?_
      refine lx_nil (thenN ?_)
      refine wp_ret (then_ret ?_)
      obtain rfl := Option.some.inj hm
      have H : Heap w0 [] w := H.sel [] (by decide)
      exact leave1 S rfl rfl ⟨rfl, H⟩
     ·have hm := ite_f hc116 hm
      refine wp_skip (thenN ?_)
      refine wp_seq ?_
      refine wp_seq ?_
      refine region_drawG (fun w1 => Heap w0 [bA b91 [(.int .i64 x84.1), (.int .i64 x84.2.1), v86, v87] 31, bA b49 [(.int .i64 a0.1), (.int .i64 a0.2.1), v33, v35] 25] w1) (fun i => [2, 3].contains i) mixed (by kernel_rfl) (fun w118 he117 => ?_)
      have H := H.later he117
      refine ⟨H.sel [3, 9] (by decide), ?_⟩
      refine lq (.agg #[(.int .i64 x84.1), (.int .i64 x84.2.1), v86, v87]) S (q_loadA (cs := [(.int .i64 x84.1), (.int .i64 x84.2.1), v86, v87]) rfl (isP_bp _) Tryz.isAgg31 Tryz.sizeOf31 (fun w1 hC => (fun j u hu => boxAt (i := 0) hC rfl hu))) fun a S => ?_
      refine lq (.agg #[(.int .i64 a0.1), (.int .i64 a0.2.1), v33, v35]) S (q_loadA (cs := [(.int .i64 a0.1), (.int .i64 a0.2.1), v33, v35]) rfl (isP_bp _) Tryz.isAgg25 Tryz.sizeOf25 (fun w1 hC => (fun j u hu => boxAt (i := 1) hC rfl hu))) fun a S => ?_
      obtain ⟨x121, e122, hm⟩ := bind_some hm
      refine lx_call (xs := [.tmp 56]) S trivial (by decide) rfl rfl Tryz.call8 ((laws_toLts_ok ⟨[(.int .i64 a0.1), (.int .i64 a0.2.1), v33, v35], rfl, ⟨[(.int .i64 a0.1)], [(.int .i64 a0.2.1), v33, v35], rfl, rfl, ⟨[(.int .i64 a0.2.1)], [v33, v35], rfl, rfl, ⟨[v33], [v35], rfl, ((H.arg h34)).list_rd, ((H.arg h36)).list_rd⟩⟩⟩⟩ e122).mono ?_)
      rintro e w119 ⟨v123, v124, rfl, Hc120⟩
      have H := H.call2 Hc120
      refine ⟨_, rfl, H.sel [5, 11] (by decide), fun a S => ?_⟩
      obtain ⟨x130, e131, hm⟩ := bind_some hm
      refine lx_call (xs := [.tmp 55, .tmp 57]) S trivial (by decide) rfl rfl Tryz.call10 ((laws_eqLts_ok ⟨[(.int .i64 x84.1), (.int .i64 x84.2.1), v86, v87], rfl, ⟨[(.int .i64 x84.1)], [(.int .i64 x84.2.1), v86, v87], rfl, rfl, ⟨[(.int .i64 x84.2.1)], [v86, v87], rfl, rfl, ⟨[v86], [v87], rfl, ((H.rdAt 6 rfl)).list_rd, ((H.rdAt 7 rfl)).list_rd⟩⟩⟩⟩ ⟨[(.int .i64 x121.1), (.int .i64 x121.2.1), v123, v124], rfl, ⟨[(.int .i64 x121.1)], [(.int .i64 x121.2.1), v123, v124], rfl, rfl, ⟨[(.int .i64 x121.2.1)], [v123, v124], rfl, rfl, ⟨[v123], [v124], rfl, ((H.rdAt 0 rfl)).list_rd, ((H.rdAt 1 rfl)).list_rd⟩⟩⟩⟩ e131).mono ?_)
      rintro e w128 ⟨rfl, Hc129⟩
      have H := H.call0 Hc129
      refine ⟨_, rfl, H.sel [5, 11] (by decide), fun a S => ?_⟩
      refine lq (.bool (!x130)) S (q_not rfl) fun a S => ?_
      refine lx_nil (thenN ?_)
      refine cond_b S rfl (fun hc133 => ?_) (fun hc133 => ?_)
      ·have hm := ite_t hc133 hm
       refine wp_seq (region_plain ?_)
       refine lq (.bool false) S (q_assign rfl) fun a S => ?_
       refine lx_nil (thenN ?_)
       refine wp_ret (then_ret ?_)
       obtain rfl := Option.some.inj hm
       have H : Heap w0 [] w128 := H.sel [] (by decide)
       exact leave1 S rfl rfl ⟨rfl, H⟩
      ·have hm := ite_f hc133 hm
       refine wp_skip (thenN ?_)
       refine wp_seq (region_plain ?_)
       refine lq (.int .i64 (1 : Int)) S (q_assign rfl) fun a S => ?_
       refine lx_nil (thenN ?_)
       refine wp_seq (region_plain ?_)
       refine lx_e (.agg #[(.int .i64 x84.1), (.int .i64 x84.2.1), v86, v87]) S trivial (by decide) rfl trivial (q_loadA (cs := [(.int .i64 x84.1), (.int .i64 x84.2.1), v86, v87]) rfl (isP_bp _) Tryz.isAgg31 Tryz.sizeOf31 (by rintro _ rfl; exact (fun j u hu => boxAt (i := 5) H rfl hu))) (fun a S => ?_)
       refine lq (.int .i64 (1 : Int)) S (q_move rfl) fun a S => ?_
       obtain ⟨x136, e137, hm⟩ := bind_some hm
       have H : Heap w0 [oA (rList Rimpl_Edge) v87 x84.2.2.2, oA (rList rStr) v123 x121.2.2.1, oA (rList Rimpl_Edge) v124 x121.2.2.2, bA b104 [(.int .i64 x97.1.1), (.int .i64 x97.1.2.1), v99, v100] 31, oA (rList rStr) v99 x97.1.2.2.1, oA (rList Rimpl_Edge) v100 x97.1.2.2.2, bA b91 [(.int .i64 x84.1), (.int .i64 x84.2.1), v86, v87] 31, oA (rList rStr) v86 x84.2.2.1, bA b78 [(.int .i64 x71.1.1), (.int .i64 x71.1.2.1), v73, v74] 31, oA (rList rStr) v73 x71.1.2.2.1, oA (rList Rimpl_Edge) v74 x71.1.2.2.2, bA b49 [(.int .i64 a0.1), (.int .i64 a0.2.1), v33, v35] 25] w128 := H.front 7 rfl
       have H : Heap w0 [oA (rList rStr) v86 x84.2.2.1, oA (rList Rimpl_Edge) v87 x84.2.2.2, oA (rList rStr) v123 x121.2.2.1, oA (rList Rimpl_Edge) v124 x121.2.2.2, bA b104 [(.int .i64 x97.1.1), (.int .i64 x97.1.2.1), v99, v100] 31, oA (rList rStr) v99 x97.1.2.2.1, oA (rList Rimpl_Edge) v100 x97.1.2.2.2, bA b91 [(.int .i64 x84.1), (.int .i64 x84.2.1), v86, v87] 31, bA b78 [(.int .i64 x71.1.1), (.int .i64 x71.1.2.1), v73, v74] 31, oA (rList rStr) v73 x71.1.2.2.1, oA (rList Rimpl_Edge) v74 x71.1.2.2.2, bA b49 [(.int .i64 a0.1), (.int .i64 a0.2.1), v33, v35] 25] w128 := H.front 7 rfl
       refine lx_call (xs := [.tmp 60, .tmp 61]) S trivial (by decide) rfl rfl Tryz.call13 ((laws_markLts_ok H  e137).mono ?_)
       rintro e w134 ⟨rfl, H⟩
       refine ⟨_, rfl, trivial, fun a S => ?_⟩
       refine lq (.int .i64 x136.1) S (q_assign rfl) fun a S => ?_
       refine lx_nil (thenN ?_)
       refine wp_seq (wp_seq (region_plain ?_))
       refine lq (.int .i64 x136.1) S (q_move rfl) fun a S => ?_
       refine lq (.bool (decide (x136.1 < (0 : Int)))) S (q_lss rfl rfl) fun a S => ?_
       refine lq (.bool (decide (x136.1 < (0 : Int)))) S (q_move rfl) fun a S => ?_
       obtain ⟨t138, e139, hm⟩ := bind_some hm
       refine lx_cut 5 (fun a w => Slots a 112 [(1, (sv a1)), (2, (sv a2)), (3, (bp b49)), (8, (bp b78)), (9, (.int .i64 x71.2)), (11, (bp b104)), (12, (.int .i64 x97.2)), (70, (.bool t138))] ∧ Heap w0 [bA b104 [(.int .i64 x97.1.1), (.int .i64 x97.1.2.1), v99, v100] 31, oA (rList rStr) v99 x97.1.2.2.1, oA (rList Rimpl_Edge) v100 x97.1.2.2.2, bA b78 [(.int .i64 x71.1.1), (.int .i64 x71.1.2.1), v73, v74] 31, oA (rList rStr) v73 x71.1.2.2.1, oA (rList Rimpl_Edge) v74 x71.1.2.2.2, bA b49 [(.int .i64 a0.1), (.int .i64 a0.2.1), v33, v35] 25] w) ?_ ?_
       ·by_cases hc140 : (decide (x136.1 < (0 : Int))) = true
        ·have hm := ite_t hc140 e139
         refine lx_skip S rfl rfl (isB_ne hc140) (by decide) (fun a S => ?_)
         refine lx_skip S rfl rfl (isB_ne hc140) (by decide) (fun a S => ?_)
         refine lx_skip S rfl rfl (isB_ne hc140) (by decide) (fun a S => ?_)
         refine lx_skip S rfl rfl (isB_ne hc140) (by decide) (fun a S => ?_)
         refine lq (.bool true) S (q_pickT' rfl hc140 rfl) fun a S => ?_
         refine lx_nil ?_
         obtain rfl := Option.some.inj hm
         have H := H.sel [4, 5, 6, 8, 9, 10, 11] (by decide)
         exact ⟨S.sub ⟨rfl, rfl, rfl, rfl, rfl, rfl, rfl, rfl, trivial⟩, H⟩
        ·have hm := ite_f (eq_false_of_ne_true hc140) e139
         have hc140 : (decide (x136.1 < (0 : Int))) = false := eq_false_of_ne_true hc140
         refine lx_e (.agg #[(.int .i64 x97.1.1), (.int .i64 x97.1.2.1), v99, v100]) S (want_b rfl rfl hc140) (by decide) rfl trivial (q_loadA (cs := [(.int .i64 x97.1.1), (.int .i64 x97.1.2.1), v99, v100]) rfl (isP_bp _) Tryz.isAgg31 Tryz.sizeOf31 (by rintro _ rfl; exact (fun j u hu => boxAt (i := 4) H rfl hu))) (fun a S => ?_)
         refine lx_e (.agg #[(.int .i64 x71.1.1), (.int .i64 x71.1.2.1), v73, v74]) S (want_b rfl rfl hc140) (by decide) rfl trivial (q_loadA (cs := [(.int .i64 x71.1.1), (.int .i64 x71.1.2.1), v73, v74]) rfl (isP_bp _) Tryz.isAgg31 Tryz.sizeOf31 (by rintro _ rfl; exact (fun j u hu => boxAt (i := 8) H rfl hu))) (fun a S => ?_)
         obtain ⟨x143, e144, hm⟩ := bind_some hm
         refine lx_call (xs := [.tmp 66, .tmp 67]) S (want_b rfl rfl hc140) (by decide) rfl rfl Tryz.call10 ((laws_eqLts_ok ⟨[(.int .i64 x97.1.1), (.int .i64 x97.1.2.1), v99, v100], rfl, ⟨[(.int .i64 x97.1.1)], [(.int .i64 x97.1.2.1), v99, v100], rfl, rfl, ⟨[(.int .i64 x97.1.2.1)], [v99, v100], rfl, rfl, ⟨[v99], [v100], rfl, ((H.rdAt 5 rfl)).list_rd, ((H.rdAt 6 rfl)).list_rd⟩⟩⟩⟩ ⟨[(.int .i64 x71.1.1), (.int .i64 x71.1.2.1), v73, v74], rfl, ⟨[(.int .i64 x71.1.1)], [(.int .i64 x71.1.2.1), v73, v74], rfl, rfl, ⟨[(.int .i64 x71.1.2.1)], [v73, v74], rfl, rfl, ⟨[v73], [v74], rfl, ((H.rdAt 9 rfl)).list_rd, ((H.rdAt 10 rfl)).list_rd⟩⟩⟩⟩ e144).mono ?_)
         rintro e w141 ⟨rfl, Hc142⟩
         have H := H.call0 Hc142
         refine ⟨_, rfl, trivial, fun a S => ?_⟩
         refine lx_q (.bool (!x143)) S (want_b rfl rfl hc140) (by decide) (q_not rfl) (fun a S => ?_)
         refine lq (.bool (!x143)) S (q_pickF' rfl hc140 rfl) fun a S => ?_
         refine lx_nil ?_
         obtain rfl := Option.some.inj hm
         have H := H.sel [4, 5, 6, 8, 9, 10, 11] (by decide)
         exact ⟨S.sub ⟨rfl, rfl, rfl, rfl, rfl, rfl, rfl, rfl, trivial⟩, H⟩
       ·rintro a w ⟨S, H⟩
        refine lq (.bool t138) S (q_move rfl) fun a S => ?_
        obtain ⟨t146, e147, hm⟩ := bind_some hm
        refine lx_cut 4 (fun a w => Slots a 112 [(1, (sv a1)), (2, (sv a2)), (3, (bp b49)), (8, (bp b78)), (9, (.int .i64 x71.2)), (11, (bp b104)), (75, (.bool t146))] ∧ Heap w0 [bA b104 [(.int .i64 x97.1.1), (.int .i64 x97.1.2.1), v99, v100] 31, oA (rList rStr) v99 x97.1.2.2.1, oA (rList Rimpl_Edge) v100 x97.1.2.2.2, bA b78 [(.int .i64 x71.1.1), (.int .i64 x71.1.2.1), v73, v74] 31, oA (rList rStr) v73 x71.1.2.2.1, oA (rList Rimpl_Edge) v74 x71.1.2.2.2, bA b49 [(.int .i64 a0.1), (.int .i64 a0.2.1), v33, v35] 25] w) ?_ ?_
        ·by_cases hc148 : t138 = true
         ·have hm := ite_t hc148 e147
          refine lx_skip S rfl rfl (isB_ne hc148) (by decide) (fun a S => ?_)
          refine lx_skip S rfl rfl (isB_ne hc148) (by decide) (fun a S => ?_)
          refine lx_skip S rfl rfl (isB_ne hc148) (by decide) (fun a S => ?_)
          refine lq (.bool true) S (q_pickT' rfl hc148 rfl) fun a S => ?_
          refine lx_nil ?_
          obtain rfl := Option.some.inj hm
          exact ⟨S.sub ⟨rfl, rfl, rfl, rfl, rfl, rfl, rfl, trivial⟩, H⟩
         ·have hm := ite_f (eq_false_of_ne_true hc148) e147
          have hc148 : t138 = false := eq_false_of_ne_true hc148
          refine lx_q (.int .i64 x97.2) S (want_b rfl rfl hc148) (by decide) (q_move rfl) (fun a S => ?_)
          refine lx_q (.int .i64 x71.2) S (want_b rfl rfl hc148) (by decide) (q_move rfl) (fun a S => ?_)
          refine lx_q (.bool (x97.2 != x71.2)) S (want_b rfl rfl hc148) (by decide) (q_neq rfl rfl) (fun a S => ?_)
          refine lq (.bool (x97.2 != x71.2)) S (q_pickF' rfl hc148 rfl) fun a S => ?_
          refine lx_nil ?_
          obtain rfl := Option.some.inj hm
          exact ⟨S.sub ⟨rfl, rfl, rfl, rfl, rfl, rfl, rfl, trivial⟩, H⟩
        ·rintro a w ⟨S, H⟩
         refine lx_nil (thenN ?_)
         refine cond_b S rfl (fun hc149 => ?_) (fun hc149 => ?_)
         ·have hm := ite_t hc149 hm
          refine wp_seq (region_plain ?_)
          refine lq (.bool false) S (q_assign rfl) fun a S => ?_
          refine lx_nil (thenN ?_)
          refine wp_ret (then_ret ?_)
          obtain rfl := Option.some.inj hm
          have H : Heap w0 [] w := H.sel [] (by decide)
          exact leave1 S rfl rfl ⟨rfl, H⟩
         ·have hm := ite_f hc149 hm
          refine wp_skip (thenN ?_)
          refine wp_seq (region_plain ?_)
          refine lq (.int .i64 (1 : Int)) S (q_assign rfl) fun a S => ?_
          refine lx_nil (thenN ?_)
          refine wp_seq (region_plain ?_)
          refine lx_e (.agg #[(.int .i64 x97.1.1), (.int .i64 x97.1.2.1), v99, v100]) S trivial (by decide) rfl trivial (q_loadA (cs := [(.int .i64 x97.1.1), (.int .i64 x97.1.2.1), v99, v100]) rfl (isP_bp _) Tryz.isAgg31 Tryz.sizeOf31 (by rintro _ rfl; exact (fun j u hu => boxAt (i := 0) H rfl hu))) (fun a S => ?_)
          refine lq (.int .i64 (1 : Int)) S (q_move rfl) fun a S => ?_
          obtain ⟨x152, e153, hm⟩ := bind_some hm
          have H : Heap w0 [oA (rList Rimpl_Edge) v100 x97.1.2.2.2, bA b104 [(.int .i64 x97.1.1), (.int .i64 x97.1.2.1), v99, v100] 31, oA (rList rStr) v99 x97.1.2.2.1, bA b78 [(.int .i64 x71.1.1), (.int .i64 x71.1.2.1), v73, v74] 31, oA (rList rStr) v73 x71.1.2.2.1, oA (rList Rimpl_Edge) v74 x71.1.2.2.2, bA b49 [(.int .i64 a0.1), (.int .i64 a0.2.1), v33, v35] 25] w := H.front 2 rfl
          have H : Heap w0 [oA (rList rStr) v99 x97.1.2.2.1, oA (rList Rimpl_Edge) v100 x97.1.2.2.2, bA b104 [(.int .i64 x97.1.1), (.int .i64 x97.1.2.1), v99, v100] 31, bA b78 [(.int .i64 x71.1.1), (.int .i64 x71.1.2.1), v73, v74] 31, oA (rList rStr) v73 x71.1.2.2.1, oA (rList Rimpl_Edge) v74 x71.1.2.2.2, bA b49 [(.int .i64 a0.1), (.int .i64 a0.2.1), v33, v35] 25] w := H.front 2 rfl
          refine lx_call (xs := [.tmp 76, .tmp 77]) S trivial (by decide) rfl rfl Tryz.call13 ((laws_markLts_ok H  e153).mono ?_)
          rintro e w150 ⟨rfl, H⟩
          refine ⟨_, rfl, trivial, fun a S => ?_⟩
          refine lq (.int .i64 x152.1) S (q_assign rfl) fun a S => ?_
          refine lx_nil (thenN ?_)
          refine wp_seq (region_plain ?_)
          refine lq (.int .i64 (1 : Int)) S (q_assign rfl) fun a S => ?_
          refine lx_nil (thenN ?_)
          refine wp_seq (region_plain ?_)
          refine lx_e (.agg #[(.int .i64 x97.1.1), (.int .i64 x97.1.2.1), v99, v100]) S trivial (by decide) rfl trivial (q_loadA (cs := [(.int .i64 x97.1.1), (.int .i64 x97.1.2.1), v99, v100]) rfl (isP_bp _) Tryz.isAgg31 Tryz.sizeOf31 (by rintro _ rfl; exact (fun j u hu => boxAt (i := 2) H rfl hu))) (fun a S => ?_)
          refine lq (.int .i64 (1 : Int)) S (q_move rfl) fun a S => ?_
          obtain ⟨x156, e157, hm⟩ := bind_some hm
          refine lx_call (xs := [.tmp 79, .tmp 80]) S trivial (by decide) rfl rfl Tryz.call14 ((laws_heldLts_ok (a0 := (x97.1.1, x97.1.2.1, x152.2.1, x152.2.2)) ⟨[(.int .i64 x97.1.1), (.int .i64 x97.1.2.1), v99, v100], rfl, ⟨[(.int .i64 x97.1.1)], [(.int .i64 x97.1.2.1), v99, v100], rfl, rfl, ⟨[(.int .i64 x97.1.2.1)], [v99, v100], rfl, rfl, ⟨[v99], [v100], rfl, ((H.rdAt 0 rfl)).list_rd, ((H.rdAt 1 rfl)).list_rd⟩⟩⟩⟩  e157).mono ?_)
          rintro e w154 ⟨rfl, Hc155⟩
          have H := H.call0 Hc155
          refine ⟨_, rfl, trivial, fun a S => ?_⟩
          refine lq (.int .i64 x156) S (q_assign rfl) fun a S => ?_
          refine lx_nil (thenN ?_)
          refine wp_seq (wp_seq (region_plain ?_))
          refine lq (.int .i64 x156) S (q_move rfl) fun a S => ?_
          refine lq (.bool (decide (x156 < (0 : Int)))) S (q_lss rfl rfl) fun a S => ?_
          refine lx_nil (thenN ?_)
          refine cond_b S rfl (fun hc159 => ?_) (fun hc159 => ?_)
          ·have hm := ite_t hc159 hm
           refine wp_seq (region_plain ?_)
           refine lq (.bool false) S (q_assign rfl) fun a S => ?_
           refine lx_nil (thenN ?_)
           refine wp_ret (then_ret ?_)
           obtain rfl := Option.some.inj hm
           have H : Heap w0 [] w154 := H.sel [] (by decide)
           exact leave1 S rfl rfl ⟨rfl, H⟩
          ·have hm := ite_f hc159 hm
           refine wp_skip (thenN ?_)
           refine wp_seq (wp_seq (region_plain ?_))
           refine lq (.int .i64 x156) S (q_move rfl) fun a S => ?_
           refine lq (.int .i64 x152.1) S (q_move rfl) fun a S => ?_
           refine lq (.bool (x156 != x152.1)) S (q_neq rfl rfl) fun a S => ?_
           refine lx_nil (thenN ?_)
           refine cond_b S rfl (fun hc160 => ?_) (fun hc160 => ?_)
           ·have hm := ite_t hc160 hm
            refine wp_seq (region_plain ?_)
            refine lq (.bool false) S (q_assign rfl) fun a S => ?_
            refine lx_nil (thenN ?_)
            refine wp_ret (then_ret ?_)
            obtain rfl := Option.some.inj hm
            have H : Heap w0 [] w154 := H.sel [] (by decide)
            exact leave1 S rfl rfl ⟨rfl, H⟩
           ·have hm := ite_f hc160 hm
            refine wp_skip (thenN ?_)
            refine wp_seq (region_plain ?_)
            refine lx_e (.agg #[(.int .i64 a0.1), (.int .i64 a0.2.1), v33, v35]) S trivial (by decide) rfl trivial (q_loadA (cs := [(.int .i64 a0.1), (.int .i64 a0.2.1), v33, v35]) rfl (isP_bp _) Tryz.isAgg25 Tryz.sizeOf25 (by rintro _ rfl; exact (fun j u hu => boxAt (i := 6) H rfl hu))) (fun a S => ?_)
            obtain ⟨x163, e164, hm⟩ := bind_some hm
            refine lx_call (xs := [.tmp 88]) S trivial (by decide) rfl rfl Tryz.call8 ((laws_toLts_ok ⟨[(.int .i64 a0.1), (.int .i64 a0.2.1), v33, v35], rfl, ⟨[(.int .i64 a0.1)], [(.int .i64 a0.2.1), v33, v35], rfl, rfl, ⟨[(.int .i64 a0.2.1)], [v33, v35], rfl, rfl, ⟨[v33], [v35], rfl, ((H.arg h34)).list_rd, ((H.arg h36)).list_rd⟩⟩⟩⟩ e164).mono ?_)
            rintro e w161 ⟨v165, v166, rfl, Hc162⟩
            have H := H.call2 Hc162
            refine ⟨_, rfl, trivial, fun a S => ?_⟩
            refine lq (sv a1) S (q_move rfl) fun a S => ?_
            refine lq (sv a2) S (q_move rfl) fun a S => ?_
            obtain ⟨x172, e173, hm⟩ := bind_some hm
            refine lx_call (xs := [.tmp 89, .tmp 90, .tmp 91]) S trivial (by decide) rfl rfl Tryz.call16 ((impl_RenameLabels_ok (hG.ext H.ext) ⟨[(.int .i64 x163.1), (.int .i64 x163.2.1), v165, v166], rfl, ⟨[(.int .i64 x163.1)], [(.int .i64 x163.2.1), v165, v166], rfl, rfl, ⟨[(.int .i64 x163.2.1)], [v165, v166], rfl, rfl, ⟨[v165], [v166], rfl, ((H.rdAt 0 rfl)).list_rd, ((H.rdAt 1 rfl)).list_rd⟩⟩⟩⟩   e173).mono ?_)
            rintro e w170 ⟨v174, v175, rfl, Hc171⟩
            have H := H.call2 Hc171
            refine ⟨_, rfl, trivial, fun a S => ?_⟩
            refine lq (.tuple #[(.agg #[(.int .i64 x172.1.1), (.int .i64 x172.1.2.1), v174, v175]), (.int .i64 x172.2)]) S (q_move rfl) fun a S => ?_
            refine lq (.agg #[(.int .i64 x172.1.1), (.int .i64 x172.1.2.1), v174, v175]) S (q_extract rfl rfl) fun a S => ?_
            refine lq (.int .i64 x172.2) S (q_extract rfl rfl) fun a S => ?_
            refine lx_alloc S trivial (by decide) rfl H Tryz.zeroValue31 rfl (fun b179 w180 H => ⟨trivial, fun a S => ?_⟩)
            refine lx_storeBox (o := 0) (i := 0) (us := [(.int .i64 x172.1.1), (.int .i64 x172.1.2.1), v174, v175]) (cs' := [(.int .i64 x172.1.1), (.int .i64 x172.1.2.1), v174, v175]) S trivial rfl H rfl rfl rfl rfl Tryz.sizeOf31 (Nat.le_of_ble_eq_true rfl) (List.forall_mem_cons.2 ⟨rfl, (List.forall_mem_cons.2 ⟨rfl, (List.forall_mem_cons.2 ⟨one_sl (H.isSl 1 rfl), (List.forall_mem_cons.2 ⟨one_sl (H.isSl 2 rfl), (List.forall_mem_nil _)⟩)⟩)⟩)⟩) rfl (fun w182 H => ⟨trivial, fun a S => ?_⟩)
            change Heap w0 [bA b179 [(.int .i64 x172.1.1), (.int .i64 x172.1.2.1), v174, v175] 31, oA (rList rStr) v174 x172.1.2.2.1, oA (rList Rimpl_Edge) v175 x172.1.2.2.2, oA (rList rStr) v165 x163.2.2.1, oA (rList Rimpl_Edge) v166 x163.2.2.2, oA (rList rStr) v99 x152.2.1, oA (rList Rimpl_Edge) v100 x152.2.2, bA b104 [(.int .i64 x97.1.1), (.int .i64 x97.1.2.1), v99, v100] 31, bA b78 [(.int .i64 x71.1.1), (.int .i64 x71.1.2.1), v73, v74] 31, oA (rList rStr) v73 x71.1.2.2.1, oA (rList Rimpl_Edge) v74 x71.1.2.2.2, bA b49 [(.int .i64 a0.1), (.int .i64 a0.2.1), v33, v35] 25] w182 at H
            refine lq (.int .i64 x172.2) S (q_assign rfl) fun a S => ?_
            refine lx_nil (thenN ?_)
            refine wp_seq (wp_seq (region_plain ?_))
            refine lx_e (.agg #[(.int .i64 x172.1.1), (.int .i64 x172.1.2.1), v174, v175]) S trivial (by decide) rfl trivial (q_loadA (cs := [(.int .i64 x172.1.1), (.int .i64 x172.1.2.1), v174, v175]) rfl (isP_bp _) Tryz.isAgg31 Tryz.sizeOf31 (by rintro _ rfl; exact (fun j u hu => boxAt (i := 0) H rfl hu))) (fun a S => ?_)
            refine lx_e (.agg #[(.int .i64 x71.1.1), (.int .i64 x71.1.2.1), v73, v74]) S trivial (by decide) rfl trivial (q_loadA (cs := [(.int .i64 x71.1.1), (.int .i64 x71.1.2.1), v73, v74]) rfl (isP_bp _) Tryz.isAgg31 Tryz.sizeOf31 (by rintro _ rfl; exact (fun j u hu => boxAt (i := 8) H rfl hu))) (fun a S => ?_)
            obtain ⟨x185, e186, hm⟩ := bind_some hm
            refine lx_call (xs := [.tmp 95, .tmp 96]) S trivial (by decide) rfl rfl Tryz.call10 ((laws_eqLts_ok ⟨[(.int .i64 x172.1.1), (.int .i64 x172.1.2.1), v174, v175], rfl, ⟨[(.int .i64 x172.1.1)], [(.int .i64 x172.1.2.1), v174, v175], rfl, rfl, ⟨[(.int .i64 x172.1.2.1)], [v174, v175], rfl, rfl, ⟨[v174], [v175], rfl, ((H.rdAt 1 rfl)).list_rd, ((H.rdAt 2 rfl)).list_rd⟩⟩⟩⟩ ⟨[(.int .i64 x71.1.1), (.int .i64 x71.1.2.1), v73, v74], rfl, ⟨[(.int .i64 x71.1.1)], [(.int .i64 x71.1.2.1), v73, v74], rfl, rfl, ⟨[(.int .i64 x71.1.2.1)], [v73, v74], rfl, rfl, ⟨[v73], [v74], rfl, ((H.rdAt 9 rfl)).list_rd, ((H.rdAt 10 rfl)).list_rd⟩⟩⟩⟩ e186).mono ?_)
            rintro e w183 ⟨rfl, Hc184⟩
            have H := H.call0 Hc184
            refine ⟨_, rfl, trivial, fun a S => ?_⟩
            refine lq (.bool (!x185)) S (q_not rfl) fun a S => ?_
            refine lq (.bool (!x185)) S (q_move rfl) fun a S => ?_
            obtain ⟨t188, e189, hm⟩ := bind_some hm
            refine lx_cut 4 (fun a w => Slots a 112 [(11, (bp b104)), (14, (.int .i64 x152.1)), (103, (.bool t188))] ∧ Heap w0 [oA (rList rStr) v99 x152.2.1, oA (rList Rimpl_Edge) v100 x152.2.2, bA b104 [(.int .i64 x97.1.1), (.int .i64 x97.1.2.1), v99, v100] 31] w) ?_ ?_
            ·by_cases hc190 : (!x185) = true
             ·have hm := ite_t hc190 e189
              refine lx_skip S rfl rfl (isB_ne hc190) (by decide) (fun a S => ?_)
              refine lx_skip S rfl rfl (isB_ne hc190) (by decide) (fun a S => ?_)
              refine lx_skip S rfl rfl (isB_ne hc190) (by decide) (fun a S => ?_)
              refine lq (.bool true) S (q_pickT' rfl hc190 rfl) fun a S => ?_
              refine lx_nil ?_
              obtain rfl := Option.some.inj hm
              have H := H.sel [5, 6, 7] (by decide)
              exact ⟨S.sub ⟨rfl, rfl, rfl, trivial⟩, H⟩
             ·have hm := ite_f (eq_false_of_ne_true hc190) e189
              have hc190 : (!x185) = false := eq_false_of_ne_true hc190
              refine lx_q (.int .i64 x172.2) S (want_b rfl rfl hc190) (by decide) (q_move rfl) (fun a S => ?_)
              refine lx_q (.int .i64 x71.2) S (want_b rfl rfl hc190) (by decide) (q_move rfl) (fun a S => ?_)
              refine lx_q (.bool (x172.2 != x71.2)) S (want_b rfl rfl hc190) (by decide) (q_neq rfl rfl) (fun a S => ?_)
              refine lq (.bool (x172.2 != x71.2)) S (q_pickF' rfl hc190 rfl) fun a S => ?_
              refine lx_nil ?_
              obtain rfl := Option.some.inj hm
              have H := H.sel [5, 6, 7] (by decide)
              exact ⟨S.sub ⟨rfl, rfl, rfl, trivial⟩, H⟩
            ·rintro a w ⟨S, H⟩
             refine lx_nil (thenN ?_)
             refine cond_b S rfl (fun hc191 => ?_) (fun hc191 => ?_)
             ·have hm := ite_t hc191 hm
              refine wp_seq (region_plain ?_)
              refine lq (.bool false) S (q_assign rfl) fun a S => ?_
              refine lx_nil (thenN ?_)
              refine wp_ret (then_ret ?_)
              obtain rfl := Option.some.inj hm
              have H : Heap w0 [] w := H.sel [] (by decide)
              exact leave1 S rfl rfl ⟨rfl, H⟩
             ·have hm := ite_f hc191 hm
              refine wp_skip (thenN ?_)
              refine wp_seq (region_plain ?_)
              refine lq (.int .i64 (1 : Int)) S (q_assign rfl) fun a S => ?_
              refine lx_nil (thenN ?_)
              refine wp_seq (region_plain ?_)
              refine lx_e (.agg #[(.int .i64 x97.1.1), (.int .i64 x97.1.2.1), v99, v100]) S trivial (by decide) rfl trivial (q_loadA (cs := [(.int .i64 x97.1.1), (.int .i64 x97.1.2.1), v99, v100]) rfl (isP_bp _) Tryz.isAgg31 Tryz.sizeOf31 (by rintro _ rfl; exact (fun j u hu => boxAt (i := 2) H rfl hu))) (fun a S => ?_)
              refine lq (.int .i64 (1 : Int)) S (q_move rfl) fun a S => ?_
              obtain ⟨x194, e195, hm⟩ := bind_some hm
              refine lx_call (xs := [.tmp 104, .tmp 105]) S trivial (by decide) rfl rfl Tryz.call14 ((laws_heldLts_ok (a0 := (x97.1.1, x97.1.2.1, x152.2.1, x152.2.2)) ⟨[(.int .i64 x97.1.1), (.int .i64 x97.1.2.1), v99, v100], rfl, ⟨[(.int .i64 x97.1.1)], [(.int .i64 x97.1.2.1), v99, v100], rfl, rfl, ⟨[(.int .i64 x97.1.2.1)], [v99, v100], rfl, rfl, ⟨[v99], [v100], rfl, ((H.rdAt 0 rfl)).list_rd, ((H.rdAt 1 rfl)).list_rd⟩⟩⟩⟩  e195).mono ?_)
              rintro e w192 ⟨rfl, Hc193⟩
              have H := H.call0 Hc193
              refine ⟨_, rfl, trivial, fun a S => ?_⟩
              refine lq (.int .i64 x194) S (q_assign rfl) fun a S => ?_
              refine lx_nil (thenN ?_)
              refine wp_seq (wp_seq (region_plain ?_))
              refine lq (.int .i64 x194) S (q_move rfl) fun a S => ?_
              refine lq (.bool (decide (x194 < (0 : Int)))) S (q_lss rfl rfl) fun a S => ?_
              refine lx_nil (thenN ?_)
              refine cond_b S rfl (fun hc197 => ?_) (fun hc197 => ?_)
              ·have hm := ite_t hc197 hm
               refine wp_seq (region_plain ?_)
               refine lq (.bool false) S (q_assign rfl) fun a S => ?_
               refine lx_nil (thenN ?_)
               refine wp_ret (then_ret ?_)
               obtain rfl := Option.some.inj hm
               have H : Heap w0 [] w192 := H.sel [] (by decide)
               exact leave1 S rfl rfl ⟨rfl, H⟩
              ·have hm := ite_f hc197 hm
               refine wp_skip (thenN ?_)
               refine wp_seq (wp_seq (region_plain ?_))
               refine lq (.int .i64 x194) S (q_move rfl) fun a S => ?_
               refine lq (.int .i64 x152.1) S (q_move rfl) fun a S => ?_
               refine lq (.bool (x194 != x152.1)) S (q_neq rfl rfl) fun a S => ?_
               refine lx_nil (thenN ?_)
               refine cond_b S rfl (fun hc198 => ?_) (fun hc198 => ?_)
               ·have hm := ite_t hc198 hm
                refine wp_seq (region_plain ?_)
                refine lq (.bool false) S (q_assign rfl) fun a S => ?_
                refine lx_nil (thenN ?_)
                refine wp_ret (then_ret ?_)
                obtain rfl := Option.some.inj hm
                have H : Heap w0 [] w192 := H.sel [] (by decide)
                exact leave1 S rfl rfl ⟨rfl, H⟩
               ·have hm := ite_f hc198 hm
                refine wp_skip (thenN ?_)
                refine wp_seq (region_plain ?_)
                refine lq (.bool true) S (q_assign rfl) fun a S => ?_
                refine lx_nil (thenN ?_)
                refine wp_ret ?_
                obtain rfl := Option.some.inj hm
                have H : Heap w0 [] w192 := H.sel [] (by decide)
                exact leave1 S rfl rfl ⟨rfl, H⟩
end Go.Proofs.YtldmecdkdoipdaaGreatDoor
