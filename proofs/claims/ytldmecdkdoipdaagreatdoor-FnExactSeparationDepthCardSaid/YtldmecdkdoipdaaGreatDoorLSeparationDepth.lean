/- The model of a statement and its walk (printed by a program of this repo). -/
import Derived.Test.YtldmecdkdoipdaaGreatDoorF0
import Derived.Test.YtldmecdkdoipdaaGreatDoorF1
import Derived.Test.YtldmecdkdoipdaaGreatDoorF4
import Derived.Test.YtldmecdkdoipdaaGreatDoorF7
import Derived.Test.YtldmecdkdoipdaaGreatDoorFS
import Derived.Test.YtldmecdkdoipdaaGreatDoorGxJ
import Derived.Test.YtldmecdkdoipdaaGreatDoorGxMx
import Derived.Test.YtldmecdkdoipdaaGreatDoorGxT
import Derived.Test.YtldmecdkdoipdaaGreatDoorGxY
namespace Go.Proofs.YtldmecdkdoipdaaGreatDoor
open Go.RowKit Go.Gx

/-- impl.normal -/
def impl_normal_m (fuel : Nat) (a0 : (List Int)) : Option ((List Int)) :=
  (mks (a0.length : Int) (0 : Int)).bind fun x34 => (iter (fun (s : (List (Int × Int)) × (List Int) × (Int)) => (match s with | (m58, xs59, x60) => (if (decide (x60 < (a0.length : Int))) = true then (idx a0 x60).bind fun x89 => join (κ := List (Int × Int) → Int → Option (((List (Int × Int)) × (List Int) × (Int)) ⊕ (((List Int)) ⊕ ((List Int))))) (fun (m94 : List (Int × Int)) (x95 : Int) => (idx xs59 x60).bind fun _ => some (.inl (m94, (xs59.set x60.toNat x95), (W (x60 + (1 : Int)))))) (fun K96 => (if (!(mget m58 x89).isSome) = true then (K96 (mset m58 x89 (m58.length : Int)) (m58.length : Int)) else (K96 m58 ((mget m58 x89).getD (0 : Int))))) else some (.inr (.inl (xs59)))) : Option (((List (Int × Int)) × (List Int) × (Int)) ⊕ (((List Int)) ⊕ ((List Int)))))) fuel (([] : List (Int × Int)), x34, (0 : Int))).bind fun res80 => ctl (β := (List Int)) (ρ := (List Int)) (τ := (List Int)) res80 (fun (xs79) => some (xs79)) (fun q => some (q))
set_option maxRecDepth 20000 in
theorem impl_normal_ok [dr : Dr] {w0 : World} {fuel : Nat} {p0 : Value} {a0 : (List Int)} {r : (List Int)} (h0 : Rd (rList (rInt .i64)) w0 p0 a0) (hm : impl_normal_m fuel a0 = some r) :
  Calls Tryz.prog 125 #[p0] w0 fun e w => ∃ (v0 : Value), e = .returned (v0) ∧ Heap w0 [oA (rList (rInt .i64)) v0 r] w := by
 unfold impl_normal_m at hm
 have H := Heap.start w0
 refine enter (args := [p0]) Tryz.func125 rfl 39 rfl (Nat.le_of_ble_eq_true rfl) (fun a S => ?_)
 refine wp_seq (region_plain ?_)
 refine lq (.slice none 0 0) S (q_assign rfl) fun a S => ?_
 refine lx_nil (thenN ?_)
 refine wp_seq (region_plain ?_)
 refine lx_makeMap (fun n : Int => Value.int .i64 n) (fun n : Int => Value.int .i64 n) S trivial (by decide) rfl H (fun r31 w32 H => ⟨trivial, fun a S => ?_⟩)
 refine lq (.map (some r31)) S (q_assign rfl) fun a S => ?_
 refine lx_nil (thenN ?_)
 refine wp_seq (region_plain ?_)
 refine lq p0 S (q_move rfl) fun a S => ?_
 refine lq (.int .i64 (a0.length : Int)) S (q_lenSl rfl (h0).isSl rfl Tryz.underlying61) fun a S => ?_
 obtain ⟨x34, e35, hm⟩ := bind_some hm
 obtain ⟨m36, hn, hn2, rfl⟩ := mks_some e35
 refine lx_make (r := (rInt .i64)) (z0 := (0 : Int)) (n := m36) S trivial (by decide) rfl H (by rw [← hn]; rfl) (by rw [← hn]; rfl) Tryz.underlying61 (Tryz.ti2) rfl rfl (Nat.le_of_ble_eq_true rfl) (fun w => ⟨rfl, rfl⟩) hn2 (by decide) (fun v37 w38 H => ⟨trivial, fun a S => ?_⟩)
 refine lq v37 S (q_assign rfl) fun a S => ?_
 refine lx_nil (thenN ?_)
 refine wp_seq (wp_seq (region_plain ?_))
 refine lq p0 S (q_move rfl) fun a S => ?_
 refine lq (.int .i64 (a0.length : Int)) S (q_lenSl rfl (h0).isSl rfl Tryz.underlying61) fun a S => ?_
 refine lq (.int .i64 (0 : Int)) S (q_move rfl) fun a S => ?_
 refine lx_nil (thenN ?_)
 obtain ⟨res80, hit81, hk84⟩ := bind_some hm
 obtain ⟨f82, hf83, hit81⟩ := iter_name hit81
 refine block_loop (fun a w => ∃ (xs79 : List Int), Slots a 39 [(4, v37)] ∧ Heap w0 [oA (rList (rInt .i64)) v37 xs79] w ∧ res80 = .inl (xs79)) ?_ ?_
 ·rintro a w ⟨xs79, S, H, rfl⟩
  have hm := ctl_inl hk84
  refine thenN ?_
  refine wp_seq (region_plain ?_)
  refine lq v37 S (q_move rfl) fun a S => ?_
  refine lq v37 S (q_assign rfl) fun a S => ?_
  refine lx_nil (thenN ?_)
  refine wp_ret ?_
  obtain rfl := Option.some.inj hm
  exact leave1 S rfl rfl ⟨v37, rfl, H⟩
 ·skip
  have H : Heap w0 [mapA (fun n : Int => Value.int .i64 n) (fun n : Int => Value.int .i64 n) r31 ([] : List (Int × Int)), oA (rList (rInt .i64)) v37 (List.replicate m36 (0 : Int))] w38 := H.front 1 rfl
  refine loop_ghost (fun n a w => ∃ (m58 : List (Int × Int)) (xs59 : List Int) (x60 : Int), Slots a 39 [(3, (.map (some r31))), (4, v37), (13, p0), (14, (.int .i64 (a0.length : Int))), (15, (.int .i64 x60))] ∧ Heap w0 [mapA (fun n : Int => Value.int .i64 n) (fun n : Int => Value.int .i64 n) r31 m58, oA (rList (rInt .i64)) v37 xs59] w ∧ iter f82 n (m58, xs59, x60) = some res80) _ ⟨([] : List (Int × Int)), (List.replicate m36 (0 : Int)), (0 : Int), S.sub ⟨rfl, rfl, rfl, rfl, rfl, trivial⟩, H, hit81⟩ ?_
  rintro n a w ⟨m58, xs59, x60, S, H, hit81⟩
  obtain ⟨m85, o86, rfl, hm, hc87⟩ := iter_step hit81
  rw [hf83] at hm
  refine wp_seq (region_plain ?_)
  refine lq (.bool (decide (x60 < (a0.length : Int)))) S (q_lss rfl rfl) fun a S => ?_
  refine lx_nil (thenN ?_)
  refine wp_seq ?_
  refine cond_b S rfl (fun hc88 => ?_) (fun hc88 => ?_)
  ·have hm := ite_t hc88 hm
   refine wp_skip (thenN ?_)
   refine wp_seq ?_
   refine wp_block ?_
   refine wp_seq (region_plain ?_)
   refine lq (.int .i64 x60) S (q_move rfl) fun a S => ?_
   obtain ⟨x89, e90, hm⟩ := bind_some hm
   obtain ⟨c91, h92, hat93⟩ := (h0).elem (idx_some e90).2
   obtain rfl := h92
   have hlt := lt_of_idx (idx_some e90).2
   refine lq (ePtr p0 (x60.toNat * 1)) S (q_indexAddr rfl (h0).isSl rfl (idx_some e90).1 hlt Tryz.underlying61 Tryz.sizeOf2) fun a S => ?_
   refine lx_e (.int .i64 x89) S trivial (by decide) rfl trivial (q_load1 rfl Tryz.isAgg2 (by rintro _ rfl; exact ((hat93 0 _ rfl).ext H.ext))) (fun a S => ?_)
   refine lq (.int .i64 x60) S (q_assign rfl) fun a S => ?_
   refine lq (.int .i64 x89) S (q_assign rfl) fun a S => ?_
   refine lx_nil (thenN ?_)
   refine wp_seq (region_plain ?_)
   refine lq (.map (some r31)) S (q_move rfl) fun a S => ?_
   refine lq (.int .i64 x89) S (q_move rfl) fun a S => ?_
   refine lx_e (.tuple #[(.int .i64 ((mget m58 x89).getD (0 : Int))), (.bool (mget m58 x89).isSome)]) S trivial (by decide) rfl trivial (q_lookup (key := x89) (z0 := (0 : Int)) (keys_int .i64) rfl rfl Tryz.underlying174 Tryz.underlying2 Tryz.zeroValue2 (by rintro _ rfl; exact H.mapAt 0 rfl)) (fun a S => ?_)
   refine lq (.tuple #[(.int .i64 ((mget m58 x89).getD (0 : Int))), (.bool (mget m58 x89).isSome)]) S (q_move rfl) fun a S => ?_
   refine lq (.int .i64 ((mget m58 x89).getD (0 : Int))) S (q_extract rfl rfl) fun a S => ?_
   refine lq (.bool (mget m58 x89).isSome) S (q_extract rfl rfl) fun a S => ?_
   refine lq (.int .i64 ((mget m58 x89).getD (0 : Int))) S (q_assign rfl) fun a S => ?_
   refine lq (.bool (mget m58 x89).isSome) S (q_assign rfl) fun a S => ?_
   refine lx_nil (thenN ?_)
   obtain ⟨K96, hK97, hm⟩ := join_elim hm
   refine seq_cut (fun a w => ∃ (m94 : List (Int × Int)) (x95 : Int), Slots a 39 [(3, (.map (some r31))), (4, v37), (5, (.int .i64 x60)), (7, (.int .i64 x95)), (13, p0), (14, (.int .i64 (a0.length : Int))), (15, (.int .i64 x60))] ∧ Heap w0 [mapA (fun n : Int => Value.int .i64 n) (fun n : Int => Value.int .i64 n) r31 m94, oA (rList (rInt .i64)) v37 xs59] w ∧ K96 m94 x95 = some o86) ?_ ?_
   ·rintro a w ⟨m94, x95, S, H, hm⟩
    subst hK97
    refine region_plain ?_
    refine lq v37 S (q_move rfl) fun a S => ?_
    refine lq (.int .i64 x60) S (q_move rfl) fun a S => ?_
    refine lq (.int .i64 x95) S (q_move rfl) fun a S => ?_
    obtain ⟨x98, e99, hm⟩ := bind_some hm
    have hlt := lt_of_idx (idx_some e99).2
    refine lq (ePtr v37 (x60.toNat * 1)) S (q_indexAddr rfl (H.isSl 1 rfl) rfl (idx_some e99).1 hlt Tryz.underlying61 Tryz.sizeOf2) fun a S => ?_
    have H : Heap w0 [oA (rList (rInt .i64)) v37 xs59, mapA (fun n : Int => Value.int .i64 n) (fun n : Int => Value.int .i64 n) r31 m94] w := H.front 1 rfl
    refine lx_storeElem (r := (rInt .i64)) (us := [(.int .i64 x95)]) (off := 0) (e' := x95) S trivial rfl H.putE (ev_zero rfl) rfl (idx_some e99).2 rfl Tryz.sizeOf2 (Nat.le_of_ble_eq_true rfl) (List.forall_mem_cons.2 ⟨rfl, (List.forall_mem_nil _)⟩) (Upd.full rfl (fun w G hG => by cases (show G = [] from hG); exact ⟨rfl, rfl⟩)) (fun w100 H => ⟨trivial, fun a S => ?_⟩)
    refine lx_nil ?_
    refine inBlock_norm ?_
    refine thenN ?_
    refine region_plain ?_
    refine lq (.int .i64 (W (x60 + (1 : Int)))) S (q_add rfl rfl) fun a S => ?_
    refine lq (.int .i64 (W (x60 + (1 : Int)))) S (q_move rfl) fun a S => ?_
    refine lx_nil ?_
    have H : Heap w0 [mapA (fun n : Int => Value.int .i64 n) (fun n : Int => Value.int .i64 n) r31 m94, oA (rList (rInt .i64)) v37 (xs59.set x60.toNat x95)] w100 := H.front 1 rfl
    exact ⟨m85, Nat.lt_succ_self _, m94, (xs59.set x60.toNat x95), (W (x60 + (1 : Int))), S.sub ⟨rfl, rfl, rfl, rfl, rfl, trivial⟩, H, it_cont hm hc87⟩
   ·skip
    refine wp_seq (region_plain ?_)
    refine lq (.bool (mget m58 x89).isSome) S (q_move rfl) fun a S => ?_
    refine lq (.bool (!(mget m58 x89).isSome)) S (q_not rfl) fun a S => ?_
    refine lx_nil (thenN ?_)
    refine cond_b S rfl (fun hc101 => ?_) (fun hc101 => ?_)
    ·have hm := ite_t hc101 hm
     refine wp_seq (region_plain ?_)
     refine lq (.map (some r31)) S (q_move rfl) fun a S => ?_
     refine lx_e (.int .i64 (m58.length : Int)) S trivial (by decide) rfl trivial (q_lenMap rfl rfl Tryz.underlying174 (by rintro _ rfl; exact H.mapAt 0 rfl)) (fun a S => ?_)
     refine lq (.int .i64 (m58.length : Int)) S (q_assign rfl) fun a S => ?_
     refine lx_nil (thenN ?_)
     refine region_plain ?_
     refine lq (.map (some r31)) S (q_move rfl) fun a S => ?_
     refine lq (.int .i64 x89) S (q_move rfl) fun a S => ?_
     refine lq (.int .i64 (m58.length : Int)) S (q_move rfl) fun a S => ?_
     refine lx_mapUpdate (key := x89) (val := (m58.length : Int)) (keys_int .i64) S trivial rfl H rfl rfl rfl Tryz.underlying174 Tryz.underlying2 (fun w102 H => ⟨trivial, fun a S => ?_⟩)
     refine lx_nil ?_
     exact ⟨(mset m58 x89 (m58.length : Int)), (m58.length : Int), S.sub ⟨rfl, rfl, rfl, rfl, rfl, rfl, rfl, trivial⟩, H, hm⟩
    ·have hm := ite_f hc101 hm
     refine wp_skip ?_
     exact ⟨m58, ((mget m58 x89).getD (0 : Int)), S.sub ⟨rfl, rfl, rfl, rfl, rfl, rfl, rfl, trivial⟩, H, hm⟩
  ·have hm := ite_f hc88 hm
   refine wp_exit ?_
   refine then_exit ?_
   refine then_exit ?_
   refine inBlock_exit ?_
   obtain rfl := it_brk hm hc87
   have H : Heap w0 [oA (rList (rInt .i64)) v37 xs59] w := H.sel [1] (by decide)
   exact ⟨xs59, S.sub ⟨rfl, trivial⟩, H, rfl⟩

/-- impl.normalKeys -/
def impl_normalKeys_m (fuel : Nat) (a0 : (List (List Int))) : Option ((List Int)) :=
  (iter (fun (s : (List Int) × (Int)) => (match s with | (xs69, x71) => (if (decide (x71 < (a0.length : Int))) = true then (idx a0 x71).bind fun x128 => (sub a0 (0 : Int) x71).bind fun xs139 => (slices_IndexFunc___int64__int64_m fuel xs139 (fun (z0 : (List Int)) => impl_normalKeys_1_m fuel z0 x128)).bind fun x143 => join (κ := Int → Option (((List Int) × (Int)) ⊕ (((List Int)) ⊕ ((List Int))))) (fun (x147 : Int) => (app xs69 [x147]).bind fun x153 => some (.inl (x153, (W (x71 + (1 : Int)))))) (fun K148 => (if (decide (x143 < (0 : Int))) = true then (K148 x71) else (K148 x143))) else some (.inr (.inl (xs69)))) : Option (((List Int) × (Int)) ⊕ (((List Int)) ⊕ ((List Int)))))) fuel ([], (0 : Int))).bind fun res111 => ctl (β := (List Int)) (ρ := (List Int)) (τ := (List Int)) res111 (fun (xs109) => (impl_normal_m fuel xs109).bind fun x118 => some (x118)) (fun q => some (q))
set_option maxRecDepth 20000 in
theorem impl_normalKeys_ok [dr : Dr] {w0 : World} {fuel : Nat} {p0 : Value} {a0 : (List (List Int))} {r : (List Int)} (h0 : Rd (rList (rList (rInt .i64))) w0 p0 a0) (hm : impl_normalKeys_m fuel a0 = some r) :
  Calls Tryz.prog 104 #[p0] w0 fun e w => ∃ (v0 : Value), e = .returned (v0) ∧ Heap w0 [oA (rList (rInt .i64)) v0 r] w := by
 unfold impl_normalKeys_m at hm
 have H := Heap.start w0
 refine enter (args := [p0]) Tryz.func104 rfl 29 rfl (Nat.le_of_ble_eq_true rfl) (fun a S => ?_)
 refine wp_seq (region_plain ?_)
 refine lq (.slice none 0 0) S (q_assign rfl) fun a S => ?_
 refine lx_nil (thenN ?_)
 refine wp_seq (region_plain ?_)
 refine lq (.slice none 0 0) S (q_assign rfl) fun a S => ?_
 refine lx_nil (thenN ?_)
 refine wp_seq (wp_seq (region_plain ?_))
 refine lq p0 S (q_move rfl) fun a S => ?_
 refine lq (.int .i64 (a0.length : Int)) S (q_lenSl rfl (h0).isSl rfl Tryz.underlying47) fun a S => ?_
 refine lq (.int .i64 (0 : Int)) S (q_move rfl) fun a S => ?_
 refine lx_nil (thenN ?_)
 obtain ⟨res111, hit112, hk115⟩ := bind_some hm
 obtain ⟨f113, hf114, hit112⟩ := iter_name hit112
 refine block_loop (fun a w => ∃ (xs109 : List Int) (v108 : Value), Slots a 29 [(3, v108)] ∧ Heap w0 [oA (rList (rInt .i64)) v108 xs109] w ∧ res111 = .inl (xs109)) ?_ ?_
 ·rintro a w ⟨xs109, v108, S, H, rfl⟩
  have hm := ctl_inl hk115
  refine thenN ?_
  refine wp_seq (region_plain ?_)
  refine lq v108 S (q_move rfl) fun a S => ?_
  obtain ⟨x118, e119, hm⟩ := bind_some hm
  refine lx_call (xs := [.tmp 27]) S trivial (by decide) rfl rfl Tryz.call125 ((impl_normal_ok (H.rdAt 0 rfl) e119).mono ?_)
  rintro e w116 ⟨v120, rfl, Hc117⟩
  have H := H.call1 Hc117
  refine ⟨_, rfl, trivial, fun a S => ?_⟩
  refine lq v120 S (q_assign rfl) fun a S => ?_
  refine lx_nil (thenN ?_)
  refine wp_ret ?_
  obtain rfl := Option.some.inj hm
  have H : Heap w0 [oA (rList (rInt .i64)) v120 x118] w116 := H.sel [0] (by decide)
  exact leave1 S rfl rfl ⟨v120, rfl, H⟩
 ·skip
  have H : Heap w0 [oA (rList (rInt .i64)) (.slice none 0 0) ([] : List Int)] w0 := H.nilList (rInt .i64)
  refine loop_ghost (fun n a w => ∃ (xs69 : List Int) (x71 : Int) (v68 : Value), Slots a 29 [(0, p0), (3, v68), (7, p0), (8, (.int .i64 (a0.length : Int))), (9, (.int .i64 x71))] ∧ Heap w0 [oA (rList (rInt .i64)) v68 xs69] w ∧ iter f113 n (xs69, x71) = some res111) _ ⟨[], (0 : Int), (.slice none 0 0), S.sub ⟨rfl, rfl, rfl, rfl, rfl, trivial⟩, H, hit112⟩ ?_
  rintro n a w ⟨xs69, x71, v68, S, H, hit112⟩
  obtain ⟨m124, o125, rfl, hm, hc126⟩ := iter_step hit112
  rw [hf114] at hm
  refine wp_seq (region_plain ?_)
  refine lq (.bool (decide (x71 < (a0.length : Int)))) S (q_lss rfl rfl) fun a S => ?_
  refine lx_nil (thenN ?_)
  refine wp_seq ?_
  refine cond_b S rfl (fun hc127 => ?_) (fun hc127 => ?_)
  ·have hm := ite_t hc127 hm
   refine wp_skip (thenN ?_)
   refine wp_seq ?_
   refine wp_block ?_
   refine wp_seq (region_plain ?_)
   refine lq (.int .i64 x71) S (q_move rfl) fun a S => ?_
   obtain ⟨x128, e129, hm⟩ := bind_some hm
   obtain ⟨c130, h131, hat132⟩ := (h0).elem (idx_some e129).2
   obtain ⟨v133, rfl, h134⟩ := rd_list h131
   have hlt := lt_of_idx (idx_some e129).2
   refine lq (ePtr p0 (x71.toNat * 1)) S (q_indexAddr rfl (h0).isSl rfl (idx_some e129).1 hlt Tryz.underlying47 Tryz.sizeOf61) fun a S => ?_
   refine lx_e v133 S trivial (by decide) rfl trivial (q_load1 rfl Tryz.isAgg61 (by rintro _ rfl; exact ((hat132 0 _ rfl).ext H.ext))) (fun a S => ?_)
   refine lx_alloc S trivial (by decide) rfl H Tryz.zeroValue61 rfl (fun b135 w136 H => ⟨trivial, fun a S => ?_⟩)
   refine lq (.int .i64 x71) S (q_assign rfl) fun a S => ?_
   refine lx_storeBox (o := 0) (i := 0) (us := [v133]) (cs' := [v133]) S trivial rfl H rfl rfl rfl (cells_sl (h134).isSl) Tryz.sizeOf61 (Nat.le_of_ble_eq_true rfl) (List.forall_mem_cons.2 ⟨one_sl (h134).isSl, (List.forall_mem_nil _)⟩) rfl (fun w138 H => ⟨trivial, fun a S => ?_⟩)
   change Heap w0 [bA b135 [v133] 61, oA (rList (rInt .i64)) v68 xs69] w138 at H
   refine lx_nil (thenN ?_)
   refine wp_seq (region_plain ?_)
   refine lq p0 S (q_move rfl) fun a S => ?_
   refine lq (.int .i64 x71) S (q_move rfl) fun a S => ?_
   obtain ⟨xs139, e140, hm⟩ := bind_some hm
   have hsb := (sub_some e140).1
   refine lq (subV p0 ((0 : Int)).toNat (x71).toNat 1) S (q_slice (lo := none) (hi := (some (.tmp 15))) (l := (0 : Int)) (h := x71) (size := 1) rfl (h0).isSl Tryz.underlying47 Tryz.sizeOf61 rfl rfl hsb.1 hsb.2.1 hsb.2.2) fun a S => ?_
   refine lq (.func (.func 124) #[] #[(bp b135)]) S (q_makeFunc (xs := []) (ys := [.tmp 5]) rfl rfl) fun a S => ?_
   obtain ⟨x143, e144, hm⟩ := bind_some hm
   have hcap145 : Rd (rPtr (rList (rInt .i64))) w138 (bp b135) x128 := (rdPtr_box H 0 rfl ((H.arg h134)).list_rd)
   refine lx_call (xs := [.tmp 16, .tmp 17]) S trivial (by decide) rfl rfl Tryz.call77 ((slices_IndexFunc___int64__int64_ok (f1 := 124) (fs1 := ([] : List Value)) (cp1 := ([(bp b135)] : List Value)) (a1 := (fun (z0 : (List Int)) => impl_normalKeys_1_m fuel z0 x128)) (H.arg (h0.sub e140)) Tryz.call124 (fun he h0_ hm => impl_normalKeys_1_ok  h0_ (hcap145.ext he) hm) e144).mono ?_)
   rintro e w141 ⟨rfl, Hc142⟩
   have H := H.call0 Hc142
   refine ⟨_, rfl, trivial, fun a S => ?_⟩
   refine lq (.int .i64 x143) S (q_assign rfl) fun a S => ?_
   refine lx_nil (thenN ?_)
   obtain ⟨K148, hK149, hm⟩ := join_elim hm
   refine seq_cut (fun a w => ∃ (x147 : Int), Slots a 29 [(0, p0), (3, v68), (6, (.int .i64 x147)), (7, p0), (8, (.int .i64 (a0.length : Int))), (9, (.int .i64 x71))] ∧ Heap w0 [oA (rList (rInt .i64)) v68 xs69] w ∧ K148 x147 = some o125) ?_ ?_
   ·rintro a w ⟨x147, S, H, hm⟩
    subst hK149
    refine region_plain ?_
    refine lq v68 S (q_move rfl) fun a S => ?_
    refine lq (.int .i64 x147) S (q_move rfl) fun a S => ?_
    refine lx_buildSlice (r := (rInt .i64)) (xs := [x147]) (ps := [(0, [(.int .i64 x147)])]) (cs := [(.int .i64 x147)]) (parts := [(0, .tmp 23)]) S trivial (by decide) rfl (H.put0 (A := eA) rfl) rfl Tryz.underlying61 Tryz.sizeOf2 Tryz.zeroValue2 (by decide) ⟨rfl, rfl, Nat.le_of_ble_eq_true rfl, trivial⟩ (by intro zs hz; exact fill_dense hz ⟨rfl, trivial⟩ rfl rfl) rfl (by decide) (fun w F hA => by cases (show F = [] from hA); exact ⟨_, _, [(.int .i64 x147)], _, rfl, rfl, ⟨rfl, rfl⟩, ⟨rfl, rfl⟩⟩) (fun v150 w151 H => ⟨trivial, fun a S => ?_⟩)
    obtain ⟨x153, e154, hm⟩ := bind_some hm
    obtain ⟨hle, hap⟩ := app_some e154
    replace hap := hap.symm
    subst hap
    have H : Heap w0 [oA (rList (rInt .i64)) v150 [x147], oA (rList (rInt .i64)) v68 xs69] w151 := H.front 0 rfl
    have H : Heap w0 [oA (rList (rInt .i64)) v68 xs69, oA (rList (rInt .i64)) v150 [x147]] w151 := H.front 1 rfl
    refine lx_appendOwn (r := (rInt .i64)) S trivial (by decide) rfl H rfl rfl Tryz.underlying61 Tryz.ti2 rfl rfl rfl (Nat.le_of_ble_eq_true rfl) (by decide) hle (fun v155 w156 H => ⟨trivial, fun a S => ?_⟩)
    refine lq v155 S (q_assign rfl) fun a S => ?_
    refine lx_nil ?_
    refine inBlock_norm ?_
    refine thenN ?_
    refine region_plain ?_
    refine lq (.int .i64 (W (x71 + (1 : Int)))) S (q_add rfl rfl) fun a S => ?_
    refine lq (.int .i64 (W (x71 + (1 : Int)))) S (q_move rfl) fun a S => ?_
    refine lx_nil ?_
    exact ⟨m124, Nat.lt_succ_self _, (xs69 ++ [x147]), (W (x71 + (1 : Int))), v155, S.sub ⟨rfl, rfl, rfl, rfl, rfl, trivial⟩, H, it_cont hm hc126⟩
   ·skip
    refine wp_seq (region_plain ?_)
    refine lq (.int .i64 x143) S (q_move rfl) fun a S => ?_
    refine lq (.bool (decide (x143 < (0 : Int)))) S (q_lss rfl rfl) fun a S => ?_
    refine lx_nil (thenN ?_)
    refine cond_b S rfl (fun hc158 => ?_) (fun hc158 => ?_)
    ·have hm := ite_t hc158 hm
     refine region_plain ?_
     refine lq (.int .i64 x71) S (q_move rfl) fun a S => ?_
     refine lq (.int .i64 x71) S (q_assign rfl) fun a S => ?_
     refine lx_nil ?_
     have H : Heap w0 [oA (rList (rInt .i64)) v68 xs69] w141 := H.sel [1] (by decide)
     exact ⟨x71, S.sub ⟨rfl, rfl, rfl, rfl, rfl, rfl, trivial⟩, H, hm⟩
    ·have hm := ite_f hc158 hm
     refine wp_skip ?_
     have H : Heap w0 [oA (rList (rInt .i64)) v68 xs69] w141 := H.sel [1] (by decide)
     exact ⟨x143, S.sub ⟨rfl, rfl, rfl, rfl, rfl, rfl, trivial⟩, H, hm⟩
  ·have hm := ite_f hc127 hm
   refine wp_exit ?_
   refine then_exit ?_
   refine then_exit ?_
   refine inBlock_exit ?_
   obtain rfl := it_brk hm hc126
   exact ⟨xs69, v68, S.sub ⟨rfl, trivial⟩, H, rfl⟩

/-- (impl.Lts).refine -/
def impl_Lts_refine_m (fuel : Nat) (a0 : Timpl_Lts) (a1 : (List Int)) : Option ((List Int)) :=
  (mks a0.1 (Mx.own ([] : (List Int)))).bind fun x52 => (iter (fun (s : (List (Mx (List Int))) × (Int)) => (match s with | (xs72, x73) => (if (decide (x73 < (a1.length : Int))) = true then (idx a1 x73).bind fun x24401 => (idx xs72 x73).bind fun _ => some (.inl ((xs72.set x73.toNat (Mx.own [x24401])), (W (x73 + (1 : Int))))) else some (.inr (.inl (xs72)))) : Option (((List (Mx (List Int))) × (Int)) ⊕ (((List (Mx (List Int)))) ⊕ ((List Int)))))) fuel (x52, (0 : Int))).bind fun res89 => ctl (β := (List (Mx (List Int)))) (ρ := (List Int)) (τ := (List Int)) res89 (fun (xs88) => (mks a0.1 (Mx.own ([] : (List Int)))).bind fun x94 => (iter (fun (s : (List (Mx (List Int))) × (Int)) => (match s with | (xs4148, x4149) => (if (decide (x4149 < (a0.2.2.2.length : Int))) = true then join (κ := List (Mx (List Int)) → Option (((List (Mx (List Int))) × (Int)) ⊕ (((List (Mx (List Int)))) ⊕ ((List Int))))) (fun (xs20352 : List (Mx (List Int))) => some (.inl (xs20352, (W (x4149 + (1 : Int)))))) (fun K20353 => (idx a0.2.2.2 x4149).bind fun x20355 => (idx xs4148 x20355.1).bind fun x20374 => (Mx.mine x20374).bind fun x20376 => (idx a1 x20355.2.2).bind fun x20381 => (app x20376 [(W ((W (x20355.2.1 * a0.1)) + x20381))]).bind fun x20389 => (idx (xs4148.set x20355.1.toNat .gone) x20355.1).bind fun _ => (K20353 ((xs4148.set x20355.1.toNat .gone).set x20355.1.toNat (Mx.own x20389)))) else some (.inr (.inl (xs4148)))) : Option (((List (Mx (List Int))) × (Int)) ⊕ (((List (Mx (List Int)))) ⊕ ((List Int)))))) fuel (x94, (0 : Int))).bind fun res8199 => ctl (β := (List (Mx (List Int)))) (ρ := (List Int)) (τ := (List Int)) res8199 (fun (xs8198) => (iter (fun (s : (List (Mx (List Int))) × (List (Mx (List Int))) × (Int)) => (match s with | (xs12246, xs12247, x12248) => (if (decide (x12248 < (xs8198.length : Int))) = true then join (κ := List (Mx (List Int)) → List (Mx (List Int)) → Option (((List (Mx (List Int))) × (List (Mx (List Int))) × (Int)) ⊕ (((List (Mx (List Int)))) ⊕ ((List Int))))) (fun (xs16310 : List (Mx (List Int))) (xs16311 : List (Mx (List Int))) => some (.inl (xs16310, xs16311, (W (x12248 + (1 : Int)))))) (fun K16312 => (idx xs12247 x12248).bind fun x16314 => (Mx.mine x16314).bind fun x16316 => (slices_Sort__int64_int64_m fuel x16316).bind fun x16323 => (idx xs12246 x12248).bind fun x16327 => (Mx.mine x16327).bind fun x16329 => (slices_Compact__int64_int64_m fuel x16323).bind fun x16336 => (app x16329 x16336).bind fun x16340 => (idx (xs12246.set x12248.toNat .gone) x12248).bind fun _ => (K16312 ((xs12246.set x12248.toNat .gone).set x12248.toNat (Mx.own x16340)) (xs12247.set x12248.toNat .gone))) else some (.inr (.inl (xs12246)))) : Option (((List (Mx (List Int))) × (List (Mx (List Int))) × (Int)) ⊕ (((List (Mx (List Int)))) ⊕ ((List Int)))))) fuel (xs88, xs8198, (0 : Int))).bind fun res16292 => ctl (β := (List (Mx (List Int)))) (ρ := (List Int)) (τ := (List Int)) res16292 (fun (xs16291) => (allO Mx.val xs16291).bind fun ys16299 => (impl_normalKeys_m fuel ys16299).bind fun x16301 => some (x16301)) (fun q => some (q))) (fun q => some (q))) (fun q => some (q))
set_option maxRecDepth 20000 in
theorem impl_Lts_refine_ok [dr : Dr] {w0 : World} {fuel : Nat} {p0 p1 : Value} {a0 : Timpl_Lts} {a1 : (List Int)} {r : (List Int)} (h0 : Rd Rimpl_Lts w0 p0 a0) (h1 : Rd (rList (rInt .i64)) w0 p1 a1) (hm : impl_Lts_refine_m fuel a0 a1 = some r) :
  Calls Tryz.prog 79 #[p0, p1] w0 fun e w => ∃ (v0 : Value), e = .returned (v0) ∧ Heap w0 [oA (rList (rInt .i64)) v0 r] w := by
 unfold impl_Lts_refine_m at hm
 have H := Heap.start w0
 obtain ⟨c31, rfl, h32⟩ := h0
 obtain ⟨c37, c38, rfl, h39, h40⟩ := h32
 obtain rfl := h39
 obtain ⟨c41, c42, rfl, h43, h44⟩ := h40
 obtain rfl := h43
 obtain ⟨c45, c46, rfl, h47, h48⟩ := h44
 obtain ⟨v33, rfl, h34⟩ := rd_list h47
 obtain ⟨v35, rfl, h36⟩ := rd_list h48
 refine enter (args := [(.agg #[(.int .i64 a0.1), (.int .i64 a0.2.1), v33, v35]), p1]) Tryz.func79 rfl 84 rfl (Nat.le_of_ble_eq_true rfl) (fun a S => ?_)
 refine wp_seq (region_plain ?_)
 refine lx_box S trivial (by decide) rfl H rfl rfl (fun b49 w50 H => ⟨trivial, fun a S => ?_⟩)
 refine lq (.slice none 0 0) S (q_assign rfl) fun a S => ?_
 refine lx_nil (thenN ?_)
 refine wp_seq (region_plain ?_)
 refine lq (pAdd (bp b49) 0) S (q_fieldAddr' 0 2 rfl (isP_bp _) Tryz.underlying31 rfl Tryz.sizeOf2) fun a S => ?_
 refine lx_e (.int .i64 a0.1) S trivial (by decide) rfl trivial (q_load1 rfl Tryz.isAgg2 (by rintro _ rfl; exact (At.of_add (m := 0) (j := 0) (boxAt (i := 0) H rfl (j := 0) rfl)))) (fun a S => ?_)
 obtain ⟨x52, e53, hm⟩ := bind_some hm
 obtain ⟨m54, hn, hn2, rfl⟩ := mks_some e53
 refine lx_make (r := (rMx w0 (rList (rInt .i64)))) (z0 := (Mx.own ([] : (List Int)))) (n := m54) S trivial (by decide) rfl H (by rw [← hn]; rfl) (by rw [← hn]; rfl) Tryz.underlying47 (Tryz.ti61) rfl rfl (Nat.le_of_ble_eq_true rfl) (fun w => (oA_list.1 drop_nil_own)) hn2 (by decide) (fun v55 w56 H => ⟨trivial, fun a S => ?_⟩)
 refine lq v55 S (q_assign rfl) fun a S => ?_
 refine lx_nil (thenN ?_)
 refine wp_seq (wp_seq (region_plain ?_))
 refine lq p1 S (q_move rfl) fun a S => ?_
 refine lq (.int .i64 (a1.length : Int)) S (q_lenSl rfl (h1).isSl rfl Tryz.underlying61) fun a S => ?_
 refine lq (.int .i64 (0 : Int)) S (q_move rfl) fun a S => ?_
 refine lx_nil (thenN ?_)
 obtain ⟨res89, hit90, hk93⟩ := bind_some hm
 obtain ⟨f91, hf92, hit90⟩ := iter_name hit90
 refine block_loop (fun a w => ∃ (xs88 : List (Mx (List Int))), Slots a 84 [(1, p1), (2, (bp b49)), (5, v55)] ∧ Heap w0 [bA b49 [(.int .i64 a0.1), (.int .i64 a0.2.1), v33, v35] 31, oA (rList (rMx w0 (rList (rInt .i64)))) v55 xs88] w ∧ res89 = .inl (xs88)) ?_ ?_
 ·rintro a w ⟨xs88, S, H, rfl⟩
  have hm := ctl_inl hk93
  refine thenN ?_
  refine wp_seq (region_plain ?_)
  refine lq (pAdd (bp b49) 0) S (q_fieldAddr' 0 2 rfl (isP_bp _) Tryz.underlying31 rfl Tryz.sizeOf2) fun a S => ?_
  refine lx_e (.int .i64 a0.1) S trivial (by decide) rfl trivial (q_load1 rfl Tryz.isAgg2 (by rintro _ rfl; exact (At.of_add (m := 0) (j := 0) (boxAt (i := 0) H rfl (j := 0) rfl)))) (fun a S => ?_)
  obtain ⟨x94, e95, hm⟩ := bind_some hm
  obtain ⟨m96, hn, hn2, rfl⟩ := mks_some e95
  refine lx_make (r := (rMx w0 (rList (rInt .i64)))) (z0 := (Mx.own ([] : (List Int)))) (n := m96) S trivial (by decide) rfl H (by rw [← hn]; rfl) (by rw [← hn]; rfl) Tryz.underlying47 (Tryz.ti61) rfl rfl (Nat.le_of_ble_eq_true rfl) (fun w => (oA_list.1 drop_nil_own)) hn2 (by decide) (fun v97 w98 H => ⟨trivial, fun a S => ?_⟩)
  refine lq v97 S (q_assign rfl) fun a S => ?_
  refine lx_nil (thenN ?_)
  refine wp_seq (wp_seq (region_plain ?_))
  refine lq (pAdd (bp b49) 3) S (q_fieldAddr' 3 29 rfl (isP_bp _) Tryz.underlying31 rfl Tryz.sizeOf29) fun a S => ?_
  refine lx_e v35 S trivial (by decide) rfl trivial (q_load1 rfl Tryz.isAgg29 (by rintro _ rfl; exact (At.of_add (m := 3) (j := 0) (boxAt (i := 1) H rfl (j := 3) rfl)))) (fun a S => ?_)
  refine lq (.int .i64 (a0.2.2.2.length : Int)) S (q_lenSl rfl (h36).isSl rfl Tryz.underlying29) fun a S => ?_
  refine lq (.int .i64 (0 : Int)) S (q_move rfl) fun a S => ?_
  refine lx_nil (thenN ?_)
  obtain ⟨res8199, hit8200, hk8203⟩ := bind_some hm
  obtain ⟨f8201, hf8202, hit8200⟩ := iter_name hit8200
  refine block_loop (fun a w => ∃ (xs8198 : List (Mx (List Int))), Slots a 84 [(5, v55), (8, v97)] ∧ Heap w0 [oA (rList (rMx w0 (rList (rInt .i64)))) v55 xs88, oA (rList (rMx w0 (rList (rInt .i64)))) v97 xs8198] w ∧ res8199 = .inl (xs8198)) ?_ ?_
  ·rintro a w ⟨xs8198, S, H, rfl⟩
   have hm := ctl_inl hk8203
   refine thenN ?_
   refine wp_seq (wp_seq (region_plain ?_))
   refine lq v97 S (q_move rfl) fun a S => ?_
   refine lq (.int .i64 (xs8198.length : Int)) S (q_lenSl rfl (H.isSl 1 rfl) rfl Tryz.underlying47) fun a S => ?_
   refine lq (.int .i64 (0 : Int)) S (q_move rfl) fun a S => ?_
   refine lx_nil (thenN ?_)
   obtain ⟨res16292, hit16293, hk16296⟩ := bind_some hm
   obtain ⟨f16294, hf16295, hit16293⟩ := iter_name hit16293
   refine block_loop (fun a w => ∃ (xs16291 : List (Mx (List Int))), Slots a 84 [(5, v55)] ∧ Heap w0 [oA (rList (rMx w0 (rList (rInt .i64)))) v55 xs16291] w ∧ res16292 = .inl (xs16291)) ?_ ?_
   ·rintro a w ⟨xs16291, S, H, rfl⟩
    have hm := ctl_inl hk16296
    refine thenN ?_
    refine wp_seq (region_plain ?_)
    refine lq v55 S (q_move rfl) fun a S => ?_
    obtain ⟨ys16299, ey16300, hm⟩ := bind_some hm
    obtain ⟨x16301, e16302, hm⟩ := bind_some hm
    refine lx_call (xs := [.tmp 82]) S trivial (by decide) rfl rfl Tryz.call104 ((impl_normalKeys_ok (((H.rdAt 0 rfl)).cv (CvR.list CvR.mx) H.ext ey16300) e16302).mono ?_)
    rintro e w16297 ⟨v16303, rfl, Hc16298⟩
    have H := H.call1 Hc16298
    refine ⟨_, rfl, trivial, fun a S => ?_⟩
    refine lq v16303 S (q_assign rfl) fun a S => ?_
    refine lx_nil (thenN ?_)
    refine wp_ret ?_
    obtain rfl := Option.some.inj hm
    have H : Heap w0 [oA (rList (rInt .i64)) v16303 x16301] w16297 := H.sel [0] (by decide)
    exact leave1 S rfl rfl ⟨v16303, rfl, H⟩
   ·skip
    refine loop_ghost (fun n a w => ∃ (xs12246 : List (Mx (List Int))) (xs12247 : List (Mx (List Int))) (x12248 : Int), Slots a 84 [(5, v55), (62, v97), (63, (.int .i64 (xs8198.length : Int))), (64, (.int .i64 x12248))] ∧ Heap w0 [oA (rList (rMx w0 (rList (rInt .i64)))) v55 xs12246, oA (rList (rMx w0 (rList (rInt .i64)))) v97 xs12247] w ∧ iter f16294 n (xs12246, xs12247, x12248) = some res16292) _ ⟨xs88, xs8198, (0 : Int), S.sub ⟨rfl, rfl, rfl, rfl, trivial⟩, H, hit16293⟩ ?_
    rintro n a w ⟨xs12246, xs12247, x12248, S, H, hit16293⟩
    obtain ⟨m16306, o16307, rfl, hm, hc16308⟩ := iter_step hit16293
    rw [hf16295] at hm
    refine wp_seq (region_plain ?_)
    refine lq (.bool (decide (x12248 < (xs8198.length : Int)))) S (q_lss rfl rfl) fun a S => ?_
    refine lx_nil (thenN ?_)
    refine wp_seq ?_
    refine cond_b S rfl (fun hc16309 => ?_) (fun hc16309 => ?_)
    ·have hm := ite_t hc16309 hm
     refine wp_skip (thenN ?_)
     obtain ⟨K16312, hK16313, hm⟩ := join_elim hm
     refine seq_cut (fun a w => ∃ (xs16310 : List (Mx (List Int))) (xs16311 : List (Mx (List Int))), Slots a 84 [(5, v55), (62, v97), (63, (.int .i64 (xs8198.length : Int))), (64, (.int .i64 x12248))] ∧ Heap w0 [oA (rList (rMx w0 (rList (rInt .i64)))) v55 xs16310, oA (rList (rMx w0 (rList (rInt .i64)))) v97 xs16311] w ∧ K16312 xs16310 xs16311 = some o16307) ?_ ?_
     ·rintro a w ⟨xs16310, xs16311, S, H, hm⟩
      subst hK16313
      refine region_plain ?_
      refine lq (.int .i64 (W (x12248 + (1 : Int)))) S (q_add rfl rfl) fun a S => ?_
      refine lq (.int .i64 (W (x12248 + (1 : Int)))) S (q_move rfl) fun a S => ?_
      refine lx_nil ?_
      exact ⟨m16306, Nat.lt_succ_self _, xs16310, xs16311, (W (x12248 + (1 : Int))), S.sub ⟨rfl, rfl, rfl, rfl, trivial⟩, H, it_cont hm hc16308⟩
     ·skip
      refine wp_block ?_
      refine wp_seq (region_plain ?_)
      refine lq (.int .i64 x12248) S (q_move rfl) fun a S => ?_
      obtain ⟨x16314, e16315, hm⟩ := bind_some hm
      have hlt := lt_of_idx (idx_some e16315).2
      refine lq (ePtr v97 (x12248.toNat * 1)) S (q_indexAddr rfl (H.isSl 1 rfl) rfl (idx_some e16315).1 hlt Tryz.underlying47 Tryz.sizeOf61) fun a S => ?_
      obtain ⟨x16316, e16317, hm⟩ := bind_some hm
      have H : Heap w0 [oA (rList (rMx w0 (rList (rInt .i64)))) v97 xs12247, oA (rList (rMx w0 (rList (rInt .i64)))) v55 xs12246] w := H.front 1 rfl
      obtain ⟨u16318, hat16319, H⟩ := H.takeM (idx_some e16315).2 e16317
      refine lx_e u16318 S trivial (by decide) rfl (trivial) (q_load1 rfl Tryz.isAgg61 (by rintro _ rfl; exact hat16319)) (fun a S => ?_)
      refine lq (.int .i64 x12248) S (q_assign rfl) fun a S => ?_
      refine lq u16318 S (q_assign rfl) fun a S => ?_
      refine lx_nil (thenN ?_)
      refine wp_seq (region_plain ?_)
      refine lq u16318 S (q_move rfl) fun a S => ?_
      obtain ⟨x16323, e16324, hm⟩ := bind_some hm
      refine lx_call (xs := [.tmp 69]) S trivial (by decide) rfl rfl Tryz.call102 ((slices_Sort__int64_int64_ok H  e16324).mono ?_)
      rintro e w16321 ⟨rfl, H⟩
      refine ⟨_, rfl, trivial, fun a S => ?_⟩
      refine lx_nil (thenN ?_)
      obtain ⟨x16327, e16328, hm⟩ := bind_some hm
      obtain ⟨x16329, e16330, hm⟩ := bind_some hm
      obtain ⟨x16336, e16337, hm⟩ := bind_some hm
      obtain ⟨x16340, e16341, hm⟩ := bind_some hm
      obtain ⟨x16345, e16346, hm⟩ := bind_some hm
      refine region_draw2 (m := [_, _, _, _, _, _, _, _, _, _, _]) (fun w1 => Heap w0 [] w1) (fun i => [5, 7, 8, 10].contains i) (fun i => [7, 1, 8, 10].contains i) [6, 7, 0, 1, 2, 3, 4, 5, 8, 9, 10] 5 7 mixed (by kernel_rfl) rfl rfl rfl (fun w16326 he16325 => ?_)
      have H := H.later he16325
      refine ⟨⟨H.sel [] (by decide), ?_⟩, ?_⟩
      ·skip
       refine lq v55 S (q_move rfl) fun a S => ?_
       refine lq (.int .i64 x12248) S (q_move rfl) fun a S => ?_
       refine lq v55 S (q_move rfl) fun a S => ?_
       refine lq (.int .i64 x12248) S (q_move rfl) fun a S => ?_
       have hlt := lt_of_idx (idx_some e16328).2
       refine lq (ePtr v55 (x12248.toNat * 1)) S (q_indexAddr rfl (H.isSl 2 rfl) rfl (idx_some e16328).1 hlt Tryz.underlying47 Tryz.sizeOf61) fun a S => ?_
       have H : Heap w0 [oA (rList (rMx w0 (rList (rInt .i64)))) v55 xs12246, oA (rList (rInt .i64)) u16318 x16323, oA (rList (rMx w0 (rList (rInt .i64)))) v97 (xs12247.set x12248.toNat .gone)] w16326 := H.front 2 rfl
       obtain ⟨u16331, hat16332, H⟩ := H.takeM (idx_some e16328).2 e16330
       refine lx_e u16331 S trivial (by decide) rfl (H.sel [] (by decide)) (q_load1 rfl Tryz.isAgg61 (by rintro _ rfl; exact hat16332)) (fun a S => ?_)
       refine lq u16318 S (q_move rfl) fun a S => ?_
       have H : Heap w0 [oA (rList (rInt .i64)) u16318 x16323, oA (rList (rInt .i64)) u16331 x16329, oA (rList (rMx w0 (rList (rInt .i64)))) v55 (xs12246.set x12248.toNat .gone), oA (rList (rMx w0 (rList (rInt .i64)))) v97 (xs12247.set x12248.toNat .gone)] w16326 := H.front 2 rfl
       refine lx_call (xs := [.tmp 77]) S trivial (by decide) rfl rfl Tryz.call103 ((slices_Compact__int64_int64_ok H  e16337).mono ?_)
       rintro e w16334 ⟨v16338, rfl, H⟩
       refine ⟨_, rfl, H.sel [] (by decide), fun a S => ?_⟩
       obtain ⟨hle, hap⟩ := app_some e16341
       replace hap := hap.symm
       subst hap
       have H : Heap w0 [oA (rList (rInt .i64)) v16338 x16336, oA (rList (rInt .i64)) u16331 x16329, oA (rList (rMx w0 (rList (rInt .i64)))) v55 (xs12246.set x12248.toNat .gone), oA (rList (rMx w0 (rList (rInt .i64)))) v97 (xs12247.set x12248.toNat .gone)] w16334 := H.front 0 rfl
       have H : Heap w0 [oA (rList (rInt .i64)) u16331 x16329, oA (rList (rInt .i64)) v16338 x16336, oA (rList (rMx w0 (rList (rInt .i64)))) v55 (xs12246.set x12248.toNat .gone), oA (rList (rMx w0 (rList (rInt .i64)))) v97 (xs12247.set x12248.toNat .gone)] w16334 := H.front 1 rfl
       refine lx_appendOwn (r := (rInt .i64)) S trivial (by decide) rfl H rfl rfl Tryz.underlying61 Tryz.ti2 rfl rfl rfl (Nat.le_of_ble_eq_true rfl) (by decide) hle (fun v16342 w16343 H => ⟨H.sel [] (by decide), fun a S => ?_⟩)
       have hlt := lt_of_idx (idx_some e16346).2
       refine lq (ePtr v55 (x12248.toNat * 1)) S (q_indexAddr rfl (H.isSl 1 rfl) rfl (idx_some e16346).1 hlt Tryz.underlying47 Tryz.sizeOf61) fun a S => ?_
       have hcl : Value.cells v16342 = List.toArray [v16342] := (cells_sl (H.isSl 0 rfl))
       have hon : ∀ c ∈ ([v16342] : List Value), c.oneCell' = true := (List.forall_mem_cons.2 ⟨one_sl (H.isSl 0 rfl), (List.forall_mem_nil _)⟩)
       have H : Heap w0 [oA (rList (rMx w0 (rList (rInt .i64)))) v55 (xs12246.set x12248.toNat .gone), oA (rList (rInt .i64)) v16342 (x16329 ++ x16336), oA (rList (rMx w0 (rList (rInt .i64)))) v97 (xs12247.set x12248.toNat .gone)] w16343 := H.front 1 rfl
       refine lx_storeElem (r := (rMx w0 (rList (rInt .i64)))) (us := [v16342]) (off := 0) (e' := (Mx.own (x16329 ++ x16336))) S trivial rfl H (ev_zero rfl) rfl (idx_some e16346).2 hcl Tryz.sizeOf61 (Nat.le_of_ble_eq_true rfl) hon (Upd.full rfl (fun w G hG => oA_list.1 hG)) (fun w16347 H => ⟨H.sel [] (by decide), fun a S => ?_⟩)
       refine lx_nil ?_
       refine inBlock_norm ?_
       exact ⟨((xs12246.set x12248.toNat .gone).set x12248.toNat (Mx.own (x16329 ++ x16336))), (xs12247.set x12248.toNat .gone), S.sub ⟨rfl, rfl, rfl, rfl, trivial⟩, H, hm⟩
      ·skip
       refine lq u16318 S (q_move rfl) fun a S => ?_
       refine lx_call (xs := [.tmp 77]) S trivial (by decide) rfl rfl Tryz.call103 ((slices_Compact__int64_int64_ok H  e16337).mono ?_)
       rintro e w16334 ⟨v16338, rfl, H⟩
       refine ⟨_, rfl, H.sel [] (by decide), fun a S => ?_⟩
       refine lq v55 S (q_move rfl) fun a S => ?_
       refine lq (.int .i64 x12248) S (q_move rfl) fun a S => ?_
       refine lq v55 S (q_move rfl) fun a S => ?_
       refine lq (.int .i64 x12248) S (q_move rfl) fun a S => ?_
       have hlt := lt_of_idx (idx_some e16328).2
       refine lq (ePtr v55 (x12248.toNat * 1)) S (q_indexAddr rfl (H.isSl 2 rfl) rfl (idx_some e16328).1 hlt Tryz.underlying47 Tryz.sizeOf61) fun a S => ?_
       have H : Heap w0 [oA (rList (rMx w0 (rList (rInt .i64)))) v55 xs12246, oA (rList (rInt .i64)) v16338 x16336, oA (rList (rMx w0 (rList (rInt .i64)))) v97 (xs12247.set x12248.toNat .gone)] w16334 := H.front 2 rfl
       obtain ⟨u16331, hat16332, H⟩ := H.takeM (idx_some e16328).2 e16330
       refine lx_e u16331 S trivial (by decide) rfl (H.sel [] (by decide)) (q_load1 rfl Tryz.isAgg61 (by rintro _ rfl; exact hat16332)) (fun a S => ?_)
       obtain ⟨hle, hap⟩ := app_some e16341
       replace hap := hap.symm
       subst hap
       have H : Heap w0 [oA (rList (rInt .i64)) v16338 x16336, oA (rList (rInt .i64)) u16331 x16329, oA (rList (rMx w0 (rList (rInt .i64)))) v55 (xs12246.set x12248.toNat .gone), oA (rList (rMx w0 (rList (rInt .i64)))) v97 (xs12247.set x12248.toNat .gone)] w16334 := H.front 2 rfl
       have H : Heap w0 [oA (rList (rInt .i64)) u16331 x16329, oA (rList (rInt .i64)) v16338 x16336, oA (rList (rMx w0 (rList (rInt .i64)))) v55 (xs12246.set x12248.toNat .gone), oA (rList (rMx w0 (rList (rInt .i64)))) v97 (xs12247.set x12248.toNat .gone)] w16334 := H.front 1 rfl
       refine lx_appendOwn (r := (rInt .i64)) S trivial (by decide) rfl H rfl rfl Tryz.underlying61 Tryz.ti2 rfl rfl rfl (Nat.le_of_ble_eq_true rfl) (by decide) hle (fun v16342 w16343 H => ⟨H.sel [] (by decide), fun a S => ?_⟩)
       have hlt := lt_of_idx (idx_some e16346).2
       refine lq (ePtr v55 (x12248.toNat * 1)) S (q_indexAddr rfl (H.isSl 1 rfl) rfl (idx_some e16346).1 hlt Tryz.underlying47 Tryz.sizeOf61) fun a S => ?_
       have hcl : Value.cells v16342 = List.toArray [v16342] := (cells_sl (H.isSl 0 rfl))
       have hon : ∀ c ∈ ([v16342] : List Value), c.oneCell' = true := (List.forall_mem_cons.2 ⟨one_sl (H.isSl 0 rfl), (List.forall_mem_nil _)⟩)
       have H : Heap w0 [oA (rList (rMx w0 (rList (rInt .i64)))) v55 (xs12246.set x12248.toNat .gone), oA (rList (rInt .i64)) v16342 (x16329 ++ x16336), oA (rList (rMx w0 (rList (rInt .i64)))) v97 (xs12247.set x12248.toNat .gone)] w16343 := H.front 1 rfl
       refine lx_storeElem (r := (rMx w0 (rList (rInt .i64)))) (us := [v16342]) (off := 0) (e' := (Mx.own (x16329 ++ x16336))) S trivial rfl H (ev_zero rfl) rfl (idx_some e16346).2 hcl Tryz.sizeOf61 (Nat.le_of_ble_eq_true rfl) hon (Upd.full rfl (fun w G hG => oA_list.1 hG)) (fun w16347 H => ⟨H.sel [] (by decide), fun a S => ?_⟩)
       refine lx_nil ?_
       refine inBlock_norm ?_
       exact ⟨((xs12246.set x12248.toNat .gone).set x12248.toNat (Mx.own (x16329 ++ x16336))), (xs12247.set x12248.toNat .gone), S.sub ⟨rfl, rfl, rfl, rfl, trivial⟩, H, hm⟩
    ·have hm := ite_f hc16309 hm
     refine wp_exit ?_
     refine then_exit ?_
     refine then_exit ?_
     refine inBlock_exit ?_
     obtain rfl := it_brk hm hc16308
     have H : Heap w0 [oA (rList (rMx w0 (rList (rInt .i64)))) v55 xs12246] w := H.sel [0] (by decide)
     exact ⟨xs12246, S.sub ⟨rfl, trivial⟩, H, rfl⟩
  ·skip
   have H : Heap w0 [oA (rList (rMx w0 (rList (rInt .i64)))) v55 xs88, oA (rList (rMx w0 (rList (rInt .i64)))) v97 (List.replicate m96 (Mx.own ([] : (List Int)))), bA b49 [(.int .i64 a0.1), (.int .i64 a0.2.1), v33, v35] 31] w98 := H.front 2 rfl
   have H : Heap w0 [bA b49 [(.int .i64 a0.1), (.int .i64 a0.2.1), v33, v35] 31, oA (rList (rMx w0 (rList (rInt .i64)))) v55 xs88, oA (rList (rMx w0 (rList (rInt .i64)))) v97 (List.replicate m96 (Mx.own ([] : (List Int))))] w98 := H.front 2 rfl
   refine loop_ghost (fun n a w => ∃ (xs4148 : List (Mx (List Int))) (x4149 : Int), Slots a 84 [(1, p1), (2, (bp b49)), (5, v55), (8, v97), (33, v35), (34, (.int .i64 (a0.2.2.2.length : Int))), (35, (.int .i64 x4149))] ∧ Heap w0 [bA b49 [(.int .i64 a0.1), (.int .i64 a0.2.1), v33, v35] 31, oA (rList (rMx w0 (rList (rInt .i64)))) v55 xs88, oA (rList (rMx w0 (rList (rInt .i64)))) v97 xs4148] w ∧ iter f8201 n (xs4148, x4149) = some res8199) _ ⟨(List.replicate m96 (Mx.own ([] : (List Int)))), (0 : Int), S.sub ⟨rfl, rfl, rfl, rfl, rfl, rfl, rfl, trivial⟩, H, hit8200⟩ ?_
   rintro n a w ⟨xs4148, x4149, S, H, hit8200⟩
   obtain ⟨m20348, o20349, rfl, hm, hc20350⟩ := iter_step hit8200
   rw [hf8202] at hm
   refine wp_seq (region_plain ?_)
   refine lq (.bool (decide (x4149 < (a0.2.2.2.length : Int)))) S (q_lss rfl rfl) fun a S => ?_
   refine lx_nil (thenN ?_)
   refine wp_seq ?_
   refine cond_b S rfl (fun hc20351 => ?_) (fun hc20351 => ?_)
   ·have hm := ite_t hc20351 hm
    refine wp_skip (thenN ?_)
    obtain ⟨K20353, hK20354, hm⟩ := join_elim hm
    refine seq_cut (fun a w => ∃ (xs20352 : List (Mx (List Int))), Slots a 84 [(1, p1), (2, (bp b49)), (5, v55), (8, v97), (33, v35), (34, (.int .i64 (a0.2.2.2.length : Int))), (35, (.int .i64 x4149))] ∧ Heap w0 [bA b49 [(.int .i64 a0.1), (.int .i64 a0.2.1), v33, v35] 31, oA (rList (rMx w0 (rList (rInt .i64)))) v55 xs88, oA (rList (rMx w0 (rList (rInt .i64)))) v97 xs20352] w ∧ K20353 xs20352 = some o20349) ?_ ?_
    ·rintro a w ⟨xs20352, S, H, hm⟩
     subst hK20354
     refine region_plain ?_
     refine lq (.int .i64 (W (x4149 + (1 : Int)))) S (q_add rfl rfl) fun a S => ?_
     refine lq (.int .i64 (W (x4149 + (1 : Int)))) S (q_move rfl) fun a S => ?_
     refine lx_nil ?_
     exact ⟨m20348, Nat.lt_succ_self _, xs20352, (W (x4149 + (1 : Int))), S.sub ⟨rfl, rfl, rfl, rfl, rfl, rfl, rfl, trivial⟩, H, it_cont hm hc20350⟩
    ·skip
     refine wp_block ?_
     refine wp_seq (region_plain ?_)
     obtain ⟨x20355, e20356, hm⟩ := bind_some hm
     obtain ⟨c20357, h20358, hat20359⟩ := (h36).elem (idx_some e20356).2
     obtain ⟨c20360, c20361, rfl, h20362, h20363⟩ := h20358
     obtain rfl := h20362
     obtain ⟨c20364, c20365, rfl, h20366, h20367⟩ := h20363
     obtain rfl := h20366
     obtain rfl := h20367
     have hlt := lt_of_idx (idx_some e20356).2
     refine lq (ePtr v35 (x4149.toNat * 3)) S (q_indexAddr rfl (h36).isSl rfl (idx_some e20356).1 hlt Tryz.underlying29 Tryz.sizeOf68) fun a S => ?_
     refine lx_e (.agg #[(.int .i64 x20355.1), (.int .i64 x20355.2.1), (.int .i64 x20355.2.2)]) S trivial (by decide) rfl trivial (q_loadA (cs := [(.int .i64 x20355.1), (.int .i64 x20355.2.1), (.int .i64 x20355.2.2)]) rfl ((hat20359 0 _ rfl).isP) Tryz.isAgg68 Tryz.sizeOf68 (by rintro _ rfl; exact (fun j u hu => (hat20359 j u hu).ext H.ext))) (fun a S => ?_)
     refine lx_alloc S trivial (by decide) rfl H Tryz.zeroValue68 rfl (fun b20368 w20369 H => ⟨trivial, fun a S => ?_⟩)
     refine lx_storeBox (o := 0) (i := 0) (us := [(.int .i64 x20355.1), (.int .i64 x20355.2.1), (.int .i64 x20355.2.2)]) (cs' := [(.int .i64 x20355.1), (.int .i64 x20355.2.1), (.int .i64 x20355.2.2)]) S trivial rfl H rfl rfl rfl rfl Tryz.sizeOf68 (Nat.le_of_ble_eq_true rfl) (List.forall_mem_cons.2 ⟨rfl, (List.forall_mem_cons.2 ⟨rfl, (List.forall_mem_cons.2 ⟨rfl, (List.forall_mem_nil _)⟩)⟩)⟩) rfl (fun w20371 H => ⟨trivial, fun a S => ?_⟩)
     change Heap w0 [bA b20368 [(.int .i64 x20355.1), (.int .i64 x20355.2.1), (.int .i64 x20355.2.2)] 68, bA b49 [(.int .i64 a0.1), (.int .i64 a0.2.1), v33, v35] 31, oA (rList (rMx w0 (rList (rInt .i64)))) v55 xs88, oA (rList (rMx w0 (rList (rInt .i64)))) v97 xs4148] w20371 at H
     refine lx_nil (thenN ?_)
     obtain ⟨x20374, e20375, hm⟩ := bind_some hm
     obtain ⟨x20376, e20377, hm⟩ := bind_some hm
     obtain ⟨x20381, e20382, hm⟩ := bind_some hm
     obtain ⟨x20389, e20390, hm⟩ := bind_some hm
     obtain ⟨x20394, e20395, hm⟩ := bind_some hm
     refine region_draw2 (m := [_, _, _, _, _, _, _, _, _, _, _, _, _, _, _, _, _, _, _, _, _, _, _]) (fun w1 => Heap w0 [bA b20368 [(.int .i64 x20355.1), (.int .i64 x20355.2.1), (.int .i64 x20355.2.2)] 68, bA b49 [(.int .i64 a0.1), (.int .i64 a0.2.1), v33, v35] 31] w1) (fun i => [7, 19, 20, 22].contains i) (fun i => [19, 11, 20, 22].contains i) [8, 9, 10, 11, 12, 13, 14, 15, 16, 17, 18, 19, 0, 1, 2, 3, 4, 5, 6, 7, 20, 21, 22] 7 19 mixed (by kernel_rfl) rfl rfl rfl (fun w20373 he20372 => ?_)
     have H := H.later he20372
     refine ⟨⟨H.sel [0, 1] (by decide), ?_⟩, ?_⟩
     ·skip
      refine lq v97 S (q_move rfl) fun a S => ?_
      refine lq (pAdd (bp b20368) 0) S (q_fieldAddr' 0 2 rfl (isP_bp _) Tryz.underlying68 rfl Tryz.sizeOf2) fun a S => ?_
      refine lq (.int .i64 x20355.1) S (q_load1 rfl Tryz.isAgg2 (fun w1 hC => (At.of_add (m := 0) (j := 0) (boxAt (i := 0) hC rfl (j := 0) rfl)))) fun a S => ?_
      refine lq v97 S (q_move rfl) fun a S => ?_
      refine lq (pAdd (bp b20368) 0) S (q_fieldAddr' 0 2 rfl (isP_bp _) Tryz.underlying68 rfl Tryz.sizeOf2) fun a S => ?_
      refine lq (.int .i64 x20355.1) S (q_load1 rfl Tryz.isAgg2 (fun w1 hC => (At.of_add (m := 0) (j := 0) (boxAt (i := 0) hC rfl (j := 0) rfl)))) fun a S => ?_
      have hlt := lt_of_idx (idx_some e20375).2
      refine lq (ePtr v97 (x20355.1.toNat * 1)) S (q_indexAddr rfl (H.isSl 3 rfl) rfl (idx_some e20375).1 hlt Tryz.underlying47 Tryz.sizeOf61) fun a S => ?_
      have H : Heap w0 [oA (rList (rMx w0 (rList (rInt .i64)))) v97 xs4148, bA b20368 [(.int .i64 x20355.1), (.int .i64 x20355.2.1), (.int .i64 x20355.2.2)] 68, bA b49 [(.int .i64 a0.1), (.int .i64 a0.2.1), v33, v35] 31, oA (rList (rMx w0 (rList (rInt .i64)))) v55 xs88] w20373 := H.front 3 rfl
      obtain ⟨u20378, hat20379, H⟩ := H.takeM (idx_some e20375).2 e20377
      refine lx_e u20378 S trivial (by decide) rfl (H.sel [2, 3] (by decide)) (q_load1 rfl Tryz.isAgg61 (by rintro _ rfl; exact hat20379)) (fun a S => ?_)
      refine lq (pAdd (bp b20368) 1) S (q_fieldAddr' 1 2 rfl (isP_bp _) Tryz.underlying68 rfl Tryz.sizeOf2) fun a S => ?_
      refine lq (.int .i64 x20355.2.1) S (q_load1 rfl Tryz.isAgg2 (fun w1 hC => (At.of_add (m := 1) (j := 0) (boxAt (i := 0) hC rfl (j := 1) rfl)))) fun a S => ?_
      refine lq (pAdd (bp b49) 0) S (q_fieldAddr' 0 2 rfl (isP_bp _) Tryz.underlying31 rfl Tryz.sizeOf2) fun a S => ?_
      refine lq (.int .i64 a0.1) S (q_load1 rfl Tryz.isAgg2 (fun w1 hC => (At.of_add (m := 0) (j := 0) (boxAt (i := 1) hC rfl (j := 0) rfl)))) fun a S => ?_
      refine lq (.int .i64 (W (x20355.2.1 * a0.1))) S (q_mul rfl rfl) fun a S => ?_
      refine lq p1 S (q_move rfl) fun a S => ?_
      refine lq (pAdd (bp b20368) 2) S (q_fieldAddr' 2 2 rfl (isP_bp _) Tryz.underlying68 rfl Tryz.sizeOf2) fun a S => ?_
      refine lq (.int .i64 x20355.2.2) S (q_load1 rfl Tryz.isAgg2 (fun w1 hC => (At.of_add (m := 2) (j := 0) (boxAt (i := 0) hC rfl (j := 2) rfl)))) fun a S => ?_
      obtain ⟨c20383, h20384, hat20385⟩ := (h1).elem (idx_some e20382).2
      obtain rfl := h20384
      have hlt := lt_of_idx (idx_some e20382).2
      refine lq (ePtr p1 (x20355.2.2.toNat * 1)) S (q_indexAddr rfl (h1).isSl rfl (idx_some e20382).1 hlt Tryz.underlying61 Tryz.sizeOf2) fun a S => ?_
      refine lq (.int .i64 x20381) S (q_load1 rfl Tryz.isAgg2 (fun w1 hC => ((hat20385 0 _ rfl).ext hC.ext))) fun a S => ?_
      refine lq (.int .i64 (W ((W (x20355.2.1 * a0.1)) + x20381))) S (q_add rfl rfl) fun a S => ?_
      refine lx_buildSlice (r := (rInt .i64)) (xs := [(W ((W (x20355.2.1 * a0.1)) + x20381))]) (ps := [(0, [(.int .i64 (W ((W (x20355.2.1 * a0.1)) + x20381)))])]) (cs := [(.int .i64 (W ((W (x20355.2.1 * a0.1)) + x20381)))]) (parts := [(0, .tmp 57)]) S trivial (by decide) rfl (H.put0 (A := eA) rfl) rfl Tryz.underlying61 Tryz.sizeOf2 Tryz.zeroValue2 (by decide) ⟨rfl, rfl, Nat.le_of_ble_eq_true rfl, trivial⟩ (by intro zs hz; exact fill_dense hz ⟨rfl, trivial⟩ rfl rfl) rfl (by decide) (fun w F hA => by cases (show F = [] from hA); exact ⟨_, _, [(.int .i64 (W ((W (x20355.2.1 * a0.1)) + x20381)))], _, rfl, rfl, ⟨rfl, rfl⟩, ⟨rfl, rfl⟩⟩) (fun v20386 w20387 H => ⟨H.sel [3, 4] (by decide), fun a S => ?_⟩)
      obtain ⟨hle, hap⟩ := app_some e20390
      replace hap := hap.symm
      subst hap
      have H : Heap w0 [oA (rList (rInt .i64)) v20386 [(W ((W (x20355.2.1 * a0.1)) + x20381))], oA (rList (rInt .i64)) u20378 x20376, oA (rList (rMx w0 (rList (rInt .i64)))) v97 (xs4148.set x20355.1.toNat .gone), bA b20368 [(.int .i64 x20355.1), (.int .i64 x20355.2.1), (.int .i64 x20355.2.2)] 68, bA b49 [(.int .i64 a0.1), (.int .i64 a0.2.1), v33, v35] 31, oA (rList (rMx w0 (rList (rInt .i64)))) v55 xs88] w20387 := H.front 0 rfl
      have H : Heap w0 [oA (rList (rInt .i64)) u20378 x20376, oA (rList (rInt .i64)) v20386 [(W ((W (x20355.2.1 * a0.1)) + x20381))], oA (rList (rMx w0 (rList (rInt .i64)))) v97 (xs4148.set x20355.1.toNat .gone), bA b20368 [(.int .i64 x20355.1), (.int .i64 x20355.2.1), (.int .i64 x20355.2.2)] 68, bA b49 [(.int .i64 a0.1), (.int .i64 a0.2.1), v33, v35] 31, oA (rList (rMx w0 (rList (rInt .i64)))) v55 xs88] w20387 := H.front 1 rfl
      refine lx_appendOwn (r := (rInt .i64)) S trivial (by decide) rfl H rfl rfl Tryz.underlying61 Tryz.ti2 rfl rfl rfl (Nat.le_of_ble_eq_true rfl) (by decide) hle (fun v20391 w20392 H => ⟨H.sel [2, 3] (by decide), fun a S => ?_⟩)
      have hlt := lt_of_idx (idx_some e20395).2
      refine lq (ePtr v97 (x20355.1.toNat * 1)) S (q_indexAddr rfl (H.isSl 1 rfl) rfl (idx_some e20395).1 hlt Tryz.underlying47 Tryz.sizeOf61) fun a S => ?_
      have hcl : Value.cells v20391 = List.toArray [v20391] := (cells_sl (H.isSl 0 rfl))
      have hon : ∀ c ∈ ([v20391] : List Value), c.oneCell' = true := (List.forall_mem_cons.2 ⟨one_sl (H.isSl 0 rfl), (List.forall_mem_nil _)⟩)
      have H : Heap w0 [oA (rList (rMx w0 (rList (rInt .i64)))) v97 (xs4148.set x20355.1.toNat .gone), oA (rList (rInt .i64)) v20391 (x20376 ++ [(W ((W (x20355.2.1 * a0.1)) + x20381))]), bA b20368 [(.int .i64 x20355.1), (.int .i64 x20355.2.1), (.int .i64 x20355.2.2)] 68, bA b49 [(.int .i64 a0.1), (.int .i64 a0.2.1), v33, v35] 31, oA (rList (rMx w0 (rList (rInt .i64)))) v55 xs88] w20392 := H.front 1 rfl
      refine lx_storeElem (r := (rMx w0 (rList (rInt .i64)))) (us := [v20391]) (off := 0) (e' := (Mx.own (x20376 ++ [(W ((W (x20355.2.1 * a0.1)) + x20381))]))) S trivial rfl H (ev_zero rfl) rfl (idx_some e20395).2 hcl Tryz.sizeOf61 (Nat.le_of_ble_eq_true rfl) hon (Upd.full rfl (fun w G hG => oA_list.1 hG)) (fun w20396 H => ⟨H.sel [1, 2] (by decide), fun a S => ?_⟩)
      refine lx_nil ?_
      refine inBlock_norm ?_
      have H : Heap w0 [oA (rList (rMx w0 (rList (rInt .i64)))) v55 xs88, oA (rList (rMx w0 (rList (rInt .i64)))) v97 ((xs4148.set x20355.1.toNat .gone).set x20355.1.toNat (Mx.own (x20376 ++ [(W ((W (x20355.2.1 * a0.1)) + x20381))]))), bA b20368 [(.int .i64 x20355.1), (.int .i64 x20355.2.1), (.int .i64 x20355.2.2)] 68, bA b49 [(.int .i64 a0.1), (.int .i64 a0.2.1), v33, v35] 31] w20396 := H.front 3 rfl
      have H : Heap w0 [bA b49 [(.int .i64 a0.1), (.int .i64 a0.2.1), v33, v35] 31, oA (rList (rMx w0 (rList (rInt .i64)))) v55 xs88, oA (rList (rMx w0 (rList (rInt .i64)))) v97 ((xs4148.set x20355.1.toNat .gone).set x20355.1.toNat (Mx.own (x20376 ++ [(W ((W (x20355.2.1 * a0.1)) + x20381))]))), bA b20368 [(.int .i64 x20355.1), (.int .i64 x20355.2.1), (.int .i64 x20355.2.2)] 68] w20396 := H.front 3 rfl
      have H : Heap w0 [bA b49 [(.int .i64 a0.1), (.int .i64 a0.2.1), v33, v35] 31, oA (rList (rMx w0 (rList (rInt .i64)))) v55 xs88, oA (rList (rMx w0 (rList (rInt .i64)))) v97 ((xs4148.set x20355.1.toNat .gone).set x20355.1.toNat (Mx.own (x20376 ++ [(W ((W (x20355.2.1 * a0.1)) + x20381))])))] w20396 := H.sel [0, 1, 2] (by decide)
      exact ⟨((xs4148.set x20355.1.toNat .gone).set x20355.1.toNat (Mx.own (x20376 ++ [(W ((W (x20355.2.1 * a0.1)) + x20381))]))), S.sub ⟨rfl, rfl, rfl, rfl, rfl, rfl, rfl, trivial⟩, H, hm⟩
     ·skip
      refine lq (pAdd (bp b20368) 1) S (q_fieldAddr' 1 2 rfl (isP_bp _) Tryz.underlying68 rfl Tryz.sizeOf2) fun a S => ?_
      refine lq (.int .i64 x20355.2.1) S (q_load1 rfl Tryz.isAgg2 (fun w1 hC => (At.of_add (m := 1) (j := 0) (boxAt (i := 0) hC rfl (j := 1) rfl)))) fun a S => ?_
      refine lq (pAdd (bp b49) 0) S (q_fieldAddr' 0 2 rfl (isP_bp _) Tryz.underlying31 rfl Tryz.sizeOf2) fun a S => ?_
      refine lq (.int .i64 a0.1) S (q_load1 rfl Tryz.isAgg2 (fun w1 hC => (At.of_add (m := 0) (j := 0) (boxAt (i := 1) hC rfl (j := 0) rfl)))) fun a S => ?_
      refine lq (.int .i64 (W (x20355.2.1 * a0.1))) S (q_mul rfl rfl) fun a S => ?_
      refine lq p1 S (q_move rfl) fun a S => ?_
      refine lq (pAdd (bp b20368) 2) S (q_fieldAddr' 2 2 rfl (isP_bp _) Tryz.underlying68 rfl Tryz.sizeOf2) fun a S => ?_
      refine lq (.int .i64 x20355.2.2) S (q_load1 rfl Tryz.isAgg2 (fun w1 hC => (At.of_add (m := 2) (j := 0) (boxAt (i := 0) hC rfl (j := 2) rfl)))) fun a S => ?_
      obtain ⟨c20383, h20384, hat20385⟩ := (h1).elem (idx_some e20382).2
      obtain rfl := h20384
      have hlt := lt_of_idx (idx_some e20382).2
      refine lq (ePtr p1 (x20355.2.2.toNat * 1)) S (q_indexAddr rfl (h1).isSl rfl (idx_some e20382).1 hlt Tryz.underlying61 Tryz.sizeOf2) fun a S => ?_
      refine lq (.int .i64 x20381) S (q_load1 rfl Tryz.isAgg2 (fun w1 hC => ((hat20385 0 _ rfl).ext hC.ext))) fun a S => ?_
      refine lq (.int .i64 (W ((W (x20355.2.1 * a0.1)) + x20381))) S (q_add rfl rfl) fun a S => ?_
      refine lx_buildSlice (r := (rInt .i64)) (xs := [(W ((W (x20355.2.1 * a0.1)) + x20381))]) (ps := [(0, [(.int .i64 (W ((W (x20355.2.1 * a0.1)) + x20381)))])]) (cs := [(.int .i64 (W ((W (x20355.2.1 * a0.1)) + x20381)))]) (parts := [(0, .tmp 57)]) S trivial (by decide) rfl (H.put0 (A := eA) rfl) rfl Tryz.underlying61 Tryz.sizeOf2 Tryz.zeroValue2 (by decide) ⟨rfl, rfl, Nat.le_of_ble_eq_true rfl, trivial⟩ (by intro zs hz; exact fill_dense hz ⟨rfl, trivial⟩ rfl rfl) rfl (by decide) (fun w F hA => by cases (show F = [] from hA); exact ⟨_, _, [(.int .i64 (W ((W (x20355.2.1 * a0.1)) + x20381)))], _, rfl, rfl, ⟨rfl, rfl⟩, ⟨rfl, rfl⟩⟩) (fun v20386 w20387 H => ⟨H.sel [1, 2] (by decide), fun a S => ?_⟩)
      refine lq v97 S (q_move rfl) fun a S => ?_
      refine lq (pAdd (bp b20368) 0) S (q_fieldAddr' 0 2 rfl (isP_bp _) Tryz.underlying68 rfl Tryz.sizeOf2) fun a S => ?_
      refine lq (.int .i64 x20355.1) S (q_load1 rfl Tryz.isAgg2 (fun w1 hC => (At.of_add (m := 0) (j := 0) (boxAt (i := 0) hC rfl (j := 0) rfl)))) fun a S => ?_
      refine lq v97 S (q_move rfl) fun a S => ?_
      refine lq (pAdd (bp b20368) 0) S (q_fieldAddr' 0 2 rfl (isP_bp _) Tryz.underlying68 rfl Tryz.sizeOf2) fun a S => ?_
      refine lq (.int .i64 x20355.1) S (q_load1 rfl Tryz.isAgg2 (fun w1 hC => (At.of_add (m := 0) (j := 0) (boxAt (i := 0) hC rfl (j := 0) rfl)))) fun a S => ?_
      have hlt := lt_of_idx (idx_some e20375).2
      refine lq (ePtr v97 (x20355.1.toNat * 1)) S (q_indexAddr rfl (H.isSl 4 rfl) rfl (idx_some e20375).1 hlt Tryz.underlying47 Tryz.sizeOf61) fun a S => ?_
      have H : Heap w0 [oA (rList (rMx w0 (rList (rInt .i64)))) v97 xs4148, oA (rList (rInt .i64)) v20386 [(W ((W (x20355.2.1 * a0.1)) + x20381))], bA b20368 [(.int .i64 x20355.1), (.int .i64 x20355.2.1), (.int .i64 x20355.2.2)] 68, bA b49 [(.int .i64 a0.1), (.int .i64 a0.2.1), v33, v35] 31, oA (rList (rMx w0 (rList (rInt .i64)))) v55 xs88] w20387 := H.front 4 rfl
      obtain ⟨u20378, hat20379, H⟩ := H.takeM (idx_some e20375).2 e20377
      refine lx_e u20378 S trivial (by decide) rfl (H.sel [3, 4] (by decide)) (q_load1 rfl Tryz.isAgg61 (by rintro _ rfl; exact hat20379)) (fun a S => ?_)
      obtain ⟨hle, hap⟩ := app_some e20390
      replace hap := hap.symm
      subst hap
      have H : Heap w0 [oA (rList (rInt .i64)) v20386 [(W ((W (x20355.2.1 * a0.1)) + x20381))], oA (rList (rInt .i64)) u20378 x20376, oA (rList (rMx w0 (rList (rInt .i64)))) v97 (xs4148.set x20355.1.toNat .gone), bA b20368 [(.int .i64 x20355.1), (.int .i64 x20355.2.1), (.int .i64 x20355.2.2)] 68, bA b49 [(.int .i64 a0.1), (.int .i64 a0.2.1), v33, v35] 31, oA (rList (rMx w0 (rList (rInt .i64)))) v55 xs88] w20387 := H.front 2 rfl
      have H : Heap w0 [oA (rList (rInt .i64)) u20378 x20376, oA (rList (rInt .i64)) v20386 [(W ((W (x20355.2.1 * a0.1)) + x20381))], oA (rList (rMx w0 (rList (rInt .i64)))) v97 (xs4148.set x20355.1.toNat .gone), bA b20368 [(.int .i64 x20355.1), (.int .i64 x20355.2.1), (.int .i64 x20355.2.2)] 68, bA b49 [(.int .i64 a0.1), (.int .i64 a0.2.1), v33, v35] 31, oA (rList (rMx w0 (rList (rInt .i64)))) v55 xs88] w20387 := H.front 1 rfl
      refine lx_appendOwn (r := (rInt .i64)) S trivial (by decide) rfl H rfl rfl Tryz.underlying61 Tryz.ti2 rfl rfl rfl (Nat.le_of_ble_eq_true rfl) (by decide) hle (fun v20391 w20392 H => ⟨H.sel [2, 3] (by decide), fun a S => ?_⟩)
      have hlt := lt_of_idx (idx_some e20395).2
      refine lq (ePtr v97 (x20355.1.toNat * 1)) S (q_indexAddr rfl (H.isSl 1 rfl) rfl (idx_some e20395).1 hlt Tryz.underlying47 Tryz.sizeOf61) fun a S => ?_
      have hcl : Value.cells v20391 = List.toArray [v20391] := (cells_sl (H.isSl 0 rfl))
      have hon : ∀ c ∈ ([v20391] : List Value), c.oneCell' = true := (List.forall_mem_cons.2 ⟨one_sl (H.isSl 0 rfl), (List.forall_mem_nil _)⟩)
      have H : Heap w0 [oA (rList (rMx w0 (rList (rInt .i64)))) v97 (xs4148.set x20355.1.toNat .gone), oA (rList (rInt .i64)) v20391 (x20376 ++ [(W ((W (x20355.2.1 * a0.1)) + x20381))]), bA b20368 [(.int .i64 x20355.1), (.int .i64 x20355.2.1), (.int .i64 x20355.2.2)] 68, bA b49 [(.int .i64 a0.1), (.int .i64 a0.2.1), v33, v35] 31, oA (rList (rMx w0 (rList (rInt .i64)))) v55 xs88] w20392 := H.front 1 rfl
      refine lx_storeElem (r := (rMx w0 (rList (rInt .i64)))) (us := [v20391]) (off := 0) (e' := (Mx.own (x20376 ++ [(W ((W (x20355.2.1 * a0.1)) + x20381))]))) S trivial rfl H (ev_zero rfl) rfl (idx_some e20395).2 hcl Tryz.sizeOf61 (Nat.le_of_ble_eq_true rfl) hon (Upd.full rfl (fun w G hG => oA_list.1 hG)) (fun w20396 H => ⟨H.sel [1, 2] (by decide), fun a S => ?_⟩)
      refine lx_nil ?_
      refine inBlock_norm ?_
      have H : Heap w0 [oA (rList (rMx w0 (rList (rInt .i64)))) v55 xs88, oA (rList (rMx w0 (rList (rInt .i64)))) v97 ((xs4148.set x20355.1.toNat .gone).set x20355.1.toNat (Mx.own (x20376 ++ [(W ((W (x20355.2.1 * a0.1)) + x20381))]))), bA b20368 [(.int .i64 x20355.1), (.int .i64 x20355.2.1), (.int .i64 x20355.2.2)] 68, bA b49 [(.int .i64 a0.1), (.int .i64 a0.2.1), v33, v35] 31] w20396 := H.front 3 rfl
      have H : Heap w0 [bA b49 [(.int .i64 a0.1), (.int .i64 a0.2.1), v33, v35] 31, oA (rList (rMx w0 (rList (rInt .i64)))) v55 xs88, oA (rList (rMx w0 (rList (rInt .i64)))) v97 ((xs4148.set x20355.1.toNat .gone).set x20355.1.toNat (Mx.own (x20376 ++ [(W ((W (x20355.2.1 * a0.1)) + x20381))]))), bA b20368 [(.int .i64 x20355.1), (.int .i64 x20355.2.1), (.int .i64 x20355.2.2)] 68] w20396 := H.front 3 rfl
      have H : Heap w0 [bA b49 [(.int .i64 a0.1), (.int .i64 a0.2.1), v33, v35] 31, oA (rList (rMx w0 (rList (rInt .i64)))) v55 xs88, oA (rList (rMx w0 (rList (rInt .i64)))) v97 ((xs4148.set x20355.1.toNat .gone).set x20355.1.toNat (Mx.own (x20376 ++ [(W ((W (x20355.2.1 * a0.1)) + x20381))])))] w20396 := H.sel [0, 1, 2] (by decide)
      exact ⟨((xs4148.set x20355.1.toNat .gone).set x20355.1.toNat (Mx.own (x20376 ++ [(W ((W (x20355.2.1 * a0.1)) + x20381))]))), S.sub ⟨rfl, rfl, rfl, rfl, rfl, rfl, rfl, trivial⟩, H, hm⟩
   ·have hm := ite_f hc20351 hm
    refine wp_exit ?_
    refine then_exit ?_
    refine then_exit ?_
    refine inBlock_exit ?_
    obtain rfl := it_brk hm hc20350
    have H : Heap w0 [oA (rList (rMx w0 (rList (rInt .i64)))) v55 xs88, oA (rList (rMx w0 (rList (rInt .i64)))) v97 xs4148] w := H.sel [1, 2] (by decide)
    exact ⟨xs4148, S.sub ⟨rfl, rfl, trivial⟩, H, rfl⟩
 ·skip
  have H : Heap w0 [bA b49 [(.int .i64 a0.1), (.int .i64 a0.2.1), v33, v35] 31, oA (rList (rMx w0 (rList (rInt .i64)))) v55 (List.replicate m54 (Mx.own ([] : (List Int))))] w56 := H.front 1 rfl
  refine loop_ghost (fun n a w => ∃ (xs72 : List (Mx (List Int))) (x73 : Int), Slots a 84 [(1, p1), (2, (bp b49)), (5, v55), (16, p1), (17, (.int .i64 (a1.length : Int))), (18, (.int .i64 x73))] ∧ Heap w0 [bA b49 [(.int .i64 a0.1), (.int .i64 a0.2.1), v33, v35] 31, oA (rList (rMx w0 (rList (rInt .i64)))) v55 xs72] w ∧ iter f91 n (xs72, x73) = some res89) _ ⟨(List.replicate m54 (Mx.own ([] : (List Int)))), (0 : Int), S.sub ⟨rfl, rfl, rfl, rfl, rfl, rfl, trivial⟩, H, hit90⟩ ?_
  rintro n a w ⟨xs72, x73, S, H, hit90⟩
  obtain ⟨m24397, o24398, rfl, hm, hc24399⟩ := iter_step hit90
  rw [hf92] at hm
  refine wp_seq (region_plain ?_)
  refine lq (.bool (decide (x73 < (a1.length : Int)))) S (q_lss rfl rfl) fun a S => ?_
  refine lx_nil (thenN ?_)
  refine wp_seq ?_
  refine cond_b S rfl (fun hc24400 => ?_) (fun hc24400 => ?_)
  ·have hm := ite_t hc24400 hm
   refine wp_skip (thenN ?_)
   refine wp_seq ?_
   refine wp_block ?_
   refine wp_seq (region_plain ?_)
   refine lq (.int .i64 x73) S (q_move rfl) fun a S => ?_
   obtain ⟨x24401, e24402, hm⟩ := bind_some hm
   obtain ⟨c24403, h24404, hat24405⟩ := (h1).elem (idx_some e24402).2
   obtain rfl := h24404
   have hlt := lt_of_idx (idx_some e24402).2
   refine lq (ePtr p1 (x73.toNat * 1)) S (q_indexAddr rfl (h1).isSl rfl (idx_some e24402).1 hlt Tryz.underlying61 Tryz.sizeOf2) fun a S => ?_
   refine lx_e (.int .i64 x24401) S trivial (by decide) rfl trivial (q_load1 rfl Tryz.isAgg2 (by rintro _ rfl; exact ((hat24405 0 _ rfl).ext H.ext))) (fun a S => ?_)
   refine lq (.int .i64 x73) S (q_assign rfl) fun a S => ?_
   refine lq (.int .i64 x24401) S (q_assign rfl) fun a S => ?_
   refine lx_nil (thenN ?_)
   refine region_plain ?_
   refine lq v55 S (q_move rfl) fun a S => ?_
   refine lq (.int .i64 x73) S (q_move rfl) fun a S => ?_
   refine lq (.int .i64 x24401) S (q_move rfl) fun a S => ?_
   refine lx_buildSlice (r := (rInt .i64)) (xs := [x24401]) (ps := [(0, [(.int .i64 x24401)])]) (cs := [(.int .i64 x24401)]) (parts := [(0, .tmp 25)]) S trivial (by decide) rfl (H.put0 (A := eA) rfl) rfl Tryz.underlying61 Tryz.sizeOf2 Tryz.zeroValue2 (by decide) ⟨rfl, rfl, Nat.le_of_ble_eq_true rfl, trivial⟩ (by intro zs hz; exact fill_dense hz ⟨rfl, trivial⟩ rfl rfl) rfl (by decide) (fun w F hA => by cases (show F = [] from hA); exact ⟨_, _, [(.int .i64 x24401)], _, rfl, rfl, ⟨rfl, rfl⟩, ⟨rfl, rfl⟩⟩) (fun v24406 w24407 H => ⟨trivial, fun a S => ?_⟩)
   obtain ⟨x24409, e24410, hm⟩ := bind_some hm
   have hlt := lt_of_idx (idx_some e24410).2
   refine lq (ePtr v55 (x73.toNat * 1)) S (q_indexAddr rfl (H.isSl 2 rfl) rfl (idx_some e24410).1 hlt Tryz.underlying47 Tryz.sizeOf61) fun a S => ?_
   have hcl : Value.cells v24406 = List.toArray [v24406] := (cells_sl (H.isSl 0 rfl))
   have hon : ∀ c ∈ ([v24406] : List Value), c.oneCell' = true := (List.forall_mem_cons.2 ⟨one_sl (H.isSl 0 rfl), (List.forall_mem_nil _)⟩)
   have H : Heap w0 [oA (rList (rMx w0 (rList (rInt .i64)))) v55 xs72, oA (rList (rInt .i64)) v24406 [x24401], bA b49 [(.int .i64 a0.1), (.int .i64 a0.2.1), v33, v35] 31] w24407 := H.front 2 rfl
   refine lx_storeElem (r := (rMx w0 (rList (rInt .i64)))) (us := [v24406]) (off := 0) (e' := (Mx.own [x24401])) S trivial rfl H (ev_zero rfl) rfl (idx_some e24410).2 hcl Tryz.sizeOf61 (Nat.le_of_ble_eq_true rfl) hon (Upd.full rfl (fun w G hG => oA_list.1 hG)) (fun w24411 H => ⟨trivial, fun a S => ?_⟩)
   refine lx_nil ?_
   refine inBlock_norm ?_
   refine thenN ?_
   refine region_plain ?_
   refine lq (.int .i64 (W (x73 + (1 : Int)))) S (q_add rfl rfl) fun a S => ?_
   refine lq (.int .i64 (W (x73 + (1 : Int)))) S (q_move rfl) fun a S => ?_
   refine lx_nil ?_
   have H : Heap w0 [bA b49 [(.int .i64 a0.1), (.int .i64 a0.2.1), v33, v35] 31, oA (rList (rMx w0 (rList (rInt .i64)))) v55 (xs72.set x73.toNat (Mx.own [x24401]))] w24411 := H.front 1 rfl
   exact ⟨m24397, Nat.lt_succ_self _, (xs72.set x73.toNat (Mx.own [x24401])), (W (x73 + (1 : Int))), S.sub ⟨rfl, rfl, rfl, rfl, rfl, rfl, trivial⟩, H, it_cont hm hc24399⟩
  ·have hm := ite_f hc24400 hm
   refine wp_exit ?_
   refine then_exit ?_
   refine then_exit ?_
   refine inBlock_exit ?_
   obtain rfl := it_brk hm hc24399
   exact ⟨xs72, S.sub ⟨rfl, rfl, rfl, trivial⟩, H, rfl⟩

/-- impl.single -/
def impl_single_m (_ : Nat) (a0 : Int) : Option ((List Int)) :=
  (mks a0 (0 : Int)).bind fun x31 => some (x31)
set_option maxRecDepth 20000 in
theorem impl_single_ok [dr : Dr] {w0 : World} {fuel : Nat} {a0 : Int} {r : (List Int)} (hm : impl_single_m fuel a0 = some r) :
  Calls Tryz.prog 100 #[.int .i64 a0] w0 fun e w => ∃ (v0 : Value), e = .returned (v0) ∧ Heap w0 [oA (rList (rInt .i64)) v0 r] w := by
 unfold impl_single_m at hm
 have H := Heap.start w0
 refine enter (args := [.int .i64 a0]) Tryz.func100 rfl 5 rfl (Nat.le_of_ble_eq_true rfl) (fun a S => ?_)
 refine wp_seq (region_plain ?_)
 refine lq (.slice none 0 0) S (q_assign rfl) fun a S => ?_
 refine lx_nil (thenN ?_)
 refine wp_seq (region_plain ?_)
 refine lq (.int .i64 a0) S (q_move rfl) fun a S => ?_
 obtain ⟨x31, e32, hm⟩ := bind_some hm
 obtain ⟨m33, hn, hn2, rfl⟩ := mks_some e32
 refine lx_make (r := (rInt .i64)) (z0 := (0 : Int)) (n := m33) S trivial (by decide) rfl H (by rw [← hn]; rfl) (by rw [← hn]; rfl) Tryz.underlying61 (Tryz.ti2) rfl rfl (Nat.le_of_ble_eq_true rfl) (fun w => ⟨rfl, rfl⟩) hn2 (by decide) (fun v34 w35 H => ⟨trivial, fun a S => ?_⟩)
 refine lq v34 S (q_assign rfl) fun a S => ?_
 refine lx_nil (thenN ?_)
 refine wp_ret ?_
 obtain rfl := Option.some.inj hm
 exact leave1 S rfl rfl ⟨v34, rfl, H⟩

/-- impl.rounds -/
def impl_rounds_m (fuel : Nat) (a0 : Int) (a1 : ((List Int) → Option (List Int))) : Option ((List (List Int))) :=
  (impl_single_m fuel a0).bind fun x33 => (iter (fun (s : (List (List Int))) => (match s with | (xs75) => (idx xs75 (W ((xs75.length : Int) - (1 : Int)))).bind fun x118 => (a1 x118).bind fun x129 => (slices_Equal__int64_int64_m fuel x118 x129).bind fun x136 => (if x136 = true then some (.inr (.inr xs75)) else (app xs75 [x129]).bind fun x143 => some (.inl (x143))) : Option (((List (List Int))) ⊕ ((Empty) ⊕ ((List (List Int))))))) fuel ([x33])).bind fun res110 => ctl (β := Empty) (ρ := (List (List Int))) (τ := (List (List Int))) res110 (fun e_ => e_.elim) (fun q => some (q))
set_option maxRecDepth 20000 in
theorem impl_rounds_ok [dr : Dr] {w0 : World} {fuel : Nat} {a0 : Int} {a1 : ((List Int) → Option (List Int))} {f1 : Nat} {fs1 cp1 : List Value} {r : (List (List Int))} (hcf1 : ∀ args w, (callFunc f1 args).run Tryz.prog w = .ok (.enter f1 args) w) (hf1 : ∀ {w : World} {x0_ : (List Int)} {v0_ : Value} {y : (List Int)}, Ext w0 w → Rd (rList (rInt .i64)) w v0_ x0_ → a1 x0_ = some y → Calls Tryz.prog f1 (fs1 ++ ([v0_] : List Value) ++ cp1).toArray w fun e w' => ∃ v0_, e = .returned v0_ ∧ Heap w [oA (rList (rInt .i64)) v0_ y] w') (hm : impl_rounds_m fuel a0 a1 = some r) :
  Calls Tryz.prog 78 #[.int .i64 a0, .func (.func f1) fs1.toArray cp1.toArray] w0 fun e w => ∃ (v0 : Value), e = .returned (v0) ∧ Heap w0 [oA (rList (rList (rInt .i64))) v0 r] w := by
 unfold impl_rounds_m at hm
 have H := Heap.start w0
 refine enter (args := [.int .i64 a0, .func (.func f1) fs1.toArray cp1.toArray]) Tryz.func78 rfl 28 rfl (Nat.le_of_ble_eq_true rfl) (fun a S => ?_)
 refine wp_seq (region_plain ?_)
 refine lq (.slice none 0 0) S (q_assign rfl) fun a S => ?_
 refine lx_nil (thenN ?_)
 refine wp_seq (region_plain ?_)
 refine lq (.int .i64 a0) S (q_move rfl) fun a S => ?_
 obtain ⟨x33, e34, hm⟩ := bind_some hm
 refine lx_call (xs := [.tmp 8]) S trivial (by decide) rfl rfl Tryz.call100 ((impl_single_ok  e34).mono ?_)
 rintro e w31 ⟨v35, rfl, Hc32⟩
 have H := H.call1 Hc32
 refine ⟨_, rfl, trivial, fun a S => ?_⟩
 refine lx_buildSlice (r := (rList (rInt .i64))) (xs := [x33]) (ps := [(0, [v35])]) (cs := [v35]) (parts := [(0, .tmp 9)]) S trivial (by decide) rfl H rfl Tryz.underlying47 Tryz.sizeOf61 Tryz.zeroValue61 (by decide) ⟨rfl, (cells_sl (H.isSl 0 rfl)), Nat.le_of_ble_eq_true rfl, trivial⟩ (by intro zs hz; exact fill_dense hz ⟨rfl, trivial⟩ rfl rfl) rfl (by decide) (fun w F hA => ownL_one_mk (ownF (oA_list.1 hA))) (fun v38 w39 H => ⟨trivial, fun a S => ?_⟩)
 refine lq v38 S (q_assign rfl) fun a S => ?_
 refine lx_nil (thenN ?_)
 obtain ⟨res110, hit111, hk114⟩ := bind_some hm
 obtain ⟨f112, hf113, hit111⟩ := iter_name hit111
 refine block_loop (fun a w => False) ?_ ?_
 ·exact fun _ _ h => h.elim
 ·skip
  refine loop_ghost (fun n a w => ∃ (xs75 : List (List Int)) (v74 : Value), Slots a 28 [(1, (.func (.func f1) fs1.toArray cp1.toArray)), (5, v74)] ∧ Heap w0 [oA (rList (rList (rInt .i64))) v74 xs75] w ∧ iter f112 n (xs75) = some res110) _ ⟨[x33], v38, S.sub ⟨rfl, rfl, trivial⟩, H, hit111⟩ ?_
  rintro n a w ⟨xs75, v74, S, H, hit111⟩
  obtain ⟨m115, o116, rfl, hm, hc117⟩ := iter_step hit111
  rw [hf113] at hm
  refine wp_block ?_
  refine wp_seq (region_plain ?_)
  refine lq v74 S (q_move rfl) fun a S => ?_
  refine lq v74 S (q_move rfl) fun a S => ?_
  refine lq (.int .i64 (xs75.length : Int)) S (q_lenSl rfl (H.isSl 0 rfl) rfl Tryz.underlying47) fun a S => ?_
  refine lq (.int .i64 (W ((xs75.length : Int) - (1 : Int)))) S (q_sub rfl rfl) fun a S => ?_
  obtain ⟨x118, e119, hm⟩ := bind_some hm
  have hlt := lt_of_idx (idx_some e119).2
  refine lq (ePtr v74 ((W ((xs75.length : Int) - (1 : Int))).toNat * 1)) S (q_indexAddr rfl (H.isSl 0 rfl) rfl (idx_some e119).1 hlt Tryz.underlying47 Tryz.sizeOf61) fun a S => ?_
  obtain ⟨c120, h121, hat122⟩ := (H.rdAt 0 rfl).elem (idx_some e119).2
  obtain ⟨v123, rfl, h124⟩ := rd_list h121
  refine lx_e v123 S trivial (by decide) rfl trivial (q_load1 rfl Tryz.isAgg61 (by rintro _ rfl; exact (hat122 0 _ rfl))) (fun a S => ?_)
  refine lq v123 S (q_assign rfl) fun a S => ?_
  refine lx_nil (thenN ?_)
  refine wp_seq (region_plain ?_)
  refine lq (.func (.func f1) fs1.toArray cp1.toArray) S (q_move rfl) fun a S => ?_
  refine lq v123 S (q_move rfl) fun a S => ?_
  obtain ⟨x129, e130, hm⟩ := bind_some hm
  refine lx_callV (f := f1) (first := fs1) (cap := cp1) (xs := [.tmp 18]) S trivial (by decide) rfl rfl rfl hcf1 ((hf1 H.ext (h124.ext (Ext.refl _)) e130).mono ?_)
  rintro e w127 ⟨v132, rfl, Hc128⟩
  have he131 := Hc128.ext
  have H := H.call1 Hc128
  refine ⟨_, rfl, trivial, fun a S => ?_⟩
  refine lq v132 S (q_assign rfl) fun a S => ?_
  refine lx_nil (thenN ?_)
  refine wp_seq (wp_seq (region_plain ?_))
  refine lq v123 S (q_move rfl) fun a S => ?_
  refine lq v132 S (q_move rfl) fun a S => ?_
  obtain ⟨x136, e137, hm⟩ := bind_some hm
  refine lx_call (xs := [.tmp 20, .tmp 21]) S trivial (by decide) rfl rfl Tryz.call101 ((slices_Equal__int64_int64_ok (h124.ext he131) (H.rdAt 0 rfl) e137).mono ?_)
  rintro e w134 ⟨rfl, Hc135⟩
  have H := H.call0 Hc135
  refine ⟨_, rfl, trivial, fun a S => ?_⟩
  refine lx_nil (thenN ?_)
  refine cond_b S rfl (fun hc139 => ?_) (fun hc139 => ?_)
  ·have hm := ite_t hc139 hm
   refine wp_seq (region_plain ?_)
   refine lq v74 S (q_move rfl) fun a S => ?_
   refine lq v74 S (q_assign rfl) fun a S => ?_
   refine lx_nil (thenN ?_)
   refine wp_ret (then_ret ?_)
   refine inBlock_ret ?_
   refine then_ret ?_
   refine inBlock_ret ?_
   refine then_ret ?_
   obtain rfl := it_brk hm hc117
   have hm := ctl_inr hk114
   obtain rfl := Option.some.inj hm
   have H : Heap w0 [oA (rList (rList (rInt .i64))) v74 xs75] w134 := H.sel [1] (by decide)
   exact leave1 S rfl rfl ⟨v74, rfl, H⟩
  ·have hm := ite_f hc139 hm
   refine wp_skip (thenN ?_)
   refine region_plain ?_
   refine lq v74 S (q_move rfl) fun a S => ?_
   refine lq v132 S (q_move rfl) fun a S => ?_
   refine lx_buildSlice (r := (rList (rInt .i64))) (xs := [x129]) (ps := [(0, [v132])]) (cs := [v132]) (parts := [(0, .tmp 25)]) S trivial (by decide) rfl H rfl Tryz.underlying47 Tryz.sizeOf61 Tryz.zeroValue61 (by decide) ⟨rfl, (cells_sl (H.isSl 0 rfl)), Nat.le_of_ble_eq_true rfl, trivial⟩ (by intro zs hz; exact fill_dense hz ⟨rfl, trivial⟩ rfl rfl) rfl (by decide) (fun w F hA => ownL_one_mk (ownF (oA_list.1 hA))) (fun v140 w141 H => ⟨trivial, fun a S => ?_⟩)
   obtain ⟨x143, e144, hm⟩ := bind_some hm
   obtain ⟨hle, hap⟩ := app_some e144
   replace hap := hap.symm
   subst hap
   have H : Heap w0 [oA (rList (rList (rInt .i64))) v140 [x129], oA (rList (rList (rInt .i64))) v74 xs75] w141 := H.front 0 rfl
   have H : Heap w0 [oA (rList (rList (rInt .i64))) v74 xs75, oA (rList (rList (rInt .i64))) v140 [x129]] w141 := H.front 1 rfl
   refine lx_appendOwn (r := (rList (rInt .i64))) S trivial (by decide) rfl H rfl rfl Tryz.underlying47 Tryz.ti61 rfl rfl rfl (Nat.le_of_ble_eq_true rfl) (by decide) hle (fun v145 w146 H => ⟨trivial, fun a S => ?_⟩)
   refine lq v145 S (q_assign rfl) fun a S => ?_
   refine lx_nil ?_
   refine inBlock_norm ?_
   exact ⟨m115, Nat.lt_succ_self _, (xs75 ++ [x129]), v145, S.sub ⟨rfl, rfl, trivial⟩, H, it_cont hm hc117⟩

/-- (impl.Lts).splitRound$1 -/
def impl_Lts_splitRound_1_m (_ : Nat) (a0 : (List Int)) (a1 : Int) (a2 : Int) : Option (Bool) :=
  (idx a0 a1).bind fun x39 => (idx a0 a2).bind fun x44 => some ((x39 != x44))
set_option maxRecDepth 20000 in
theorem impl_Lts_splitRound_1_ok [dr : Dr] {w0 : World} {fuel : Nat} {p0 p1 p2 : Value} {a0 : (List Int)} {a1 : Int} {a2 : Int} {r : Bool} (h0 : Rd (rList (rInt .i64)) w0 p0 a0) (h1 : Rd (rPtr (rInt .i64)) w0 p1 a1) (h2 : Rd (rPtr (rInt .i64)) w0 p2 a2) (hm : impl_Lts_splitRound_1_m fuel a0 a1 a2 = some r) :
  Calls Tryz.prog 80 #[p0, p1, p2] w0 fun e w => e = .returned (.bool r) ∧ Heap w0 [] w := by
 unfold impl_Lts_splitRound_1_m at hm
 have H := Heap.start w0
 obtain ⟨c31, h32, hat33⟩ := h1.ptr
 obtain rfl := h32
 obtain ⟨c34, h35, hat36⟩ := h2.ptr
 obtain rfl := h35
 refine enter (args := [p0, p1, p2]) Tryz.func80 rfl 14 rfl (Nat.le_of_ble_eq_true rfl) (fun a S => ?_)
 refine wp_seq (region_plain ?_)
 refine lq (.bool false) S (q_assign rfl) fun a S => ?_
 refine lx_nil (thenN ?_)
 refine wp_seq ?_
 refine region_drawG (fun w1 => Heap w0 [] w1) (fun i => [].contains i) mixed (by kernel_rfl) (fun w38 he37 => ?_)
 have H := H.later he37
 refine ⟨H.sel [] (by decide), ?_⟩
 refine lq p0 S (q_move rfl) fun a S => ?_
 refine lq (.int .i64 a1) S (q_load1 rfl Tryz.isAgg2 (fun w1 hC => ((hat33 0 _ rfl).ext hC.ext))) fun a S => ?_
 obtain ⟨x39, e40, hm⟩ := bind_some hm
 obtain ⟨c41, h42, hat43⟩ := (h0).elem (idx_some e40).2
 obtain rfl := h42
 have hlt := lt_of_idx (idx_some e40).2
 refine lq (ePtr p0 (a1.toNat * 1)) S (q_indexAddr rfl (h0).isSl rfl (idx_some e40).1 hlt Tryz.underlying61 Tryz.sizeOf2) fun a S => ?_
 refine lq (.int .i64 x39) S (q_load1 rfl Tryz.isAgg2 (fun w1 hC => ((hat43 0 _ rfl).ext hC.ext))) fun a S => ?_
 refine lq p0 S (q_move rfl) fun a S => ?_
 refine lq (.int .i64 a2) S (q_load1 rfl Tryz.isAgg2 (fun w1 hC => ((hat36 0 _ rfl).ext hC.ext))) fun a S => ?_
 obtain ⟨x44, e45, hm⟩ := bind_some hm
 obtain ⟨c46, h47, hat48⟩ := (h0).elem (idx_some e45).2
 obtain rfl := h47
 have hlt := lt_of_idx (idx_some e45).2
 refine lq (ePtr p0 (a2.toNat * 1)) S (q_indexAddr rfl (h0).isSl rfl (idx_some e45).1 hlt Tryz.underlying61 Tryz.sizeOf2) fun a S => ?_
 refine lq (.int .i64 x44) S (q_load1 rfl Tryz.isAgg2 (fun w1 hC => ((hat48 0 _ rfl).ext hC.ext))) fun a S => ?_
 refine lq (.bool (x39 != x44)) S (q_neq rfl rfl) fun a S => ?_
 refine lq (.bool (x39 != x44)) S (q_assign rfl) fun a S => ?_
 refine lx_nil (thenN ?_)
 refine wp_ret ?_
 obtain rfl := Option.some.inj hm
 exact leave1 S rfl rfl ⟨rfl, H⟩

/-- (impl.Lts).splitRound -/
def impl_Lts_splitRound_m (fuel : Nat) (a0 : Timpl_Lts) (a1 : Int) (a2 : Int) : Option (Int) :=
  (impl_rounds_m fuel a0.1 (fun (z0 : (List Int)) => impl_Lts_refine_m fuel (a0.1, a0.2.1, a0.2.2.1, a0.2.2.2) z0)).bind fun x60 => (slices_IndexFunc___int64__int64_m fuel x60 (fun (z0 : (List Int)) => impl_Lts_splitRound_1_m fuel z0 a1 a2)).bind fun x68 => some (x68)
set_option maxRecDepth 20000 in
theorem impl_Lts_splitRound_ok [dr : Dr] {w0 : World} {fuel : Nat} {p0 : Value} {a0 : Timpl_Lts} {a1 : Int} {a2 : Int} {r : Int} (h0 : Rd Rimpl_Lts w0 p0 a0) (hm : impl_Lts_splitRound_m fuel a0 a1 a2 = some r) :
  Calls Tryz.prog 50 #[p0, .int .i64 a1, .int .i64 a2] w0 fun e w => e = .returned (.int .i64 r) ∧ Heap w0 [] w := by
 unfold impl_Lts_splitRound_m at hm
 have H := Heap.start w0
 obtain ⟨c31, rfl, h32⟩ := h0
 obtain ⟨c37, c38, rfl, h39, h40⟩ := h32
 obtain rfl := h39
 obtain ⟨c41, c42, rfl, h43, h44⟩ := h40
 obtain rfl := h43
 obtain ⟨c45, c46, rfl, h47, h48⟩ := h44
 obtain ⟨v33, rfl, h34⟩ := rd_list h47
 obtain ⟨v35, rfl, h36⟩ := rd_list h48
 refine enter (args := [(.agg #[(.int .i64 a0.1), (.int .i64 a0.2.1), v33, v35]), .int .i64 a1, .int .i64 a2]) Tryz.func50 rfl 14 rfl (Nat.le_of_ble_eq_true rfl) (fun a S => ?_)
 refine wp_seq (region_plain ?_)
 refine lx_box S trivial (by decide) rfl H rfl rfl (fun b49 w50 H => ⟨trivial, fun a S => ?_⟩)
 refine lx_box S trivial (by decide) rfl H rfl rfl (fun b52 w53 H => ⟨trivial, fun a S => ?_⟩)
 refine lx_box S trivial (by decide) rfl H rfl rfl (fun b55 w56 H => ⟨trivial, fun a S => ?_⟩)
 refine lq (.int .i64 (0 : Int)) S (q_assign rfl) fun a S => ?_
 refine lx_nil (thenN ?_)
 refine wp_seq (region_plain ?_)
 refine lq (pAdd (bp b49) 0) S (q_fieldAddr' 0 2 rfl (isP_bp _) Tryz.underlying31 rfl Tryz.sizeOf2) fun a S => ?_
 refine lx_e (.int .i64 a0.1) S trivial (by decide) rfl trivial (q_load1 rfl Tryz.isAgg2 (by rintro _ rfl; exact (At.of_add (m := 0) (j := 0) (boxAt (i := 2) H rfl (j := 0) rfl)))) (fun a S => ?_)
 refine lx_e (.agg #[(.int .i64 a0.1), (.int .i64 a0.2.1), v33, v35]) S trivial (by decide) rfl trivial (q_loadA (cs := [(.int .i64 a0.1), (.int .i64 a0.2.1), v33, v35]) rfl (isP_bp _) Tryz.isAgg31 Tryz.sizeOf31 (by rintro _ rfl; exact (fun j u hu => boxAt (i := 2) H rfl hu))) (fun a S => ?_)
 refine lq (.func (.func 79) #[(.agg #[(.int .i64 a0.1), (.int .i64 a0.2.1), v33, v35])] #[]) S (q_makeFunc (xs := [.tmp 9]) (ys := []) rfl rfl) fun a S => ?_
 obtain ⟨x60, e61, hm⟩ := bind_some hm
 have hcap62 : Rd Rimpl_Lts w56 (.agg #[(.int .i64 a0.1), (.int .i64 a0.2.1), v33, v35]) (a0.1, a0.2.1, a0.2.2.1, a0.2.2.2) := ⟨[(.int .i64 a0.1), (.int .i64 a0.2.1), v33, v35], rfl, ⟨[(.int .i64 a0.1)], [(.int .i64 a0.2.1), v33, v35], rfl, rfl, ⟨[(.int .i64 a0.2.1)], [v33, v35], rfl, rfl, ⟨[v33], [v35], rfl, ((H.arg h34)).list_rd, ((H.arg h36)).list_rd⟩⟩⟩⟩
 refine lx_call (xs := [.tmp 8, .tmp 10]) S trivial (by decide) rfl rfl Tryz.call78 ((impl_rounds_ok (f1 := 79) (fs1 := ([(.agg #[(.int .i64 a0.1), (.int .i64 a0.2.1), v33, v35])] : List Value)) (cp1 := ([] : List Value)) (a1 := (fun (z0 : (List Int)) => impl_Lts_refine_m fuel (a0.1, a0.2.1, a0.2.2.1, a0.2.2.2) z0))  Tryz.call79 (fun he h0_ hm => impl_Lts_refine_ok (hcap62.ext he) h0_  hm) e61).mono ?_)
 rintro e w58 ⟨v63, rfl, Hc59⟩
 have H := H.call1 Hc59
 refine ⟨_, rfl, trivial, fun a S => ?_⟩
 refine lq (.func (.func 80) #[] #[(bp b52), (bp b55)]) S (q_makeFunc (xs := []) (ys := [.tmp 4, .tmp 5]) rfl rfl) fun a S => ?_
 obtain ⟨x68, e69, hm⟩ := bind_some hm
 have hcap70 : Rd (rPtr (rInt .i64)) w58 (bp b52) a1 := (rdPtr_box H 2 rfl rfl)
 have hcap71 : Rd (rPtr (rInt .i64)) w58 (bp b55) a2 := (rdPtr_box H 1 rfl rfl)
 refine lx_call (xs := [.tmp 11, .tmp 12]) S trivial (by decide) rfl rfl Tryz.call77 ((slices_IndexFunc___int64__int64_ok (f1 := 80) (fs1 := ([] : List Value)) (cp1 := ([(bp b52), (bp b55)] : List Value)) (a1 := (fun (z0 : (List Int)) => impl_Lts_splitRound_1_m fuel z0 a1 a2)) (H.rdAt 0 rfl) Tryz.call80 (fun he h0_ hm => impl_Lts_splitRound_1_ok  h0_ (hcap70.ext he) (hcap71.ext he) hm) e69).mono ?_)
 rintro e w66 ⟨rfl, Hc67⟩
 have H := H.call0 Hc67
 refine ⟨_, rfl, trivial, fun a S => ?_⟩
 refine lq (.int .i64 x68) S (q_assign rfl) fun a S => ?_
 refine lx_nil (thenN ?_)
 refine wp_ret ?_
 obtain rfl := Option.some.inj hm
 have H : Heap w0 [] w66 := H.sel [] (by decide)
 exact leave1 S rfl rfl ⟨rfl, H⟩

/-- impl.SplitRound -/
def impl_SplitRound_m (fuel : Nat) (a0 : Timpl_Lts) (a1 : Int) (a2 : Int) : Option ((Int × Int)) :=
  (impl_statesCode_m fuel (a0.1, a0.2.1, a0.2.2.1, a0.2.2.2) [a1, a2]).bind fun x57 => (if (x57 != (0 : Int)) = true then some (((0 : Int), x57)) else (impl_Lts_splitRound_m fuel (a0.1, a0.2.1, a0.2.2.1, a0.2.2.2) a1 a2).bind fun x63 => (if (decide (x63 < (0 : Int))) = true then some (((0 : Int), (3 : Int))) else some ((x63, (0 : Int)))))
set_option maxRecDepth 20000 in
theorem impl_SplitRound_ok {w0 : World} {fuel : Nat} {p0 : Value} {a0 : Timpl_Lts} {a1 : Int} {a2 : Int} {r : (Int × Int)} (hG : GlobE Tryz.prog w0) (h0 : Rd Rimpl_Lts w0 p0 a0) (hm : impl_SplitRound_m fuel a0 a1 a2 = some r) :
  Calls Tryz.prog 25 #[p0, .int .i64 a1, .int .i64 a2] w0 fun e w => e = .returned (.tuple #[.int .i64 r.1, .int .i64 r.2]) ∧ Heap w0 [] w := by
 unfold impl_SplitRound_m at hm
 have H := Heap.start w0
 obtain ⟨c31, rfl, h32⟩ := h0
 obtain ⟨c37, c38, rfl, h39, h40⟩ := h32
 obtain rfl := h39
 obtain ⟨c41, c42, rfl, h43, h44⟩ := h40
 obtain rfl := h43
 obtain ⟨c45, c46, rfl, h47, h48⟩ := h44
 obtain ⟨v33, rfl, h34⟩ := rd_list h47
 obtain ⟨v35, rfl, h36⟩ := rd_list h48
 refine enter (args := [(.agg #[(.int .i64 a0.1), (.int .i64 a0.2.1), v33, v35]), .int .i64 a1, .int .i64 a2]) Tryz.func25 rfl 25 rfl (Nat.le_of_ble_eq_true rfl) (fun a S => ?_)
 refine wp_seq (region_plain ?_)
 refine lx_box S trivial (by decide) rfl H rfl rfl (fun b49 w50 H => ⟨trivial, fun a S => ?_⟩)
 refine lq (.int .i64 (0 : Int)) S (q_assign rfl) fun a S => ?_
 refine lq (.int .i64 (0 : Int)) S (q_assign rfl) fun a S => ?_
 refine lx_nil (thenN ?_)
 refine wp_seq (wp_seq (region_plain ?_))
 refine lx_e (.agg #[(.int .i64 a0.1), (.int .i64 a0.2.1), v33, v35]) S trivial (by decide) rfl trivial (q_loadA (cs := [(.int .i64 a0.1), (.int .i64 a0.2.1), v33, v35]) rfl (isP_bp _) Tryz.isAgg31 Tryz.sizeOf31 (by rintro _ rfl; exact (fun j u hu => boxAt (i := 0) H rfl hu))) (fun a S => ?_)
 refine lq (.int .i64 a1) S (q_move rfl) fun a S => ?_
 refine lq (.int .i64 a2) S (q_move rfl) fun a S => ?_
 refine lx_buildSlice (r := (rInt .i64)) (xs := [a1, a2]) (ps := [(0, [(.int .i64 a1)]), (1, [(.int .i64 a2)])]) (cs := [(.int .i64 a1), (.int .i64 a2)]) (parts := [(0, .tmp 11), (1, .tmp 12)]) S trivial (by decide) rfl (H.put0 (A := eA) rfl) rfl Tryz.underlying61 Tryz.sizeOf2 Tryz.zeroValue2 (by decide) ⟨rfl, rfl, Nat.le_of_ble_eq_true rfl, ⟨rfl, rfl, Nat.le_of_ble_eq_true rfl, trivial⟩⟩ (by intro zs hz; exact fill_dense hz ⟨rfl, ⟨rfl, trivial⟩⟩ rfl rfl) rfl (by decide) (fun w F hA => by cases (show F = [] from hA); exact ⟨_, _, [(.int .i64 a1)], _, rfl, rfl, ⟨rfl, rfl⟩, ⟨_, _, [(.int .i64 a2)], _, rfl, rfl, ⟨rfl, rfl⟩, ⟨rfl, rfl⟩⟩⟩) (fun v52 w53 H => ⟨trivial, fun a S => ?_⟩)
 obtain ⟨x57, e58, hm⟩ := bind_some hm
 refine lx_call (xs := [.tmp 10, .tmp 13]) S trivial (by decide) rfl rfl Tryz.call49 ((impl_statesCode_ok (hG.ext H.ext) ⟨[(.int .i64 a0.1), (.int .i64 a0.2.1), v33, v35], rfl, ⟨[(.int .i64 a0.1)], [(.int .i64 a0.2.1), v33, v35], rfl, rfl, ⟨[(.int .i64 a0.2.1)], [v33, v35], rfl, rfl, ⟨[v33], [v35], rfl, ((H.arg h34)).list_rd, ((H.arg h36)).list_rd⟩⟩⟩⟩ (H.rdAt 0 rfl) e58).mono ?_)
 rintro e w55 ⟨rfl, Hc56⟩
 have H := H.call0 Hc56
 refine ⟨_, rfl, trivial, fun a S => ?_⟩
 refine lq (.int .i64 x57) S (q_assign rfl) fun a S => ?_
 refine lx_nil (thenN ?_)
 refine wp_seq (region_plain ?_)
 refine lq (.int .i64 x57) S (q_move rfl) fun a S => ?_
 refine lq (.bool (x57 != (0 : Int))) S (q_neq rfl rfl) fun a S => ?_
 refine lx_nil (thenN ?_)
 refine cond_b S rfl (fun hc60 => ?_) (fun hc60 => ?_)
 ·have hm := ite_t hc60 hm
  refine wp_seq (region_plain ?_)
  refine lq (.int .i64 x57) S (q_move rfl) fun a S => ?_
  refine lq (.int .i64 (0 : Int)) S (q_assign rfl) fun a S => ?_
  refine lq (.int .i64 x57) S (q_assign rfl) fun a S => ?_
  refine lx_nil (thenN ?_)
  refine wp_ret (then_ret ?_)
  obtain rfl := Option.some.inj hm
  have H : Heap w0 [] w55 := H.sel [] (by decide)
  exact leave2 S rfl rfl rfl ⟨rfl, H⟩
 ·have hm := ite_f hc60 hm
  refine wp_skip (thenN ?_)
  refine wp_seq (region_plain ?_)
  refine lx_e (.agg #[(.int .i64 a0.1), (.int .i64 a0.2.1), v33, v35]) S trivial (by decide) rfl trivial (q_loadA (cs := [(.int .i64 a0.1), (.int .i64 a0.2.1), v33, v35]) rfl (isP_bp _) Tryz.isAgg31 Tryz.sizeOf31 (by rintro _ rfl; exact (fun j u hu => boxAt (i := 1) H rfl hu))) (fun a S => ?_)
  refine lq (.int .i64 a1) S (q_move rfl) fun a S => ?_
  refine lq (.int .i64 a2) S (q_move rfl) fun a S => ?_
  obtain ⟨x63, e64, hm⟩ := bind_some hm
  refine lx_call (xs := [.tmp 18, .tmp 19, .tmp 20]) S trivial (by decide) rfl rfl Tryz.call50 ((impl_Lts_splitRound_ok ⟨[(.int .i64 a0.1), (.int .i64 a0.2.1), v33, v35], rfl, ⟨[(.int .i64 a0.1)], [(.int .i64 a0.2.1), v33, v35], rfl, rfl, ⟨[(.int .i64 a0.2.1)], [v33, v35], rfl, rfl, ⟨[v33], [v35], rfl, ((H.arg h34)).list_rd, ((H.arg h36)).list_rd⟩⟩⟩⟩   e64).mono ?_)
  rintro e w61 ⟨rfl, Hc62⟩
  have H := H.call0 Hc62
  refine ⟨_, rfl, trivial, fun a S => ?_⟩
  refine lq (.int .i64 x63) S (q_assign rfl) fun a S => ?_
  refine lx_nil (thenN ?_)
  refine wp_seq (wp_seq (region_plain ?_))
  refine lq (.int .i64 x63) S (q_move rfl) fun a S => ?_
  refine lq (.bool (decide (x63 < (0 : Int)))) S (q_lss rfl rfl) fun a S => ?_
  refine lx_nil (thenN ?_)
  refine cond_b S rfl (fun hc66 => ?_) (fun hc66 => ?_)
  ·have hm := ite_t hc66 hm
   refine wp_seq (region_plain ?_)
   refine lq (.int .i64 (0 : Int)) S (q_assign rfl) fun a S => ?_
   refine lq (.int .i64 (3 : Int)) S (q_assign rfl) fun a S => ?_
   refine lx_nil (thenN ?_)
   refine wp_ret (then_ret ?_)
   obtain rfl := Option.some.inj hm
   have H : Heap w0 [] w61 := H.sel [] (by decide)
   exact leave2 S rfl rfl rfl ⟨rfl, H⟩
  ·have hm := ite_f hc66 hm
   refine wp_skip (thenN ?_)
   refine wp_seq (region_plain ?_)
   refine lq (.int .i64 x63) S (q_move rfl) fun a S => ?_
   refine lq (.int .i64 x63) S (q_assign rfl) fun a S => ?_
   refine lq (.int .i64 (0 : Int)) S (q_assign rfl) fun a S => ?_
   refine lx_nil (thenN ?_)
   refine wp_ret ?_
   obtain rfl := Option.some.inj hm
   have H : Heap w0 [] w61 := H.sel [] (by decide)
   exact leave2 S rfl rfl rfl ⟨rfl, H⟩

/-- impl.SeparationDepth -/
def impl_SeparationDepth_m (fuel : Nat) (a0 : Timpl_Lts) (a1 : Int) (a2 : Int) : Option ((Int × Int)) :=
  (impl_SplitRound_m fuel (a0.1, a0.2.1, a0.2.2.1, a0.2.2.2) a1 a2).bind fun x54 => some ((x54.1, x54.2))
set_option maxRecDepth 20000 in
theorem impl_SeparationDepth_ok {w0 : World} {fuel : Nat} {p0 : Value} {a0 : Timpl_Lts} {a1 : Int} {a2 : Int} {r : (Int × Int)} (hG : GlobE Tryz.prog w0) (h0 : Rd Rimpl_Lts w0 p0 a0) (hm : impl_SeparationDepth_m fuel a0 a1 a2 = some r) :
  Calls Tryz.prog 9 #[p0, .int .i64 a1, .int .i64 a2] w0 fun e w => e = .returned (.tuple #[.int .i64 r.1, .int .i64 r.2]) ∧ Heap w0 [] w := by
 unfold impl_SeparationDepth_m at hm
 have H := Heap.start w0
 obtain ⟨c31, rfl, h32⟩ := h0
 obtain ⟨c37, c38, rfl, h39, h40⟩ := h32
 obtain rfl := h39
 obtain ⟨c41, c42, rfl, h43, h44⟩ := h40
 obtain rfl := h43
 obtain ⟨c45, c46, rfl, h47, h48⟩ := h44
 obtain ⟨v33, rfl, h34⟩ := rd_list h47
 obtain ⟨v35, rfl, h36⟩ := rd_list h48
 refine enter (args := [(.agg #[(.int .i64 a0.1), (.int .i64 a0.2.1), v33, v35]), .int .i64 a1, .int .i64 a2]) Tryz.func9 rfl 14 rfl (Nat.le_of_ble_eq_true rfl) (fun a S => ?_)
 refine wp_seq (region_plain ?_)
 refine lx_box S trivial (by decide) rfl H rfl rfl (fun b49 w50 H => ⟨trivial, fun a S => ?_⟩)
 refine lq (.int .i64 (0 : Int)) S (q_assign rfl) fun a S => ?_
 refine lq (.int .i64 (0 : Int)) S (q_assign rfl) fun a S => ?_
 refine lx_nil (thenN ?_)
 refine wp_seq (region_plain ?_)
 refine lx_e (.agg #[(.int .i64 a0.1), (.int .i64 a0.2.1), v33, v35]) S trivial (by decide) rfl trivial (q_loadA (cs := [(.int .i64 a0.1), (.int .i64 a0.2.1), v33, v35]) rfl (isP_bp _) Tryz.isAgg31 Tryz.sizeOf31 (by rintro _ rfl; exact (fun j u hu => boxAt (i := 0) H rfl hu))) (fun a S => ?_)
 refine lq (.int .i64 a1) S (q_move rfl) fun a S => ?_
 refine lq (.int .i64 a2) S (q_move rfl) fun a S => ?_
 obtain ⟨x54, e55, hm⟩ := bind_some hm
 refine lx_call (xs := [.tmp 8, .tmp 9, .tmp 10]) S trivial (by decide) rfl rfl Tryz.call25 ((impl_SplitRound_ok (hG.ext H.ext) ⟨[(.int .i64 a0.1), (.int .i64 a0.2.1), v33, v35], rfl, ⟨[(.int .i64 a0.1)], [(.int .i64 a0.2.1), v33, v35], rfl, rfl, ⟨[(.int .i64 a0.2.1)], [v33, v35], rfl, rfl, ⟨[v33], [v35], rfl, ((H.arg h34)).list_rd, ((H.arg h36)).list_rd⟩⟩⟩⟩   e55).mono ?_)
 rintro e w52 ⟨rfl, Hc53⟩
 have H := H.call0 Hc53
 refine ⟨_, rfl, trivial, fun a S => ?_⟩
 refine lq (.int .i64 x54.1) S (q_extract rfl rfl) fun a S => ?_
 refine lq (.int .i64 x54.2) S (q_extract rfl rfl) fun a S => ?_
 refine lq (.int .i64 x54.1) S (q_assign rfl) fun a S => ?_
 refine lq (.int .i64 x54.2) S (q_assign rfl) fun a S => ?_
 refine lx_nil (thenN ?_)
 refine wp_ret ?_
 obtain rfl := Option.some.inj hm
 have H : Heap w0 [] w52 := H.sel [] (by decide)
 exact leave2 S rfl rfl rfl ⟨rfl, H⟩

/-- laws.FnExactSeparationDepth -/
def laws_FnExactSeparationDepth_m (fuel : Nat) (a0 : Tlaws_Lts) (a1 : Int) (a2 : Int) : Option (Bool) :=
  (laws_szLts_m fuel (a0.1, a0.2.1, a0.2.2.1, a0.2.2.2) (1048576 : Int)).bind fun x54 => (if (decide (x54 < (0 : Int))) = true then some (true) else (laws_toLts_m fuel (a0.1, a0.2.1, a0.2.2.1, a0.2.2.2)).bind fun x60 => (spec_SeparationDepth_m fuel (x60.1, x60.2.1, x60.2.2.1, x60.2.2.2) a1 a2).bind fun x69 => (laws_toLts_m fuel (a0.1, a0.2.1, a0.2.2.1, a0.2.2.2)).bind fun x74 => (impl_SeparationDepth_m fuel (x74.1, x74.2.1, x74.2.2.1, x74.2.2.2) a1 a2).bind fun x87 => (if (x87.1 != x69.1) = true then some true else some (x87.2 != x69.2)).bind fun t90 => (if t90 = true then some (false) else (laws_toLts_m fuel (a0.1, a0.2.1, a0.2.2.1, a0.2.2.2)).bind fun x98 => (laws_eqLts_m fuel (x74.1, x74.2.1, x74.2.2.1, x74.2.2.2) (x98.1, x98.2.1, x98.2.2.1, x98.2.2.2)).bind fun x107 => (if (!x107) = true then some (false) else some (true))))
set_option maxRecDepth 20000 in
theorem laws_FnExactSeparationDepth_ok {w0 : World} {fuel : Nat} {p0 : Value} {a0 : Tlaws_Lts} {a1 : Int} {a2 : Int} {r : Bool} (hG : GlobE Tryz.prog w0) (h0 : Rd Rlaws_Lts w0 p0 a0) (hm : laws_FnExactSeparationDepth_m fuel a0 a1 a2 = some r) :
  Calls Tryz.prog 3 #[p0, .int .i64 a1, .int .i64 a2] w0 fun e w => e = .returned (.bool r) ∧ Heap w0 [] w := by
 unfold laws_FnExactSeparationDepth_m at hm
 have H := Heap.start w0
 obtain ⟨c31, rfl, h32⟩ := h0
 obtain ⟨c37, c38, rfl, h39, h40⟩ := h32
 obtain rfl := h39
 obtain ⟨c41, c42, rfl, h43, h44⟩ := h40
 obtain rfl := h43
 obtain ⟨c45, c46, rfl, h47, h48⟩ := h44
 obtain ⟨v33, rfl, h34⟩ := rd_list h47
 obtain ⟨v35, rfl, h36⟩ := rd_list h48
 refine enter (args := [(.agg #[(.int .i64 a0.1), (.int .i64 a0.2.1), v33, v35]), .int .i64 a1, .int .i64 a2]) Tryz.func3 rfl 48 rfl (Nat.le_of_ble_eq_true rfl) (fun a S => ?_)
 refine wp_seq (region_plain ?_)
 refine lx_box S trivial (by decide) rfl H rfl rfl (fun b49 w50 H => ⟨trivial, fun a S => ?_⟩)
 refine lq (.bool false) S (q_assign rfl) fun a S => ?_
 refine lx_nil (thenN ?_)
 refine wp_seq (region_plain ?_)
 refine lq (.int .i64 (1048576 : Int)) S (q_assign rfl) fun a S => ?_
 refine lx_nil (thenN ?_)
 refine wp_seq (region_plain ?_)
 refine lx_e (.agg #[(.int .i64 a0.1), (.int .i64 a0.2.1), v33, v35]) S trivial (by decide) rfl trivial (q_loadA (cs := [(.int .i64 a0.1), (.int .i64 a0.2.1), v33, v35]) rfl (isP_bp _) Tryz.isAgg25 Tryz.sizeOf25 (by rintro _ rfl; exact (fun j u hu => boxAt (i := 0) H rfl hu))) (fun a S => ?_)
 refine lq (.int .i64 (1048576 : Int)) S (q_move rfl) fun a S => ?_
 obtain ⟨x54, e55, hm⟩ := bind_some hm
 refine lx_call (xs := [.tmp 13, .tmp 14]) S trivial (by decide) rfl rfl Tryz.call6 ((laws_szLts_ok ⟨[(.int .i64 a0.1), (.int .i64 a0.2.1), v33, v35], rfl, ⟨[(.int .i64 a0.1)], [(.int .i64 a0.2.1), v33, v35], rfl, rfl, ⟨[(.int .i64 a0.2.1)], [v33, v35], rfl, rfl, ⟨[v33], [v35], rfl, ((H.arg h34)).list_rd, ((H.arg h36)).list_rd⟩⟩⟩⟩  e55).mono ?_)
 rintro e w52 ⟨rfl, Hc53⟩
 have H := H.call0 Hc53
 refine ⟨_, rfl, trivial, fun a S => ?_⟩
 refine lq (.int .i64 x54) S (q_assign rfl) fun a S => ?_
 refine lx_nil (thenN ?_)
 refine wp_seq (wp_seq (region_plain ?_))
 refine lq (.int .i64 x54) S (q_move rfl) fun a S => ?_
 refine lq (.bool (decide (x54 < (0 : Int)))) S (q_lss rfl rfl) fun a S => ?_
 refine lx_nil (thenN ?_)
 refine cond_b S rfl (fun hc57 => ?_) (fun hc57 => ?_)
 ·have hm := ite_t hc57 hm
  refine wp_seq (region_plain ?_)
  refine lq (.bool true) S (q_assign rfl) fun a S => ?_
  refine lx_nil (thenN ?_)
  refine wp_ret (then_ret ?_)
  obtain rfl := Option.some.inj hm
  have H : Heap w0 [] w52 := H.sel [] (by decide)
  exact leave1 S rfl rfl ⟨rfl, H⟩
 ·have hm := ite_f hc57 hm
  refine wp_skip (thenN ?_)
  refine wp_seq (region_plain ?_)
  refine lx_e (.agg #[(.int .i64 a0.1), (.int .i64 a0.2.1), v33, v35]) S trivial (by decide) rfl trivial (q_loadA (cs := [(.int .i64 a0.1), (.int .i64 a0.2.1), v33, v35]) rfl (isP_bp _) Tryz.isAgg25 Tryz.sizeOf25 (by rintro _ rfl; exact (fun j u hu => boxAt (i := 0) H rfl hu))) (fun a S => ?_)
  obtain ⟨x60, e61, hm⟩ := bind_some hm
  refine lx_call (xs := [.tmp 19]) S trivial (by decide) rfl rfl Tryz.call8 ((laws_toLts_ok ⟨[(.int .i64 a0.1), (.int .i64 a0.2.1), v33, v35], rfl, ⟨[(.int .i64 a0.1)], [(.int .i64 a0.2.1), v33, v35], rfl, rfl, ⟨[(.int .i64 a0.2.1)], [v33, v35], rfl, rfl, ⟨[v33], [v35], rfl, ((H.arg h34)).list_rd, ((H.arg h36)).list_rd⟩⟩⟩⟩ e61).mono ?_)
  rintro e w58 ⟨v62, v63, rfl, Hc59⟩
  have H := H.call2 Hc59
  refine ⟨_, rfl, trivial, fun a S => ?_⟩
  refine lq (.int .i64 a1) S (q_move rfl) fun a S => ?_
  refine lq (.int .i64 a2) S (q_move rfl) fun a S => ?_
  obtain ⟨x69, e70, hm⟩ := bind_some hm
  refine lx_call (xs := [.tmp 20, .tmp 21, .tmp 22]) S trivial (by decide) rfl rfl Tryz.call7 ((spec_SeparationDepth_ok ⟨[(.int .i64 x60.1), (.int .i64 x60.2.1), v62, v63], rfl, ⟨[(.int .i64 x60.1)], [(.int .i64 x60.2.1), v62, v63], rfl, rfl, ⟨[(.int .i64 x60.2.1)], [v62, v63], rfl, rfl, ⟨[v62], [v63], rfl, ((H.rdAt 0 rfl)).list_rd, ((H.rdAt 1 rfl)).list_rd⟩⟩⟩⟩   e70).mono ?_)
  rintro e w67 ⟨rfl, Hc68⟩
  have H := H.call0 Hc68
  refine ⟨_, rfl, trivial, fun a S => ?_⟩
  refine lq (.tuple #[(.int .i64 x69.1), (.int .i64 x69.2)]) S (q_move rfl) fun a S => ?_
  refine lq (.int .i64 x69.1) S (q_extract rfl rfl) fun a S => ?_
  refine lq (.int .i64 x69.2) S (q_extract rfl rfl) fun a S => ?_
  refine lq (.int .i64 x69.1) S (q_assign rfl) fun a S => ?_
  refine lq (.int .i64 x69.2) S (q_assign rfl) fun a S => ?_
  refine lx_nil (thenN ?_)
  refine wp_seq (region_plain ?_)
  refine lx_e (.agg #[(.int .i64 a0.1), (.int .i64 a0.2.1), v33, v35]) S trivial (by decide) rfl trivial (q_loadA (cs := [(.int .i64 a0.1), (.int .i64 a0.2.1), v33, v35]) rfl (isP_bp _) Tryz.isAgg25 Tryz.sizeOf25 (by rintro _ rfl; exact (fun j u hu => boxAt (i := 2) H rfl hu))) (fun a S => ?_)
  obtain ⟨x74, e75, hm⟩ := bind_some hm
  refine lx_call (xs := [.tmp 26]) S trivial (by decide) rfl rfl Tryz.call8 ((laws_toLts_ok ⟨[(.int .i64 a0.1), (.int .i64 a0.2.1), v33, v35], rfl, ⟨[(.int .i64 a0.1)], [(.int .i64 a0.2.1), v33, v35], rfl, rfl, ⟨[(.int .i64 a0.2.1)], [v33, v35], rfl, rfl, ⟨[v33], [v35], rfl, ((H.arg h34)).list_rd, ((H.arg h36)).list_rd⟩⟩⟩⟩ e75).mono ?_)
  rintro e w72 ⟨v76, v77, rfl, Hc73⟩
  have H := H.call2 Hc73
  refine ⟨_, rfl, trivial, fun a S => ?_⟩
  refine lx_alloc S trivial (by decide) rfl H Tryz.zeroValue31 rfl (fun b81 w82 H => ⟨trivial, fun a S => ?_⟩)
  refine lx_storeBox (o := 0) (i := 0) (us := [(.int .i64 x74.1), (.int .i64 x74.2.1), v76, v77]) (cs' := [(.int .i64 x74.1), (.int .i64 x74.2.1), v76, v77]) S trivial rfl H rfl rfl rfl rfl Tryz.sizeOf31 (Nat.le_of_ble_eq_true rfl) (List.forall_mem_cons.2 ⟨rfl, (List.forall_mem_cons.2 ⟨rfl, (List.forall_mem_cons.2 ⟨one_sl (H.isSl 1 rfl), (List.forall_mem_cons.2 ⟨one_sl (H.isSl 2 rfl), (List.forall_mem_nil _)⟩)⟩)⟩)⟩) rfl (fun w84 H => ⟨trivial, fun a S => ?_⟩)
  change Heap w0 [bA b81 [(.int .i64 x74.1), (.int .i64 x74.2.1), v76, v77] 31, oA (rList rStr) v76 x74.2.2.1, oA (rList Rimpl_Edge) v77 x74.2.2.2, oA (rList rStr) v62 x60.2.2.1, oA (rList Rimpl_Edge) v63 x60.2.2.2, bA b49 [(.int .i64 a0.1), (.int .i64 a0.2.1), v33, v35] 25] w84 at H
  refine lx_nil (thenN ?_)
  refine wp_seq (region_plain ?_)
  refine lx_e (.agg #[(.int .i64 x74.1), (.int .i64 x74.2.1), v76, v77]) S trivial (by decide) rfl trivial (q_loadA (cs := [(.int .i64 x74.1), (.int .i64 x74.2.1), v76, v77]) rfl (isP_bp _) Tryz.isAgg31 Tryz.sizeOf31 (by rintro _ rfl; exact (fun j u hu => boxAt (i := 0) H rfl hu))) (fun a S => ?_)
  refine lq (.int .i64 a1) S (q_move rfl) fun a S => ?_
  refine lq (.int .i64 a2) S (q_move rfl) fun a S => ?_
  obtain ⟨x87, e88, hm⟩ := bind_some hm
  refine lx_call (xs := [.tmp 29, .tmp 30, .tmp 31]) S trivial (by decide) rfl rfl Tryz.call9 ((impl_SeparationDepth_ok (hG.ext H.ext) ⟨[(.int .i64 x74.1), (.int .i64 x74.2.1), v76, v77], rfl, ⟨[(.int .i64 x74.1)], [(.int .i64 x74.2.1), v76, v77], rfl, rfl, ⟨[(.int .i64 x74.2.1)], [v76, v77], rfl, rfl, ⟨[v76], [v77], rfl, ((H.rdAt 1 rfl)).list_rd, ((H.rdAt 2 rfl)).list_rd⟩⟩⟩⟩   e88).mono ?_)
  rintro e w85 ⟨rfl, Hc86⟩
  have H := H.call0 Hc86
  refine ⟨_, rfl, trivial, fun a S => ?_⟩
  refine lq (.tuple #[(.int .i64 x87.1), (.int .i64 x87.2)]) S (q_move rfl) fun a S => ?_
  refine lq (.int .i64 x87.1) S (q_extract rfl rfl) fun a S => ?_
  refine lq (.int .i64 x87.2) S (q_extract rfl rfl) fun a S => ?_
  refine lq (.int .i64 x87.1) S (q_assign rfl) fun a S => ?_
  refine lq (.int .i64 x87.2) S (q_assign rfl) fun a S => ?_
  refine lx_nil (thenN ?_)
  refine wp_seq (wp_seq (region_plain ?_))
  refine lq (.int .i64 x87.1) S (q_move rfl) fun a S => ?_
  refine lq (.int .i64 x69.1) S (q_move rfl) fun a S => ?_
  refine lq (.bool (x87.1 != x69.1)) S (q_neq rfl rfl) fun a S => ?_
  refine lq (.bool (x87.1 != x69.1)) S (q_move rfl) fun a S => ?_
  obtain ⟨t90, e91, hm⟩ := bind_some hm
  refine lx_cut 4 (fun a w => Slots a 48 [(3, (bp b49)), (10, (bp b81)), (42, (.bool t90))] ∧ Heap w0 [bA b81 [(.int .i64 x74.1), (.int .i64 x74.2.1), v76, v77] 31, oA (rList rStr) v76 x74.2.2.1, oA (rList Rimpl_Edge) v77 x74.2.2.2, bA b49 [(.int .i64 a0.1), (.int .i64 a0.2.1), v33, v35] 25] w) ?_ ?_
  ·by_cases hc92 : (x87.1 != x69.1) = true
   ·have hm := ite_t hc92 e91
    refine lx_skip S rfl rfl (isB_ne hc92) (by decide) (fun a S => ?_)
    refine lx_skip S rfl rfl (isB_ne hc92) (by decide) (fun a S => ?_)
    refine lx_skip S rfl rfl (isB_ne hc92) (by decide) (fun a S => ?_)
    refine lq (.bool true) S (q_pickT' rfl hc92 rfl) fun a S => ?_
    refine lx_nil ?_
    obtain rfl := Option.some.inj hm
    have H := H.sel [0, 1, 2, 5] (by decide)
    exact ⟨S.sub ⟨rfl, rfl, rfl, trivial⟩, H⟩
   ·have hm := ite_f (eq_false_of_ne_true hc92) e91
    have hc92 : (x87.1 != x69.1) = false := eq_false_of_ne_true hc92
    refine lx_q (.int .i64 x87.2) S (want_b rfl rfl hc92) (by decide) (q_move rfl) (fun a S => ?_)
    refine lx_q (.int .i64 x69.2) S (want_b rfl rfl hc92) (by decide) (q_move rfl) (fun a S => ?_)
    refine lx_q (.bool (x87.2 != x69.2)) S (want_b rfl rfl hc92) (by decide) (q_neq rfl rfl) (fun a S => ?_)
    refine lq (.bool (x87.2 != x69.2)) S (q_pickF' rfl hc92 rfl) fun a S => ?_
    refine lx_nil ?_
    obtain rfl := Option.some.inj hm
    have H := H.sel [0, 1, 2, 5] (by decide)
    exact ⟨S.sub ⟨rfl, rfl, rfl, trivial⟩, H⟩
  ·rintro a w ⟨S, H⟩
   refine lx_nil (thenN ?_)
   refine cond_b S rfl (fun hc93 => ?_) (fun hc93 => ?_)
   ·have hm := ite_t hc93 hm
    refine wp_seq (region_plain ?_)
    refine lq (.bool false) S (q_assign rfl) fun a S => ?_
    refine lx_nil (thenN ?_)
    refine wp_ret (then_ret ?_)
    obtain rfl := Option.some.inj hm
    have H : Heap w0 [] w := H.sel [] (by decide)
    exact leave1 S rfl rfl ⟨rfl, H⟩
   ·have hm := ite_f hc93 hm
    refine wp_skip (thenN ?_)
    refine wp_seq ?_
    refine wp_seq ?_
    refine region_drawG (fun w1 => Heap w0 [bA b81 [(.int .i64 x74.1), (.int .i64 x74.2.1), v76, v77] 31, bA b49 [(.int .i64 a0.1), (.int .i64 a0.2.1), v33, v35] 25] w1) (fun i => [2, 3].contains i) mixed (by kernel_rfl) (fun w95 he94 => ?_)
    have H := H.later he94
    refine ⟨H.sel [0, 3] (by decide), ?_⟩
    refine lq (.agg #[(.int .i64 x74.1), (.int .i64 x74.2.1), v76, v77]) S (q_loadA (cs := [(.int .i64 x74.1), (.int .i64 x74.2.1), v76, v77]) rfl (isP_bp _) Tryz.isAgg31 Tryz.sizeOf31 (fun w1 hC => (fun j u hu => boxAt (i := 0) hC rfl hu))) fun a S => ?_
    refine lq (.agg #[(.int .i64 a0.1), (.int .i64 a0.2.1), v33, v35]) S (q_loadA (cs := [(.int .i64 a0.1), (.int .i64 a0.2.1), v33, v35]) rfl (isP_bp _) Tryz.isAgg25 Tryz.sizeOf25 (fun w1 hC => (fun j u hu => boxAt (i := 1) hC rfl hu))) fun a S => ?_
    obtain ⟨x98, e99, hm⟩ := bind_some hm
    refine lx_call (xs := [.tmp 44]) S trivial (by decide) rfl rfl Tryz.call8 ((laws_toLts_ok ⟨[(.int .i64 a0.1), (.int .i64 a0.2.1), v33, v35], rfl, ⟨[(.int .i64 a0.1)], [(.int .i64 a0.2.1), v33, v35], rfl, rfl, ⟨[(.int .i64 a0.2.1)], [v33, v35], rfl, rfl, ⟨[v33], [v35], rfl, ((H.arg h34)).list_rd, ((H.arg h36)).list_rd⟩⟩⟩⟩ e99).mono ?_)
    rintro e w96 ⟨v100, v101, rfl, Hc97⟩
    have H := H.call2 Hc97
    refine ⟨_, rfl, H.sel [2, 5] (by decide), fun a S => ?_⟩
    obtain ⟨x107, e108, hm⟩ := bind_some hm
    refine lx_call (xs := [.tmp 43, .tmp 45]) S trivial (by decide) rfl rfl Tryz.call10 ((laws_eqLts_ok ⟨[(.int .i64 x74.1), (.int .i64 x74.2.1), v76, v77], rfl, ⟨[(.int .i64 x74.1)], [(.int .i64 x74.2.1), v76, v77], rfl, rfl, ⟨[(.int .i64 x74.2.1)], [v76, v77], rfl, rfl, ⟨[v76], [v77], rfl, ((H.rdAt 3 rfl)).list_rd, ((H.rdAt 4 rfl)).list_rd⟩⟩⟩⟩ ⟨[(.int .i64 x98.1), (.int .i64 x98.2.1), v100, v101], rfl, ⟨[(.int .i64 x98.1)], [(.int .i64 x98.2.1), v100, v101], rfl, rfl, ⟨[(.int .i64 x98.2.1)], [v100, v101], rfl, rfl, ⟨[v100], [v101], rfl, ((H.rdAt 0 rfl)).list_rd, ((H.rdAt 1 rfl)).list_rd⟩⟩⟩⟩ e108).mono ?_)
    rintro e w105 ⟨rfl, Hc106⟩
    have H := H.call0 Hc106
    refine ⟨_, rfl, H.sel [2, 5] (by decide), fun a S => ?_⟩
    refine lq (.bool (!x107)) S (q_not rfl) fun a S => ?_
    refine lx_nil (thenN ?_)
    refine cond_b S rfl (fun hc110 => ?_) (fun hc110 => ?_)
    ·have hm := ite_t hc110 hm
     refine wp_seq (region_plain ?_)
     refine lq (.bool false) S (q_assign rfl) fun a S => ?_
     refine lx_nil (thenN ?_)
     refine wp_ret (then_ret ?_)
     obtain rfl := Option.some.inj hm
     have H : Heap w0 [] w105 := H.sel [] (by decide)
     exact leave1 S rfl rfl ⟨rfl, H⟩
    ·have hm := ite_f hc110 hm
     refine wp_skip (thenN ?_)
     refine wp_seq (region_plain ?_)
     refine lq (.bool true) S (q_assign rfl) fun a S => ?_
     refine lx_nil (thenN ?_)
     refine wp_ret ?_
     obtain rfl := Option.some.inj hm
     have H : Heap w0 [] w105 := H.sel [] (by decide)
     exact leave1 S rfl rfl ⟨rfl, H⟩
end Go.Proofs.YtldmecdkdoipdaaGreatDoor
