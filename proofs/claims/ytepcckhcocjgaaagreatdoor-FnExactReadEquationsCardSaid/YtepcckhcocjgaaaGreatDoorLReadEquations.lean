/- The model of a statement and its walk (printed by a program of this repo). -/
import Derived.Test.YtepcckhcocjgaaaGreatDoorF0
import Derived.Test.YtepcckhcocjgaaaGreatDoorF1
import Derived.Test.YtepcckhcocjgaaaGreatDoorF2
import Derived.Test.YtepcckhcocjgaaaGreatDoorFS
import Derived.Test.YtepcckhcocjgaaaGreatDoorGxT
import Derived.Test.YtepcckhcocjgaaaGreatDoorGxY
namespace Go.Proofs.YtepcckhcocjgaaaGreatDoor
open Go.RowKit Go.Gx

/-- spec.ReadList -/
def spec_ReadList_m (fuel : Nat) (a0 : Str) : Option (((List Int) × Bool)) :=
  (if (a0 == ([45] : Str)) = true then some ((([] : List Int), true)) else (spec_l01Split_m fuel a0 (44 : Int)).bind fun x37 => (if (decide ((64 : Int) < (x37.length : Int))) = true then some (([], false)) else (iter (fun (s : (List Int) × (Int)) => (match s with | (xs80, x82) => (if (decide (x82 < (x37.length : Int))) = true then (idx x37 x82).bind fun x127 => (spec_l01Number_m fuel x127).bind fun x134 => (if (!x134.2) = true then some true else (spec_l00In_m fuel x134.1 (-1000000000000 : Int) (1000000000000 : Int)).bind fun x142 => some (!x142)).bind fun t137 => (if t137 = true then some (.inr (.inr ([], false))) else (app xs80 [x134.1]).bind fun x150 => some (.inl (x150, (W (x82 + (1 : Int)))))) else some (.inr (.inl (xs80)))) : Option (((List Int) × (Int)) ⊕ (((List Int)) ⊕ (((List Int) × Bool)))))) fuel (([] : List Int), (0 : Int))).bind fun res118 => ctl (β := (List Int)) (ρ := ((List Int) × Bool)) (τ := ((List Int) × Bool)) res118 (fun (xs116) => some ((xs116, true))) (fun q => some (q))))
set_option maxRecDepth 20000 in
theorem spec_ReadList_ok {w0 : World} {fuel : Nat} {a0 : Str} {r : ((List Int) × Bool)} (hm : spec_ReadList_m fuel a0 = some r) :
  Calls Tryz.prog 21 #[sv a0] w0 fun e w => ∃ (v0 : Value), e = .returned (.tuple #[v0, .bool r.2]) ∧ Heap w0 [oA (rList (rInt .i64)) v0 r.1] w := by
 unfold spec_ReadList_m at hm
 have H := Heap.start w0
 refine enter (args := [sv a0]) Tryz.func21 rfl 44 rfl (Nat.le_of_ble_eq_true rfl) (fun a S => ?_)
 refine wp_seq (region_plain ?_)
 refine lq (.slice none 0 0) S (q_assign rfl) fun a S => ?_
 refine lq (.bool false) S (q_assign rfl) fun a S => ?_
 refine lx_nil (thenN ?_)
 refine wp_seq (wp_seq (region_plain ?_))
 refine lq (sv a0) S (q_move rfl) fun a S => ?_
 refine lq (.bool (a0 == ([45] : Str))) S (q_seql rfl rfl) fun a S => ?_
 refine lx_nil (thenN ?_)
 refine cond_b S rfl (fun hc31 => ?_) (fun hc31 => ?_)
 ·have hm := ite_t hc31 hm
  refine wp_seq (region_plain ?_)
  refine lx_buildSlice0 (r := (rInt .i64)) S trivial (by decide) rfl H Tryz.underlying44 Tryz.sizeOf2 (fun v32 w33 H => ⟨trivial, fun a S => ?_⟩)
  refine lq v32 S (q_assign rfl) fun a S => ?_
  refine lq (.bool true) S (q_assign rfl) fun a S => ?_
  refine lx_nil (thenN ?_)
  refine wp_ret (then_ret ?_)
  obtain rfl := Option.some.inj hm
  exact leave2 S rfl rfl rfl ⟨v32, rfl, H⟩
 ·have hm := ite_f hc31 hm
  refine wp_skip (thenN ?_)
  refine wp_seq (region_plain ?_)
  refine lq (sv a0) S (q_move rfl) fun a S => ?_
  obtain ⟨x37, e38, hm⟩ := bind_some hm
  refine lx_call (xs := [.tmp 12, .const (.int .u8 (44))]) S trivial (by decide) rfl rfl Tryz.call20 ((spec_l01Split_ok   e38).mono ?_)
  rintro e w35 ⟨v39, rfl, Hc36⟩
  have H := H.call1 Hc36
  refine ⟨_, rfl, trivial, fun a S => ?_⟩
  refine lq v39 S (q_assign rfl) fun a S => ?_
  refine lx_nil (thenN ?_)
  refine wp_seq (wp_seq (region_plain ?_))
  refine lq v39 S (q_move rfl) fun a S => ?_
  refine lq (.int .i64 (x37.length : Int)) S (q_lenSl rfl (H.isSl 0 rfl) rfl Tryz.underlying28) fun a S => ?_
  refine lq (.bool (decide ((64 : Int) < (x37.length : Int)))) S (q_gtr rfl rfl) fun a S => ?_
  refine lx_nil (thenN ?_)
  refine cond_b S rfl (fun hc42 => ?_) (fun hc42 => ?_)
  ·have hm := ite_t hc42 hm
   refine wp_seq (region_plain ?_)
   refine lq (.slice none 0 0) S (q_assign rfl) fun a S => ?_
   refine lq (.bool false) S (q_assign rfl) fun a S => ?_
   refine lx_nil (thenN ?_)
   refine wp_ret (then_ret ?_)
   obtain rfl := Option.some.inj hm
   have H : Heap w0 [oA (rList (rInt .i64)) (.slice none 0 0) ([] : List Int), oA (rList rStr) v39 x37] w35 := H.nilList (rInt .i64)
   have H : Heap w0 [oA (rList (rInt .i64)) (.slice none 0 0) ([] : List Int)] w35 := H.sel [0] (by decide)
   exact leave2 S rfl rfl rfl ⟨(.slice none 0 0), rfl, H⟩
  ·have hm := ite_f hc42 hm
   refine wp_skip (thenN ?_)
   refine wp_seq (region_plain ?_)
   refine lx_buildSlice0 (r := (rInt .i64)) S trivial (by decide) rfl H Tryz.underlying44 Tryz.sizeOf2 (fun v44 w45 H => ⟨trivial, fun a S => ?_⟩)
   refine lq v44 S (q_assign rfl) fun a S => ?_
   refine lx_nil (thenN ?_)
   refine wp_seq (wp_seq (region_plain ?_))
   refine lq (.int .i64 (0 : Int)) S (q_assign rfl) fun a S => ?_
   refine lx_nil (thenN ?_)
   obtain ⟨res118, hit119, hk122⟩ := bind_some hm
   obtain ⟨f120, hf121, hit119⟩ := iter_name hit119
   refine block_loop (fun a w => ∃ (xs116 : List Int) (v115 : Value), Slots a 44 [(5, v115)] ∧ Heap w0 [oA (rList (rInt .i64)) v115 xs116] w ∧ res118 = .inl (xs116)) ?_ ?_
   ·rintro a w ⟨xs116, v115, S, H, rfl⟩
    have hm := ctl_inl hk122
    refine thenN ?_
    refine wp_seq (region_plain ?_)
    refine lq v115 S (q_move rfl) fun a S => ?_
    refine lq v115 S (q_assign rfl) fun a S => ?_
    refine lq (.bool true) S (q_assign rfl) fun a S => ?_
    refine lx_nil (thenN ?_)
    refine wp_ret ?_
    obtain rfl := Option.some.inj hm
    exact leave2 S rfl rfl rfl ⟨v115, rfl, H⟩
   ·skip
    have H : Heap w0 [oA (rList rStr) v39 x37, oA (rList (rInt .i64)) v44 ([] : List Int)] w45 := H.front 1 rfl
    refine loop_ghost (fun n a w => ∃ (xs80 : List Int) (x82 : Int) (v79 : Value), Slots a 44 [(4, v39), (5, v79), (6, (.int .i64 x82))] ∧ Heap w0 [oA (rList rStr) v39 x37, oA (rList (rInt .i64)) v79 xs80] w ∧ iter f120 n (xs80, x82) = some res118) _ ⟨([] : List Int), (0 : Int), v44, S.sub ⟨rfl, rfl, rfl, trivial⟩, H, hit119⟩ ?_
    rintro n a w ⟨xs80, x82, v79, S, H, hit119⟩
    obtain ⟨m123, o124, rfl, hm, hc125⟩ := iter_step hit119
    rw [hf121] at hm
    refine wp_seq (wp_seq (region_plain ?_))
    refine lq (.int .i64 x82) S (q_move rfl) fun a S => ?_
    refine lq v39 S (q_move rfl) fun a S => ?_
    refine lq (.int .i64 (x37.length : Int)) S (q_lenSl rfl (H.isSl 0 rfl) rfl Tryz.underlying28) fun a S => ?_
    refine lq (.bool (decide (x82 < (x37.length : Int)))) S (q_lss rfl rfl) fun a S => ?_
    refine lx_nil (thenN ?_)
    refine cond_b S rfl (fun hc126 => ?_) (fun hc126 => ?_)
    ·have hm := ite_t hc126 hm
     refine wp_skip (thenN ?_)
     refine wp_seq ?_
     refine wp_block ?_
     refine wp_seq (region_plain ?_)
     refine lq v39 S (q_move rfl) fun a S => ?_
     refine lq (.int .i64 x82) S (q_move rfl) fun a S => ?_
     obtain ⟨x127, e128, hm⟩ := bind_some hm
     have hlt := lt_of_idx (idx_some e128).2
     refine lq (ePtr v39 (x82.toNat * 1)) S (q_indexAddr rfl (H.isSl 0 rfl) rfl (idx_some e128).1 hlt Tryz.underlying28 Tryz.sizeOf9) fun a S => ?_
     obtain ⟨c129, h130, hat131⟩ := (H.rdAt 0 rfl).elem (idx_some e128).2
     obtain rfl := h130
     refine lx_e (sv x127) S trivial (by decide) rfl trivial (q_load1 rfl Tryz.isAgg9 (by rintro _ rfl; exact (hat131 0 _ rfl))) (fun a S => ?_)
     obtain ⟨x134, e135, hm⟩ := bind_some hm
     refine lx_call (xs := [.tmp 28]) S trivial (by decide) rfl rfl Tryz.call51 ((spec_l01Number_ok  e135).mono ?_)
     rintro e w132 ⟨rfl, Hc133⟩
     have H := H.call0 Hc133
     refine ⟨_, rfl, trivial, fun a S => ?_⟩
     refine lq (.tuple #[(.int .i64 x134.1), (.bool x134.2)]) S (q_move rfl) fun a S => ?_
     refine lq (.int .i64 x134.1) S (q_extract rfl rfl) fun a S => ?_
     refine lq (.bool x134.2) S (q_extract rfl rfl) fun a S => ?_
     refine lq (.int .i64 x134.1) S (q_assign rfl) fun a S => ?_
     refine lq (.bool x134.2) S (q_assign rfl) fun a S => ?_
     refine lx_nil (thenN ?_)
     refine wp_seq (wp_seq (region_plain ?_))
     refine lq (.bool x134.2) S (q_move rfl) fun a S => ?_
     refine lq (.bool (!x134.2)) S (q_not rfl) fun a S => ?_
     refine lq (.bool (!x134.2)) S (q_move rfl) fun a S => ?_
     obtain ⟨t137, e138, hm⟩ := bind_some hm
     refine lx_cut 4 (fun a w => Slots a 44 [(4, v39), (5, v79), (6, (.int .i64 x82)), (7, (.int .i64 x134.1)), (38, (.bool t137))] ∧ Heap w0 [oA (rList rStr) v39 x37, oA (rList (rInt .i64)) v79 xs80] w) ?_ ?_
     ·by_cases hc139 : (!x134.2) = true
      ·have hm := ite_t hc139 e138
       refine lx_skip S rfl rfl (isB_ne hc139) (by decide) (fun a S => ?_)
       refine lx_skip S rfl rfl (isB_ne hc139) (by decide) (fun a S => ?_)
       refine lx_skip S rfl rfl (isB_ne hc139) (by decide) (fun a S => ?_)
       refine lq (.bool true) S (q_pickT' rfl hc139 rfl) fun a S => ?_
       refine lx_nil ?_
       obtain rfl := Option.some.inj hm
       exact ⟨S.sub ⟨rfl, rfl, rfl, rfl, rfl, trivial⟩, H⟩
      ·have hm := ite_f (eq_false_of_ne_true hc139) e138
       have hc139 : (!x134.2) = false := eq_false_of_ne_true hc139
       refine lx_q (.int .i64 x134.1) S (want_b rfl rfl hc139) (by decide) (q_move rfl) (fun a S => ?_)
       obtain ⟨x142, e143, hm⟩ := bind_some hm
       refine lx_call (xs := [.tmp 35, .const (.int .i64 (-1000000000000)), .const (.int .i64 (1000000000000))]) S (want_b rfl rfl hc139) (by decide) rfl rfl Tryz.call52 ((spec_l00In_ok    e143).mono ?_)
       rintro e w140 ⟨rfl, Hc141⟩
       have H := H.call0 Hc141
       refine ⟨_, rfl, trivial, fun a S => ?_⟩
       refine lx_q (.bool (!x142)) S (want_b rfl rfl hc139) (by decide) (q_not rfl) (fun a S => ?_)
       refine lq (.bool (!x142)) S (q_pickF' rfl hc139 rfl) fun a S => ?_
       refine lx_nil ?_
       obtain rfl := Option.some.inj hm
       exact ⟨S.sub ⟨rfl, rfl, rfl, rfl, rfl, trivial⟩, H⟩
     ·rintro a w ⟨S, H⟩
      refine lx_nil (thenN ?_)
      refine cond_b S rfl (fun hc145 => ?_) (fun hc145 => ?_)
      ·have hm := ite_t hc145 hm
       refine wp_seq (region_plain ?_)
       refine lq (.slice none 0 0) S (q_assign rfl) fun a S => ?_
       refine lq (.bool false) S (q_assign rfl) fun a S => ?_
       refine lx_nil (thenN ?_)
       refine wp_ret (then_ret ?_)
       refine inBlock_ret ?_
       refine then_ret ?_
       refine then_ret ?_
       refine inBlock_ret ?_
       refine then_ret ?_
       refine then_ret ?_
       obtain rfl := it_brk hm hc125
       have hm := ctl_inr hk122
       obtain rfl := Option.some.inj hm
       have H : Heap w0 [oA (rList (rInt .i64)) (.slice none 0 0) ([] : List Int), oA (rList rStr) v39 x37, oA (rList (rInt .i64)) v79 xs80] w := H.nilList (rInt .i64)
       have H : Heap w0 [oA (rList (rInt .i64)) (.slice none 0 0) ([] : List Int)] w := H.sel [0] (by decide)
       exact leave2 S rfl rfl rfl ⟨(.slice none 0 0), rfl, H⟩
      ·have hm := ite_f hc145 hm
       refine wp_skip (thenN ?_)
       refine region_plain ?_
       refine lq v79 S (q_move rfl) fun a S => ?_
       refine lq (.int .i64 x134.1) S (q_move rfl) fun a S => ?_
       refine lx_buildSlice (r := (rInt .i64)) (xs := [x134.1]) (ps := [(0, [(.int .i64 x134.1)])]) (cs := [(.int .i64 x134.1)]) (parts := [(0, .tmp 40)]) S trivial (by decide) rfl (H.put0 (A := eA) rfl) rfl Tryz.underlying44 Tryz.sizeOf2 Tryz.zeroValue2 (by decide) ⟨rfl, rfl, Nat.le_of_ble_eq_true rfl, trivial⟩ (by intro zs hz; exact fill_dense hz ⟨rfl, trivial⟩ rfl rfl) rfl (by decide) (fun w F hA => by cases (show F = [] from hA); exact ⟨_, _, [(.int .i64 x134.1)], _, rfl, rfl, ⟨rfl, rfl⟩, ⟨rfl, rfl⟩⟩) (fun v147 w148 H => ⟨trivial, fun a S => ?_⟩)
       obtain ⟨x150, e151, hm⟩ := bind_some hm
       obtain ⟨hle, hap⟩ := app_some e151
       replace hap := hap.symm
       subst hap
       have H : Heap w0 [oA (rList (rInt .i64)) v147 [x134.1], oA (rList rStr) v39 x37, oA (rList (rInt .i64)) v79 xs80] w148 := H.front 0 rfl
       have H : Heap w0 [oA (rList (rInt .i64)) v79 xs80, oA (rList (rInt .i64)) v147 [x134.1], oA (rList rStr) v39 x37] w148 := H.front 2 rfl
       refine lx_appendOwn (r := (rInt .i64)) S trivial (by decide) rfl H rfl rfl Tryz.underlying44 Tryz.ti2 rfl rfl rfl (Nat.le_of_ble_eq_true rfl) (by decide) hle (fun v152 w153 H => ⟨trivial, fun a S => ?_⟩)
       refine lq v152 S (q_assign rfl) fun a S => ?_
       refine lx_nil ?_
       refine inBlock_norm ?_
       refine thenN ?_
       refine region_plain ?_
       refine lq (.int .i64 x82) S (q_move rfl) fun a S => ?_
       refine lq (.int .i64 (W (x82 + (1 : Int)))) S (q_add rfl rfl) fun a S => ?_
       refine lq (.int .i64 (W (x82 + (1 : Int)))) S (q_assign rfl) fun a S => ?_
       refine lx_nil ?_
       have H : Heap w0 [oA (rList rStr) v39 x37, oA (rList (rInt .i64)) v152 (xs80 ++ [x134.1])] w153 := H.front 1 rfl
       exact ⟨m123, Nat.lt_succ_self _, (xs80 ++ [x134.1]), (W (x82 + (1 : Int))), v152, S.sub ⟨rfl, rfl, rfl, trivial⟩, H, it_cont hm hc125⟩
    ·have hm := ite_f hc126 hm
     refine wp_exit ?_
     refine then_exit ?_
     refine then_exit ?_
     refine inBlock_exit ?_
     obtain rfl := it_brk hm hc125
     have H : Heap w0 [oA (rList (rInt .i64)) v79 xs80] w := H.sel [1] (by decide)
     exact ⟨xs80, v79, S.sub ⟨rfl, trivial⟩, H, rfl⟩

/-- spec.l22Count -/
def spec_l22Count_m (fuel : Nat) (a0 : (List Timpl_Equation)) : Option (Int) :=
  (iter (fun (s : (Int) × (Int)) => (match s with | (x70, x71) => (if (decide (x71 < (a0.length : Int))) = true then join (κ := Int → Option (((Int) × (Int)) ⊕ ((Int) ⊕ (Int)))) (fun (x121 : Int) => some (.inl (x121, (W (x71 + (1 : Int)))))) (fun K122 => (idx a0 x71).bind fun x126 => (idx a0 (W (x71 - (1 : Int)))).bind fun x141 => (if (x126.1 != x141.1) = true then (K122 (W (x70 + (1 : Int)))) else (K122 x70))) else some (.inr (.inl (x70)))) : Option (((Int) × (Int)) ⊕ ((Int) ⊕ (Int))))) fuel ((1 : Int), (1 : Int))).bind fun res112 => ctl (β := Int) (ρ := Int) (τ := Int) res112 (fun (x111) => some (x111)) (fun q => some (q))
set_option maxRecDepth 20000 in
theorem spec_l22Count_ok {w0 : World} {fuel : Nat} {p0 : Value} {a0 : (List Timpl_Equation)} {r : Int} (h0 : Rd (rList Rimpl_Equation) w0 p0 a0) (hm : spec_l22Count_m fuel a0 = some r) :
  Calls Tryz.prog 53 #[p0] w0 fun e w => e = .returned (.int .i64 r) ∧ Heap w0 [] w := by
 unfold spec_l22Count_m at hm
 have H := Heap.start w0
 refine enter (args := [p0]) Tryz.func53 rfl 26 rfl (Nat.le_of_ble_eq_true rfl) (fun a S => ?_)
 refine wp_seq (region_plain ?_)
 refine lq (.int .i64 (0 : Int)) S (q_assign rfl) fun a S => ?_
 refine lx_nil (thenN ?_)
 refine wp_seq (region_plain ?_)
 refine lq (.int .i64 (1 : Int)) S (q_assign rfl) fun a S => ?_
 refine lx_nil (thenN ?_)
 refine wp_seq (wp_seq (region_plain ?_))
 refine lq (.int .i64 (1 : Int)) S (q_assign rfl) fun a S => ?_
 refine lx_nil (thenN ?_)
 obtain ⟨res112, hit113, hk116⟩ := bind_some hm
 obtain ⟨f114, hf115, hit113⟩ := iter_name hit113
 refine block_loop (fun a w => ∃ (x111 : Int), Slots a 26 [(3, (.int .i64 x111))] ∧ Heap w0 [] w ∧ res112 = .inl (x111)) ?_ ?_
 ·rintro a w ⟨x111, S, H, rfl⟩
  have hm := ctl_inl hk116
  refine thenN ?_
  refine wp_seq (region_plain ?_)
  refine lq (.int .i64 x111) S (q_move rfl) fun a S => ?_
  refine lq (.int .i64 x111) S (q_assign rfl) fun a S => ?_
  refine lx_nil (thenN ?_)
  refine wp_ret ?_
  obtain rfl := Option.some.inj hm
  exact leave1 S rfl rfl ⟨rfl, H⟩
 ·skip
  refine loop_ghost (fun n a w => ∃ (x70 : Int) (x71 : Int), Slots a 26 [(0, p0), (3, (.int .i64 x70)), (4, (.int .i64 x71))] ∧ Heap w0 [] w ∧ iter f114 n (x70, x71) = some res112) _ ⟨(1 : Int), (1 : Int), S.sub ⟨rfl, rfl, rfl, trivial⟩, H, hit113⟩ ?_
  rintro n a w ⟨x70, x71, S, H, hit113⟩
  obtain ⟨m117, o118, rfl, hm, hc119⟩ := iter_step hit113
  rw [hf115] at hm
  refine wp_seq (wp_seq (region_plain ?_))
  refine lq (.int .i64 x71) S (q_move rfl) fun a S => ?_
  refine lq p0 S (q_move rfl) fun a S => ?_
  refine lq (.int .i64 (a0.length : Int)) S (q_lenSl rfl (h0).isSl rfl Tryz.underlying22) fun a S => ?_
  refine lq (.bool (decide (x71 < (a0.length : Int)))) S (q_lss rfl rfl) fun a S => ?_
  refine lx_nil (thenN ?_)
  refine cond_b S rfl (fun hc120 => ?_) (fun hc120 => ?_)
  ·have hm := ite_t hc120 hm
   refine wp_skip (thenN ?_)
   obtain ⟨K122, hK123, hm⟩ := join_elim hm
   refine seq_cut (fun a w => ∃ (x121 : Int), Slots a 26 [(0, p0), (3, (.int .i64 x121)), (4, (.int .i64 x71))] ∧ Heap w0 [] w ∧ K122 x121 = some o118) ?_ ?_
   ·rintro a w ⟨x121, S, H, hm⟩
    subst hK123
    refine region_plain ?_
    refine lq (.int .i64 x71) S (q_move rfl) fun a S => ?_
    refine lq (.int .i64 (W (x71 + (1 : Int)))) S (q_add rfl rfl) fun a S => ?_
    refine lq (.int .i64 (W (x71 + (1 : Int)))) S (q_assign rfl) fun a S => ?_
    refine lx_nil ?_
    exact ⟨m117, Nat.lt_succ_self _, x121, (W (x71 + (1 : Int))), S.sub ⟨rfl, rfl, rfl, trivial⟩, H, it_cont hm hc119⟩
   ·skip
    refine wp_block ?_
    refine wp_seq ?_
    refine region_drawG (fun w1 => Heap w0 [] w1) (fun i => [].contains i) mixed (by kernel_rfl) (fun w125 he124 => ?_)
    have H := H.later he124
    refine ⟨H.sel [] (by decide), ?_⟩
    refine lq p0 S (q_move rfl) fun a S => ?_
    refine lq (.int .i64 x71) S (q_move rfl) fun a S => ?_
    obtain ⟨x126, e127, hm⟩ := bind_some hm
    obtain ⟨c128, h129, hat130⟩ := (h0).elem (idx_some e127).2
    obtain ⟨c133, c134, rfl, h135, h136⟩ := h129
    obtain rfl := h135
    obtain ⟨c137, c138, rfl, h139, h140⟩ := h136
    obtain rfl := h139
    obtain ⟨v131, rfl, h132⟩ := rd_list h140
    have hlt := lt_of_idx (idx_some e127).2
    refine lq (ePtr p0 (x71.toNat * 3)) S (q_indexAddr rfl (h0).isSl rfl (idx_some e127).1 hlt Tryz.underlying22 Tryz.sizeOf48) fun a S => ?_
    refine lq (pAdd (ePtr p0 (x71.toNat * 3)) 0) S (q_fieldAddr' 0 4 rfl ((hat130 0 _ rfl).isP) Tryz.underlying48 rfl Tryz.sizeOf4) fun a S => ?_
    refine lq (.bool x126.1) S (q_load1 rfl Tryz.isAgg4 (fun w1 hC => (At.of_add (m := 0) (j := 0) ((hat130 0 _ rfl).ext hC.ext)))) fun a S => ?_
    refine lq p0 S (q_move rfl) fun a S => ?_
    refine lq (.int .i64 x71) S (q_move rfl) fun a S => ?_
    refine lq (.int .i64 (W (x71 - (1 : Int)))) S (q_sub rfl rfl) fun a S => ?_
    obtain ⟨x141, e142, hm⟩ := bind_some hm
    obtain ⟨c143, h144, hat145⟩ := (h0).elem (idx_some e142).2
    obtain ⟨c148, c149, rfl, h150, h151⟩ := h144
    obtain rfl := h150
    obtain ⟨c152, c153, rfl, h154, h155⟩ := h151
    obtain rfl := h154
    obtain ⟨v146, rfl, h147⟩ := rd_list h155
    have hlt := lt_of_idx (idx_some e142).2
    refine lq (ePtr p0 ((W (x71 - (1 : Int))).toNat * 3)) S (q_indexAddr rfl (h0).isSl rfl (idx_some e142).1 hlt Tryz.underlying22 Tryz.sizeOf48) fun a S => ?_
    refine lq (pAdd (ePtr p0 ((W (x71 - (1 : Int))).toNat * 3)) 0) S (q_fieldAddr' 0 4 rfl ((hat145 0 _ rfl).isP) Tryz.underlying48 rfl Tryz.sizeOf4) fun a S => ?_
    refine lq (.bool x141.1) S (q_load1 rfl Tryz.isAgg4 (fun w1 hC => (At.of_add (m := 0) (j := 0) ((hat145 0 _ rfl).ext hC.ext)))) fun a S => ?_
    refine lq (.bool (x126.1 != x141.1)) S (q_bneq rfl rfl Tryz.underlying4) fun a S => ?_
    refine lx_nil (thenN ?_)
    refine cond_b S rfl (fun hc156 => ?_) (fun hc156 => ?_)
    ·have hm := ite_t hc156 hm
     refine region_plain ?_
     refine lq (.int .i64 x70) S (q_move rfl) fun a S => ?_
     refine lq (.int .i64 (W (x70 + (1 : Int)))) S (q_add rfl rfl) fun a S => ?_
     refine lq (.int .i64 (W (x70 + (1 : Int)))) S (q_assign rfl) fun a S => ?_
     refine lx_nil ?_
     refine inBlock_norm ?_
     exact ⟨(W (x70 + (1 : Int))), S.sub ⟨rfl, rfl, rfl, trivial⟩, H, hm⟩
    ·have hm := ite_f hc156 hm
     refine wp_skip ?_
     refine inBlock_norm ?_
     exact ⟨x70, S.sub ⟨rfl, rfl, rfl, trivial⟩, H, hm⟩
  ·have hm := ite_f hc120 hm
   refine wp_exit ?_
   refine then_exit ?_
   refine then_exit ?_
   refine inBlock_exit ?_
   obtain rfl := it_brk hm hc119
   exact ⟨x70, S.sub ⟨rfl, trivial⟩, H, rfl⟩

/-- spec.l00Rises -/
def spec_l00Rises_m (fuel : Nat) (a0 : (List Int)) (a1 : Int) (a2 : Int) : Option (Bool) :=
  (iter (fun (s : (Int)) => (match s with | (x62) => (if (decide (x62 < (a0.length : Int))) = true then (idx a0 x62).bind fun x105 => (spec_l00In_m fuel x105 a1 a2).bind fun x112 => (if (!x112) = true then some true else (if (decide ((0 : Int) < x62)) = true then (idx a0 (W (x62 - (1 : Int)))).bind fun x121 => (idx a0 x62).bind fun x126 => some (decide (x126 ≤ x121)) else some false).bind fun t118 => some t118).bind fun t115 => (if t115 = true then some (.inr (.inr false)) else some (.inl ((W (x62 + (1 : Int)))))) else some (.inr (.inl ()))) : Option (((Int)) ⊕ ((Unit) ⊕ (Bool))))) fuel ((0 : Int))).bind fun res94 => ctl (β := Unit) (ρ := Bool) (τ := Bool) res94 (fun _ => some (true)) (fun q => some (q))
set_option maxRecDepth 20000 in
theorem spec_l00Rises_ok {w0 : World} {fuel : Nat} {p0 : Value} {a0 : (List Int)} {a1 : Int} {a2 : Int} {r : Bool} (h0 : Rd (rList (rInt .i64)) w0 p0 a0) (hm : spec_l00Rises_m fuel a0 a1 a2 = some r) :
  Calls Tryz.prog 54 #[p0, .int .i64 a1, .int .i64 a2] w0 fun e w => e = .returned (.bool r) ∧ Heap w0 [] w := by
 unfold spec_l00Rises_m at hm
 have H := Heap.start w0
 refine enter (args := [p0, .int .i64 a1, .int .i64 a2]) Tryz.func54 rfl 38 rfl (Nat.le_of_ble_eq_true rfl) (fun a S => ?_)
 refine wp_seq (region_plain ?_)
 refine lq (.bool false) S (q_assign rfl) fun a S => ?_
 refine lx_nil (thenN ?_)
 refine wp_seq (wp_seq (region_plain ?_))
 refine lq (.int .i64 (0 : Int)) S (q_assign rfl) fun a S => ?_
 refine lx_nil (thenN ?_)
 obtain ⟨res94, hit95, hk98⟩ := bind_some hm
 obtain ⟨f96, hf97, hit95⟩ := iter_name hit95
 refine block_loop (fun a w => Slots a 38 [] ∧ Heap w0 [] w ∧ res94 = .inl ()) ?_ ?_
 ·rintro a w ⟨S, H, rfl⟩
  have hm := ctl_inl hk98
  refine thenN ?_
  refine wp_seq (region_plain ?_)
  refine lq (.bool true) S (q_assign rfl) fun a S => ?_
  refine lx_nil (thenN ?_)
  refine wp_ret ?_
  obtain rfl := Option.some.inj hm
  exact leave1 S rfl rfl ⟨rfl, H⟩
 ·skip
  refine loop_ghost (fun n a w => ∃ (x62 : Int), Slots a 38 [(0, p0), (1, (.int .i64 a1)), (2, (.int .i64 a2)), (7, (.int .i64 x62))] ∧ Heap w0 [] w ∧ iter f96 n (x62) = some res94) _ ⟨(0 : Int), S.sub ⟨rfl, rfl, rfl, rfl, trivial⟩, H, hit95⟩ ?_
  rintro n a w ⟨x62, S, H, hit95⟩
  obtain ⟨m99, o100, rfl, hm, hc101⟩ := iter_step hit95
  rw [hf97] at hm
  refine wp_seq (wp_seq (region_plain ?_))
  refine lq (.int .i64 x62) S (q_move rfl) fun a S => ?_
  refine lq p0 S (q_move rfl) fun a S => ?_
  refine lq (.int .i64 (a0.length : Int)) S (q_lenSl rfl (h0).isSl rfl Tryz.underlying44) fun a S => ?_
  refine lq (.bool (decide (x62 < (a0.length : Int)))) S (q_lss rfl rfl) fun a S => ?_
  refine lx_nil (thenN ?_)
  refine cond_b S rfl (fun hc102 => ?_) (fun hc102 => ?_)
  ·have hm := ite_t hc102 hm
   refine wp_skip (thenN ?_)
   refine wp_seq ?_
   refine wp_block ?_
   refine wp_seq ?_
   refine region_drawG (fun w1 => Heap w0 [] w1) (fun i => [6].contains i) mixed (by kernel_rfl) (fun w104 he103 => ?_)
   have H := H.later he103
   refine ⟨H.sel [] (by decide), ?_⟩
   refine lq p0 S (q_move rfl) fun a S => ?_
   refine lq (.int .i64 x62) S (q_move rfl) fun a S => ?_
   obtain ⟨x105, e106, hm⟩ := bind_some hm
   obtain ⟨c107, h108, hat109⟩ := (h0).elem (idx_some e106).2
   obtain rfl := h108
   have hlt := lt_of_idx (idx_some e106).2
   refine lq (ePtr p0 (x62.toNat * 1)) S (q_indexAddr rfl (h0).isSl rfl (idx_some e106).1 hlt Tryz.underlying44 Tryz.sizeOf2) fun a S => ?_
   refine lq (.int .i64 x105) S (q_load1 rfl Tryz.isAgg2 (fun w1 hC => ((hat109 0 _ rfl).ext hC.ext))) fun a S => ?_
   refine lq (.int .i64 a1) S (q_move rfl) fun a S => ?_
   refine lq (.int .i64 a2) S (q_move rfl) fun a S => ?_
   obtain ⟨x112, e113, hm⟩ := bind_some hm
   refine lx_call (xs := [.tmp 17, .tmp 18, .tmp 19]) S trivial (by decide) rfl rfl Tryz.call52 ((spec_l00In_ok    e113).mono ?_)
   rintro e w110 ⟨rfl, Hc111⟩
   have H := H.call0 Hc111
   refine ⟨_, rfl, H.sel [] (by decide), fun a S => ?_⟩
   refine lq (.bool (!x112)) S (q_not rfl) fun a S => ?_
   refine lq (.bool (!x112)) S (q_move rfl) fun a S => ?_
   obtain ⟨t115, e116, hm⟩ := bind_some hm
   refine lx_cut 15 (fun a w => Slots a 38 [(0, p0), (1, (.int .i64 a1)), (2, (.int .i64 a2)), (7, (.int .i64 x62)), (37, (.bool t115))] ∧ Heap w0 [] w) ?_ ?_
   ·by_cases hc117 : (!x112) = true
    ·have hm := ite_t hc117 e116
     refine lx_skip S rfl rfl (isB_ne hc117) (by decide) (fun a S => ?_)
     refine lx_skip S rfl rfl (isB_ne hc117) (by decide) (fun a S => ?_)
     refine lx_skip S rfl rfl (isB_ne hc117) (by decide) (fun a S => ?_)
     refine lx_skip S rfl rfl rfl (by decide) (fun a S => ?_)
     refine lx_skip S rfl rfl rfl (by decide) (fun a S => ?_)
     refine lx_skip S rfl rfl rfl (by decide) (fun a S => ?_)
     refine lx_skip S rfl rfl rfl (by decide) (fun a S => ?_)
     refine lx_skip S rfl rfl rfl (by decide) (fun a S => ?_)
     refine lx_skip S rfl rfl rfl (by decide) (fun a S => ?_)
     refine lx_skip S rfl rfl rfl (by decide) (fun a S => ?_)
     refine lx_skip S rfl rfl rfl (by decide) (fun a S => ?_)
     refine lx_skip S rfl rfl rfl (by decide) (fun a S => ?_)
     refine lx_skip S rfl rfl rfl (by decide) (fun a S => ?_)
     refine lx_skip S rfl rfl (isB_ne hc117) (by decide) (fun a S => ?_)
     refine lq (.bool true) S (q_pickT' rfl hc117 rfl) fun a S => ?_
     refine lx_nil ?_
     obtain rfl := Option.some.inj hm
     exact ⟨S.sub ⟨rfl, rfl, rfl, rfl, rfl, trivial⟩, H⟩
    ·have hm := ite_f (eq_false_of_ne_true hc117) e116
     have hc117 : (!x112) = false := eq_false_of_ne_true hc117
     refine lx_q (.int .i64 x62) S (want_b rfl rfl hc117) (by decide) (q_move rfl) (fun a S => ?_)
     refine lx_q (.bool (decide ((0 : Int) < x62))) S (want_b rfl rfl hc117) (by decide) (q_gtr rfl rfl) (fun a S => ?_)
     refine lx_q (.bool (decide ((0 : Int) < x62))) S (want_b rfl rfl hc117) (by decide) (q_move rfl) (fun a S => ?_)
     obtain ⟨t118, e119, hm⟩ := bind_some hm
     refine lx_cut 11 (fun a w => Slots a 38 [(0, p0), (1, (.int .i64 a1)), (2, (.int .i64 a2)), (7, (.int .i64 x62)), (22, (.bool (!x112))), (36, (.bool t118))] ∧ Heap w0 [] w) ?_ ?_
     ·by_cases hc120 : (decide ((0 : Int) < x62)) = true
      ·have hm := ite_t hc120 e119
       refine lx_q p0 S (want_b rfl rfl hc120) (by decide) (q_move rfl) (fun a S => ?_)
       refine lx_q (.int .i64 x62) S (want_b rfl rfl hc120) (by decide) (q_move rfl) (fun a S => ?_)
       refine lx_q (.int .i64 (W (x62 - (1 : Int)))) S (want_b rfl rfl hc120) (by decide) (q_sub rfl rfl) (fun a S => ?_)
       obtain ⟨x121, e122, hm⟩ := bind_some hm
       obtain ⟨c123, h124, hat125⟩ := (h0).elem (idx_some e122).2
       obtain rfl := h124
       have hlt := lt_of_idx (idx_some e122).2
       refine lx_q (ePtr p0 ((W (x62 - (1 : Int))).toNat * 1)) S (want_b rfl rfl hc120) (by decide) (q_indexAddr rfl (h0).isSl rfl (idx_some e122).1 hlt Tryz.underlying44 Tryz.sizeOf2) (fun a S => ?_)
       refine lx_q (.int .i64 x121) S (want_b rfl rfl hc120) (by decide) (q_load1 rfl Tryz.isAgg2 (fun w1 hC => ((hat125 0 _ rfl).ext hC.ext))) (fun a S => ?_)
       refine lx_q p0 S (want_b rfl rfl hc120) (by decide) (q_move rfl) (fun a S => ?_)
       refine lx_q (.int .i64 x62) S (want_b rfl rfl hc120) (by decide) (q_move rfl) (fun a S => ?_)
       obtain ⟨x126, e127, hm⟩ := bind_some hm
       obtain ⟨c128, h129, hat130⟩ := (h0).elem (idx_some e127).2
       obtain rfl := h129
       have hlt := lt_of_idx (idx_some e127).2
       refine lx_q (ePtr p0 (x62.toNat * 1)) S (want_b rfl rfl hc120) (by decide) (q_indexAddr rfl (h0).isSl rfl (idx_some e127).1 hlt Tryz.underlying44 Tryz.sizeOf2) (fun a S => ?_)
       refine lx_q (.int .i64 x126) S (want_b rfl rfl hc120) (by decide) (q_load1 rfl Tryz.isAgg2 (fun w1 hC => ((hat130 0 _ rfl).ext hC.ext))) (fun a S => ?_)
       refine lx_q (.bool (decide (x126 ≤ x121))) S (want_b rfl rfl hc120) (by decide) (q_geq rfl rfl) (fun a S => ?_)
       refine lx_q (.bool (decide (x126 ≤ x121))) S (want_b rfl rfl hc117) (by decide) (q_pickT' rfl hc120 rfl) (fun a S => ?_)
       refine lx_nil ?_
       obtain rfl := Option.some.inj hm
       exact ⟨S.sub ⟨rfl, rfl, rfl, rfl, rfl, rfl, trivial⟩, H⟩
      ·have hm := ite_f (eq_false_of_ne_true hc120) e119
       have hc120 : (decide ((0 : Int) < x62)) = false := eq_false_of_ne_true hc120
       refine lx_skip S rfl rfl (isB_ne hc120) (by decide) (fun a S => ?_)
       refine lx_skip S rfl rfl (isB_ne hc120) (by decide) (fun a S => ?_)
       refine lx_skip S rfl rfl (isB_ne hc120) (by decide) (fun a S => ?_)
       refine lx_skip S rfl rfl (isB_ne hc120) (by decide) (fun a S => ?_)
       refine lx_skip S rfl rfl (isB_ne hc120) (by decide) (fun a S => ?_)
       refine lx_skip S rfl rfl (isB_ne hc120) (by decide) (fun a S => ?_)
       refine lx_skip S rfl rfl (isB_ne hc120) (by decide) (fun a S => ?_)
       refine lx_skip S rfl rfl (isB_ne hc120) (by decide) (fun a S => ?_)
       refine lx_skip S rfl rfl (isB_ne hc120) (by decide) (fun a S => ?_)
       refine lx_skip S rfl rfl (isB_ne hc120) (by decide) (fun a S => ?_)
       refine lx_q (.bool false) S (want_b rfl rfl hc117) (by decide) (q_pickF' rfl hc120 rfl) (fun a S => ?_)
       refine lx_nil ?_
       obtain rfl := Option.some.inj hm
       exact ⟨S.sub ⟨rfl, rfl, rfl, rfl, rfl, rfl, trivial⟩, H⟩
     ·rintro a w ⟨S, H⟩
      refine lq (.bool t118) S (q_pickF' rfl hc117 rfl) fun a S => ?_
      refine lx_nil ?_
      obtain rfl := Option.some.inj hm
      exact ⟨S.sub ⟨rfl, rfl, rfl, rfl, rfl, trivial⟩, H⟩
   ·rintro a w ⟨S, H⟩
    refine lx_nil (thenN ?_)
    refine cond_b S rfl (fun hc131 => ?_) (fun hc131 => ?_)
    ·have hm := ite_t hc131 hm
     refine wp_seq (region_plain ?_)
     refine lq (.bool false) S (q_assign rfl) fun a S => ?_
     refine lx_nil (thenN ?_)
     refine wp_ret (inBlock_ret ?_)
     refine then_ret ?_
     refine then_ret ?_
     refine inBlock_ret ?_
     refine then_ret ?_
     refine then_ret ?_
     obtain rfl := it_brk hm hc101
     have hm := ctl_inr hk98
     obtain rfl := Option.some.inj hm
     exact leave1 S rfl rfl ⟨rfl, H⟩
    ·have hm := ite_f hc131 hm
     refine wp_skip ?_
     refine inBlock_norm ?_
     refine thenN ?_
     refine region_plain ?_
     refine lq (.int .i64 x62) S (q_move rfl) fun a S => ?_
     refine lq (.int .i64 (W (x62 + (1 : Int)))) S (q_add rfl rfl) fun a S => ?_
     refine lq (.int .i64 (W (x62 + (1 : Int)))) S (q_assign rfl) fun a S => ?_
     refine lx_nil ?_
     exact ⟨m99, Nat.lt_succ_self _, (W (x62 + (1 : Int))), S.sub ⟨rfl, rfl, rfl, rfl, trivial⟩, H, it_cont hm hc101⟩
  ·have hm := ite_f hc102 hm
   refine wp_exit ?_
   refine then_exit ?_
   refine then_exit ?_
   refine inBlock_exit ?_
   obtain rfl := it_brk hm hc101
   exact ⟨S.sub trivial, H, rfl⟩

/-- spec.l22Is -/
def spec_l22Is_m (fuel : Nat) (a0 : (List Timpl_Equation)) : Option (Bool) :=
  (if (decide ((a0.length : Int) < (1 : Int))) = true then some true else some (decide ((120 : Int) < (a0.length : Int)))).bind fun t31 => (if t31 = true then some true else (spec_l22Count_m fuel a0).bind fun x39 => some (decide ((9 : Int) < x39))).bind fun t34 => (if t34 = true then some (false) else (iter (fun (s : (Int)) => (match s with | (x66) => (if (decide (x66 < (a0.length : Int))) = true then (idx a0 x66).bind fun x99 => (spec_l00Rises_m fuel x99.2.2 (0 : Int) (W ((a0.length : Int) - (1 : Int)))).bind fun x116 => (if (!x116) = true then some (.inr (.inr false)) else some (.inl ((W (x66 + (1 : Int)))))) else some (.inr (.inl ()))) : Option (((Int)) ⊕ ((Unit) ⊕ (Bool))))) fuel ((0 : Int))).bind fun res90 => ctl (β := Unit) (ρ := Bool) (τ := Bool) res90 (fun _ => some (true)) (fun q => some (q)))
set_option maxRecDepth 20000 in
theorem spec_l22Is_ok {w0 : World} {fuel : Nat} {p0 : Value} {a0 : (List Timpl_Equation)} {r : Bool} (h0 : Rd (rList Rimpl_Equation) w0 p0 a0) (hm : spec_l22Is_m fuel a0 = some r) :
  Calls Tryz.prog 22 #[p0] w0 fun e w => e = .returned (.bool r) ∧ Heap w0 [] w := by
 unfold spec_l22Is_m at hm
 have H := Heap.start w0
 refine enter (args := [p0]) Tryz.func22 rfl 33 rfl (Nat.le_of_ble_eq_true rfl) (fun a S => ?_)
 refine wp_seq (region_plain ?_)
 refine lq (.bool false) S (q_assign rfl) fun a S => ?_
 refine lx_nil (thenN ?_)
 refine wp_seq (wp_seq (region_plain ?_))
 refine lq p0 S (q_move rfl) fun a S => ?_
 refine lq (.int .i64 (a0.length : Int)) S (q_lenSl rfl (h0).isSl rfl Tryz.underlying22) fun a S => ?_
 refine lq (.bool (decide ((a0.length : Int) < (1 : Int)))) S (q_lss rfl rfl) fun a S => ?_
 refine lq (.bool (decide ((a0.length : Int) < (1 : Int)))) S (q_move rfl) fun a S => ?_
 obtain ⟨t31, e32, hm⟩ := bind_some hm
 refine lx_cut 4 (fun a w => Slots a 33 [(0, p0), (11, (.bool t31))] ∧ Heap w0 [] w) ?_ ?_
 ·by_cases hc33 : (decide ((a0.length : Int) < (1 : Int))) = true
  ·have hm := ite_t hc33 e32
   refine lx_skip S rfl rfl (isB_ne hc33) (by decide) (fun a S => ?_)
   refine lx_skip S rfl rfl (isB_ne hc33) (by decide) (fun a S => ?_)
   refine lx_skip S rfl rfl (isB_ne hc33) (by decide) (fun a S => ?_)
   refine lq (.bool true) S (q_pickT' rfl hc33 rfl) fun a S => ?_
   refine lx_nil ?_
   obtain rfl := Option.some.inj hm
   exact ⟨S.sub ⟨rfl, rfl, trivial⟩, H⟩
  ·have hm := ite_f (eq_false_of_ne_true hc33) e32
   have hc33 : (decide ((a0.length : Int) < (1 : Int))) = false := eq_false_of_ne_true hc33
   refine lx_q p0 S (want_b rfl rfl hc33) (by decide) (q_move rfl) (fun a S => ?_)
   refine lx_q (.int .i64 (a0.length : Int)) S (want_b rfl rfl hc33) (by decide) (q_lenSl rfl (h0).isSl rfl Tryz.underlying22) (fun a S => ?_)
   refine lx_q (.bool (decide ((120 : Int) < (a0.length : Int)))) S (want_b rfl rfl hc33) (by decide) (q_gtr rfl rfl) (fun a S => ?_)
   refine lq (.bool (decide ((120 : Int) < (a0.length : Int)))) S (q_pickF' rfl hc33 rfl) fun a S => ?_
   refine lx_nil ?_
   obtain rfl := Option.some.inj hm
   exact ⟨S.sub ⟨rfl, rfl, trivial⟩, H⟩
 ·rintro a w ⟨S, H⟩
  refine lq (.bool t31) S (q_move rfl) fun a S => ?_
  obtain ⟨t34, e35, hm⟩ := bind_some hm
  refine lx_cut 4 (fun a w => Slots a 33 [(0, p0), (16, (.bool t34))] ∧ Heap w0 [] w) ?_ ?_
  ·by_cases hc36 : t31 = true
   ·have hm := ite_t hc36 e35
    refine lx_skip S rfl rfl (isB_ne hc36) (by decide) (fun a S => ?_)
    refine lx_skip S rfl rfl (isB_ne hc36) (by decide) (fun a S => ?_)
    refine lx_skip S rfl rfl (isB_ne hc36) (by decide) (fun a S => ?_)
    refine lq (.bool true) S (q_pickT' rfl hc36 rfl) fun a S => ?_
    refine lx_nil ?_
    obtain rfl := Option.some.inj hm
    exact ⟨S.sub ⟨rfl, rfl, trivial⟩, H⟩
   ·have hm := ite_f (eq_false_of_ne_true hc36) e35
    have hc36 : t31 = false := eq_false_of_ne_true hc36
    refine lx_q p0 S (want_b rfl rfl hc36) (by decide) (q_move rfl) (fun a S => ?_)
    obtain ⟨x39, e40, hm⟩ := bind_some hm
    refine lx_call (xs := [.tmp 13]) S (want_b rfl rfl hc36) (by decide) rfl rfl Tryz.call53 ((spec_l22Count_ok (H.arg h0) e40).mono ?_)
    rintro e w37 ⟨rfl, Hc38⟩
    have H := H.call0 Hc38
    refine ⟨_, rfl, trivial, fun a S => ?_⟩
    refine lx_q (.bool (decide ((9 : Int) < x39))) S (want_b rfl rfl hc36) (by decide) (q_gtr rfl rfl) (fun a S => ?_)
    refine lq (.bool (decide ((9 : Int) < x39))) S (q_pickF' rfl hc36 rfl) fun a S => ?_
    refine lx_nil ?_
    obtain rfl := Option.some.inj hm
    exact ⟨S.sub ⟨rfl, rfl, trivial⟩, H⟩
  ·rintro a w ⟨S, H⟩
   refine lx_nil (thenN ?_)
   refine cond_b S rfl (fun hc42 => ?_) (fun hc42 => ?_)
   ·have hm := ite_t hc42 hm
    refine wp_seq (region_plain ?_)
    refine lq (.bool false) S (q_assign rfl) fun a S => ?_
    refine lx_nil (thenN ?_)
    refine wp_ret (then_ret ?_)
    obtain rfl := Option.some.inj hm
    exact leave1 S rfl rfl ⟨rfl, H⟩
   ·have hm := ite_f hc42 hm
    refine wp_skip (thenN ?_)
    refine wp_seq (wp_seq (region_plain ?_))
    refine lq (.int .i64 (0 : Int)) S (q_assign rfl) fun a S => ?_
    refine lx_nil (thenN ?_)
    obtain ⟨res90, hit91, hk94⟩ := bind_some hm
    obtain ⟨f92, hf93, hit91⟩ := iter_name hit91
    refine block_loop (fun a w => Slots a 33 [] ∧ Heap w0 [] w ∧ res90 = .inl ()) ?_ ?_
    ·rintro a w ⟨S, H, rfl⟩
     have hm := ctl_inl hk94
     refine thenN ?_
     refine wp_seq (region_plain ?_)
     refine lq (.bool true) S (q_assign rfl) fun a S => ?_
     refine lx_nil (thenN ?_)
     refine wp_ret ?_
     obtain rfl := Option.some.inj hm
     exact leave1 S rfl rfl ⟨rfl, H⟩
    ·skip
     refine loop_ghost (fun n a w => ∃ (x66 : Int), Slots a 33 [(0, p0), (3, (.int .i64 x66))] ∧ Heap w0 [] w ∧ iter f92 n (x66) = some res90) _ ⟨(0 : Int), S.sub ⟨rfl, rfl, trivial⟩, H, hit91⟩ ?_
     rintro n a w ⟨x66, S, H, hit91⟩
     obtain ⟨m95, o96, rfl, hm, hc97⟩ := iter_step hit91
     rw [hf93] at hm
     refine wp_seq (wp_seq (region_plain ?_))
     refine lq (.int .i64 x66) S (q_move rfl) fun a S => ?_
     refine lq p0 S (q_move rfl) fun a S => ?_
     refine lq (.int .i64 (a0.length : Int)) S (q_lenSl rfl (h0).isSl rfl Tryz.underlying22) fun a S => ?_
     refine lq (.bool (decide (x66 < (a0.length : Int)))) S (q_lss rfl rfl) fun a S => ?_
     refine lx_nil (thenN ?_)
     refine cond_b S rfl (fun hc98 => ?_) (fun hc98 => ?_)
     ·have hm := ite_t hc98 hm
      refine wp_skip (thenN ?_)
      refine wp_seq ?_
      refine wp_block ?_
      refine wp_seq (region_plain ?_)
      refine lq p0 S (q_move rfl) fun a S => ?_
      refine lq (.int .i64 x66) S (q_move rfl) fun a S => ?_
      obtain ⟨x99, e100, hm⟩ := bind_some hm
      obtain ⟨c101, h102, hat103⟩ := (h0).elem (idx_some e100).2
      obtain ⟨c106, c107, rfl, h108, h109⟩ := h102
      obtain rfl := h108
      obtain ⟨c110, c111, rfl, h112, h113⟩ := h109
      obtain rfl := h112
      obtain ⟨v104, rfl, h105⟩ := rd_list h113
      have hlt := lt_of_idx (idx_some e100).2
      refine lq (ePtr p0 (x66.toNat * 3)) S (q_indexAddr rfl (h0).isSl rfl (idx_some e100).1 hlt Tryz.underlying22 Tryz.sizeOf48) fun a S => ?_
      refine lq (pAdd (ePtr p0 (x66.toNat * 3)) 2) S (q_fieldAddr' 2 44 rfl ((hat103 0 _ rfl).isP) Tryz.underlying48 rfl Tryz.sizeOf44) fun a S => ?_
      refine lx_e v104 S trivial (by decide) rfl trivial (q_load1 rfl Tryz.isAgg44 (by rintro _ rfl; exact (At.of_add (m := 2) (j := 0) ((hat103 2 _ rfl).ext H.ext)))) (fun a S => ?_)
      refine lq p0 S (q_move rfl) fun a S => ?_
      refine lq (.int .i64 (a0.length : Int)) S (q_lenSl rfl (h0).isSl rfl Tryz.underlying22) fun a S => ?_
      refine lq (.int .i64 (W ((a0.length : Int) - (1 : Int)))) S (q_sub rfl rfl) fun a S => ?_
      obtain ⟨x116, e117, hm⟩ := bind_some hm
      refine lx_call (xs := [.tmp 27, .const (.int .i64 (0)), .tmp 30]) S trivial (by decide) rfl rfl Tryz.call54 ((spec_l00Rises_ok (H.arg h105)   e117).mono ?_)
      rintro e w114 ⟨rfl, Hc115⟩
      have H := H.call0 Hc115
      refine ⟨_, rfl, trivial, fun a S => ?_⟩
      refine lq (.bool (!x116)) S (q_not rfl) fun a S => ?_
      refine lx_nil (thenN ?_)
      refine cond_b S rfl (fun hc119 => ?_) (fun hc119 => ?_)
      ·have hm := ite_t hc119 hm
       refine wp_seq (region_plain ?_)
       refine lq (.bool false) S (q_assign rfl) fun a S => ?_
       refine lx_nil (thenN ?_)
       refine wp_ret (inBlock_ret ?_)
       refine then_ret ?_
       refine then_ret ?_
       refine inBlock_ret ?_
       refine then_ret ?_
       refine then_ret ?_
       obtain rfl := it_brk hm hc97
       have hm := ctl_inr hk94
       obtain rfl := Option.some.inj hm
       exact leave1 S rfl rfl ⟨rfl, H⟩
      ·have hm := ite_f hc119 hm
       refine wp_skip ?_
       refine inBlock_norm ?_
       refine thenN ?_
       refine region_plain ?_
       refine lq (.int .i64 x66) S (q_move rfl) fun a S => ?_
       refine lq (.int .i64 (W (x66 + (1 : Int)))) S (q_add rfl rfl) fun a S => ?_
       refine lq (.int .i64 (W (x66 + (1 : Int)))) S (q_assign rfl) fun a S => ?_
       refine lx_nil ?_
       exact ⟨m95, Nat.lt_succ_self _, (W (x66 + (1 : Int))), S.sub ⟨rfl, rfl, trivial⟩, H, it_cont hm hc97⟩
     ·have hm := ite_f hc98 hm
      refine wp_exit ?_
      refine then_exit ?_
      refine then_exit ?_
      refine inBlock_exit ?_
      obtain rfl := it_brk hm hc97
      exact ⟨S.sub trivial, H, rfl⟩

/-- spec.l22Fits -/
def spec_l22Fits_m (fuel : Nat) (a0 : (List Timpl_Equation)) : Option (Bool) :=
  (iter (fun (s : (Int)) => (match s with | (x49) => (if (decide (x49 < (a0.length : Int))) = true then (idx a0 x49).bind fun x77 => (if (decide ((64 : Int) < (x77.2.2.length : Int))) = true then some (.inr (.inr false)) else some (.inl ((W (x49 + (1 : Int)))))) else some (.inr (.inl ()))) : Option (((Int)) ⊕ ((Unit) ⊕ (Bool))))) fuel ((0 : Int))).bind fun res68 => ctl (β := Unit) (ρ := Bool) (τ := Bool) res68 (fun _ => some (true)) (fun q => some (q))
set_option maxRecDepth 20000 in
theorem spec_l22Fits_ok {w0 : World} {fuel : Nat} {p0 : Value} {a0 : (List Timpl_Equation)} {r : Bool} (h0 : Rd (rList Rimpl_Equation) w0 p0 a0) (hm : spec_l22Fits_m fuel a0 = some r) :
  Calls Tryz.prog 23 #[p0] w0 fun e w => e = .returned (.bool r) ∧ Heap w0 [] w := by
 unfold spec_l22Fits_m at hm
 have H := Heap.start w0
 refine enter (args := [p0]) Tryz.func23 rfl 17 rfl (Nat.le_of_ble_eq_true rfl) (fun a S => ?_)
 refine wp_seq (region_plain ?_)
 refine lq (.bool false) S (q_assign rfl) fun a S => ?_
 refine lx_nil (thenN ?_)
 refine wp_seq (wp_seq (region_plain ?_))
 refine lq (.int .i64 (0 : Int)) S (q_assign rfl) fun a S => ?_
 refine lx_nil (thenN ?_)
 obtain ⟨res68, hit69, hk72⟩ := bind_some hm
 obtain ⟨f70, hf71, hit69⟩ := iter_name hit69
 refine block_loop (fun a w => Slots a 17 [] ∧ Heap w0 [] w ∧ res68 = .inl ()) ?_ ?_
 ·rintro a w ⟨S, H, rfl⟩
  have hm := ctl_inl hk72
  refine thenN ?_
  refine wp_seq (region_plain ?_)
  refine lq (.bool true) S (q_assign rfl) fun a S => ?_
  refine lx_nil (thenN ?_)
  refine wp_ret ?_
  obtain rfl := Option.some.inj hm
  exact leave1 S rfl rfl ⟨rfl, H⟩
 ·skip
  refine loop_ghost (fun n a w => ∃ (x49 : Int), Slots a 17 [(0, p0), (3, (.int .i64 x49))] ∧ Heap w0 [] w ∧ iter f70 n (x49) = some res68) _ ⟨(0 : Int), S.sub ⟨rfl, rfl, trivial⟩, H, hit69⟩ ?_
  rintro n a w ⟨x49, S, H, hit69⟩
  obtain ⟨m73, o74, rfl, hm, hc75⟩ := iter_step hit69
  rw [hf71] at hm
  refine wp_seq (wp_seq (region_plain ?_))
  refine lq (.int .i64 x49) S (q_move rfl) fun a S => ?_
  refine lq p0 S (q_move rfl) fun a S => ?_
  refine lq (.int .i64 (a0.length : Int)) S (q_lenSl rfl (h0).isSl rfl Tryz.underlying22) fun a S => ?_
  refine lq (.bool (decide (x49 < (a0.length : Int)))) S (q_lss rfl rfl) fun a S => ?_
  refine lx_nil (thenN ?_)
  refine cond_b S rfl (fun hc76 => ?_) (fun hc76 => ?_)
  ·have hm := ite_t hc76 hm
   refine wp_skip (thenN ?_)
   refine wp_seq ?_
   refine wp_block ?_
   refine wp_seq (region_plain ?_)
   refine lq p0 S (q_move rfl) fun a S => ?_
   refine lq (.int .i64 x49) S (q_move rfl) fun a S => ?_
   obtain ⟨x77, e78, hm⟩ := bind_some hm
   obtain ⟨c79, h80, hat81⟩ := (h0).elem (idx_some e78).2
   obtain ⟨c84, c85, rfl, h86, h87⟩ := h80
   obtain rfl := h86
   obtain ⟨c88, c89, rfl, h90, h91⟩ := h87
   obtain rfl := h90
   obtain ⟨v82, rfl, h83⟩ := rd_list h91
   have hlt := lt_of_idx (idx_some e78).2
   refine lq (ePtr p0 (x49.toNat * 3)) S (q_indexAddr rfl (h0).isSl rfl (idx_some e78).1 hlt Tryz.underlying22 Tryz.sizeOf48) fun a S => ?_
   refine lq (pAdd (ePtr p0 (x49.toNat * 3)) 2) S (q_fieldAddr' 2 44 rfl ((hat81 0 _ rfl).isP) Tryz.underlying48 rfl Tryz.sizeOf44) fun a S => ?_
   refine lx_e v82 S trivial (by decide) rfl trivial (q_load1 rfl Tryz.isAgg44 (by rintro _ rfl; exact (At.of_add (m := 2) (j := 0) ((hat81 2 _ rfl).ext H.ext)))) (fun a S => ?_)
   refine lq (.int .i64 (x77.2.2.length : Int)) S (q_lenSl rfl (h83).isSl rfl Tryz.underlying44) fun a S => ?_
   refine lq (.bool (decide ((64 : Int) < (x77.2.2.length : Int)))) S (q_gtr rfl rfl) fun a S => ?_
   refine lx_nil (thenN ?_)
   refine cond_b S rfl (fun hc92 => ?_) (fun hc92 => ?_)
   ·have hm := ite_t hc92 hm
    refine wp_seq (region_plain ?_)
    refine lq (.bool false) S (q_assign rfl) fun a S => ?_
    refine lx_nil (thenN ?_)
    refine wp_ret (inBlock_ret ?_)
    refine then_ret ?_
    refine then_ret ?_
    refine inBlock_ret ?_
    refine then_ret ?_
    refine then_ret ?_
    obtain rfl := it_brk hm hc75
    have hm := ctl_inr hk72
    obtain rfl := Option.some.inj hm
    exact leave1 S rfl rfl ⟨rfl, H⟩
   ·have hm := ite_f hc92 hm
    refine wp_skip ?_
    refine inBlock_norm ?_
    refine thenN ?_
    refine region_plain ?_
    refine lq (.int .i64 x49) S (q_move rfl) fun a S => ?_
    refine lq (.int .i64 (W (x49 + (1 : Int)))) S (q_add rfl rfl) fun a S => ?_
    refine lq (.int .i64 (W (x49 + (1 : Int)))) S (q_assign rfl) fun a S => ?_
    refine lx_nil ?_
    exact ⟨m73, Nat.lt_succ_self _, (W (x49 + (1 : Int))), S.sub ⟨rfl, rfl, trivial⟩, H, it_cont hm hc75⟩
  ·have hm := ite_f hc76 hm
   refine wp_exit ?_
   refine then_exit ?_
   refine then_exit ?_
   refine inBlock_exit ?_
   obtain rfl := it_brk hm hc75
   exact ⟨S.sub trivial, H, rfl⟩

/-- spec.l01List -/
def spec_l01List_m (fuel : Nat) (a0 : (List Int)) : Option (Str) :=
  (if ((a0.length : Int) == (0 : Int)) = true then some (([45] : Str)) else (iter (fun (s : (Str) × (Int)) => (match s with | (x53, x54) => (if (decide (x54 < (a0.length : Int))) = true then join (κ := Str → Option (((Str) × (Int)) ⊕ ((Str) ⊕ (Str)))) (fun (x86 : Str) => (idx a0 x54).bind fun x89 => (spec_l01Dec_m fuel x89).bind fun x96 => (cat x86 x96).bind fun x99 => some (.inl (x99, (W (x54 + (1 : Int)))))) (fun K87 => (if (decide ((0 : Int) < x54)) = true then (cat x53 ([44] : Str)).bind fun x102 => (K87 x102) else (K87 x53))) else some (.inr (.inl (x53)))) : Option (((Str) × (Int)) ⊕ ((Str) ⊕ (Str))))) fuel (([] : Str), (0 : Int))).bind fun res77 => ctl (β := Str) (ρ := Str) (τ := Str) res77 (fun (x76) => some (x76)) (fun q => some (q)))
set_option maxRecDepth 20000 in
theorem spec_l01List_ok {w0 : World} {fuel : Nat} {p0 : Value} {a0 : (List Int)} {r : Str} (h0 : Rd (rList (rInt .i64)) w0 p0 a0) (hm : spec_l01List_m fuel a0 = some r) :
  Calls Tryz.prog 55 #[p0] w0 fun e w => e = .returned (sv r) ∧ Heap w0 [] w := by
 unfold spec_l01List_m at hm
 have H := Heap.start w0
 refine enter (args := [p0]) Tryz.func55 rfl 26 rfl (Nat.le_of_ble_eq_true rfl) (fun a S => ?_)
 refine wp_seq (region_plain ?_)
 refine lq (sv ([] : Str)) S (q_assign rfl) fun a S => ?_
 refine lx_nil (thenN ?_)
 refine wp_seq (wp_seq (region_plain ?_))
 refine lq p0 S (q_move rfl) fun a S => ?_
 refine lq (.int .i64 (a0.length : Int)) S (q_lenSl rfl (h0).isSl rfl Tryz.underlying44) fun a S => ?_
 refine lq (.bool ((a0.length : Int) == (0 : Int))) S (q_eql rfl rfl) fun a S => ?_
 refine lx_nil (thenN ?_)
 refine cond_b S rfl (fun hc31 => ?_) (fun hc31 => ?_)
 ·have hm := ite_t hc31 hm
  refine wp_seq (region_plain ?_)
  refine lq (sv ([45] : Str)) S (q_assign rfl) fun a S => ?_
  refine lx_nil (thenN ?_)
  refine wp_ret (then_ret ?_)
  obtain rfl := Option.some.inj hm
  exact leave1 S rfl rfl ⟨rfl, H⟩
 ·have hm := ite_f hc31 hm
  refine wp_skip (thenN ?_)
  refine wp_seq (region_plain ?_)
  refine lq (sv ([] : Str)) S (q_assign rfl) fun a S => ?_
  refine lx_nil (thenN ?_)
  refine wp_seq (wp_seq (region_plain ?_))
  refine lq (.int .i64 (0 : Int)) S (q_assign rfl) fun a S => ?_
  refine lx_nil (thenN ?_)
  obtain ⟨res77, hit78, hk81⟩ := bind_some hm
  obtain ⟨f79, hf80, hit78⟩ := iter_name hit78
  refine block_loop (fun a w => ∃ (x76 : Str), Slots a 26 [(3, (sv x76))] ∧ Heap w0 [] w ∧ res77 = .inl (x76)) ?_ ?_
  ·rintro a w ⟨x76, S, H, rfl⟩
   have hm := ctl_inl hk81
   refine thenN ?_
   refine wp_seq (region_plain ?_)
   refine lq (sv x76) S (q_move rfl) fun a S => ?_
   refine lq (sv x76) S (q_assign rfl) fun a S => ?_
   refine lx_nil (thenN ?_)
   refine wp_ret ?_
   obtain rfl := Option.some.inj hm
   exact leave1 S rfl rfl ⟨rfl, H⟩
  ·skip
   refine loop_ghost (fun n a w => ∃ (x53 : Str) (x54 : Int), Slots a 26 [(0, p0), (3, (sv x53)), (4, (.int .i64 x54))] ∧ Heap w0 [] w ∧ iter f79 n (x53, x54) = some res77) _ ⟨([] : Str), (0 : Int), S.sub ⟨rfl, rfl, rfl, trivial⟩, H, hit78⟩ ?_
   rintro n a w ⟨x53, x54, S, H, hit78⟩
   obtain ⟨m82, o83, rfl, hm, hc84⟩ := iter_step hit78
   rw [hf80] at hm
   refine wp_seq (wp_seq (region_plain ?_))
   refine lq (.int .i64 x54) S (q_move rfl) fun a S => ?_
   refine lq p0 S (q_move rfl) fun a S => ?_
   refine lq (.int .i64 (a0.length : Int)) S (q_lenSl rfl (h0).isSl rfl Tryz.underlying44) fun a S => ?_
   refine lq (.bool (decide (x54 < (a0.length : Int)))) S (q_lss rfl rfl) fun a S => ?_
   refine lx_nil (thenN ?_)
   refine cond_b S rfl (fun hc85 => ?_) (fun hc85 => ?_)
   ·have hm := ite_t hc85 hm
    refine wp_skip (thenN ?_)
    refine wp_seq ?_
    refine wp_block ?_
    obtain ⟨K87, hK88, hm⟩ := join_elim hm
    refine seq_cut (fun a w => ∃ (x86 : Str), Slots a 26 [(0, p0), (3, (sv x86)), (4, (.int .i64 x54))] ∧ Heap w0 [] w ∧ K87 x86 = some o83) ?_ ?_
    ·rintro a w ⟨x86, S, H, hm⟩
     subst hK88
     refine region_plain ?_
     refine lq (sv x86) S (q_move rfl) fun a S => ?_
     refine lq p0 S (q_move rfl) fun a S => ?_
     refine lq (.int .i64 x54) S (q_move rfl) fun a S => ?_
     obtain ⟨x89, e90, hm⟩ := bind_some hm
     obtain ⟨c91, h92, hat93⟩ := (h0).elem (idx_some e90).2
     obtain rfl := h92
     have hlt := lt_of_idx (idx_some e90).2
     refine lq (ePtr p0 (x54.toNat * 1)) S (q_indexAddr rfl (h0).isSl rfl (idx_some e90).1 hlt Tryz.underlying44 Tryz.sizeOf2) fun a S => ?_
     refine lx_e (.int .i64 x89) S trivial (by decide) rfl trivial (q_load1 rfl Tryz.isAgg2 (by rintro _ rfl; exact ((hat93 0 _ rfl).ext H.ext))) (fun a S => ?_)
     obtain ⟨x96, e97, hm⟩ := bind_some hm
     refine lx_call (xs := [.tmp 22]) S trivial (by decide) rfl rfl Tryz.call66 ((spec_l01Dec_ok  e97).mono ?_)
     rintro e w94 ⟨rfl, Hc95⟩
     have H := H.call0 Hc95
     refine ⟨_, rfl, trivial, fun a S => ?_⟩
     obtain ⟨x99, e100, hm⟩ := bind_some hm
     obtain ⟨hle, hcat⟩ := cat_some e100
     subst hcat
     refine lq (sv (x86 ++ x96)) S (q_cat rfl rfl hle) fun a S => ?_
     refine lq (sv (x86 ++ x96)) S (q_assign rfl) fun a S => ?_
     refine lx_nil ?_
     refine inBlock_norm ?_
     refine thenN ?_
     refine region_plain ?_
     refine lq (.int .i64 x54) S (q_move rfl) fun a S => ?_
     refine lq (.int .i64 (W (x54 + (1 : Int)))) S (q_add rfl rfl) fun a S => ?_
     refine lq (.int .i64 (W (x54 + (1 : Int)))) S (q_assign rfl) fun a S => ?_
     refine lx_nil ?_
     exact ⟨m82, Nat.lt_succ_self _, (x86 ++ x96), (W (x54 + (1 : Int))), S.sub ⟨rfl, rfl, rfl, trivial⟩, H, it_cont hm hc84⟩
    ·skip
     refine wp_seq (region_plain ?_)
     refine lq (.int .i64 x54) S (q_move rfl) fun a S => ?_
     refine lq (.bool (decide ((0 : Int) < x54))) S (q_gtr rfl rfl) fun a S => ?_
     refine lx_nil (thenN ?_)
     refine cond_b S rfl (fun hc101 => ?_) (fun hc101 => ?_)
     ·have hm := ite_t hc101 hm
      refine region_plain ?_
      refine lq (sv x53) S (q_move rfl) fun a S => ?_
      obtain ⟨x102, e103, hm⟩ := bind_some hm
      obtain ⟨hle, hcat⟩ := cat_some e103
      subst hcat
      refine lq (sv (x53 ++ ([44] : Str))) S (q_cat rfl rfl hle) fun a S => ?_
      refine lq (sv (x53 ++ ([44] : Str))) S (q_assign rfl) fun a S => ?_
      refine lx_nil ?_
      exact ⟨(x53 ++ ([44] : Str)), S.sub ⟨rfl, rfl, rfl, trivial⟩, H, hm⟩
     ·have hm := ite_f hc101 hm
      refine wp_skip ?_
      exact ⟨x53, S.sub ⟨rfl, rfl, rfl, trivial⟩, H, hm⟩
   ·have hm := ite_f hc85 hm
    refine wp_exit ?_
    refine then_exit ?_
    refine then_exit ?_
    refine inBlock_exit ?_
    obtain rfl := it_brk hm hc84
    exact ⟨x53, S.sub ⟨rfl, trivial⟩, H, rfl⟩

/-- spec.l22Text -/
def spec_l22Text_m (fuel : Nat) (a0 : (List Timpl_Equation)) : Option (Str) :=
  (iter (fun (s : (Str) × (Int)) => (match s with | (x108, x109) => (if (decide (x109 < (a0.length : Int))) = true then join (κ := Str → Option (((Str) × (Int)) ⊕ ((Str) ⊕ (Str)))) (fun (x197 : Str) => join (κ := Str → Option (((Str) × (Int)) ⊕ ((Str) ⊕ (Str)))) (fun (x200 : Str) => join (κ := Str → Option (((Str) × (Int)) ⊕ ((Str) ⊕ (Str)))) (fun (x203 : Str) => (idx a0 x109).bind fun x206 => (spec_l01List_m fuel x206.2.2).bind fun x223 => (cat x203 x223).bind fun x226 => some (.inl (x226, (W (x109 + (1 : Int)))))) (fun K204 => (idx a0 x109).bind fun x228 => (if x228.2.1 = true then (cat x200 ([97, 108, 108, 32] : Str)).bind fun x244 => (K204 x244) else (cat x200 ([97, 110, 121, 32] : Str)).bind fun x246 => (K204 x246)))) (fun K201 => (idx a0 x109).bind fun x248 => (if x248.1 = true then (cat x197 ([110, 117, 32] : Str)).bind fun x264 => (K201 x264) else (cat x197 ([109, 117, 32] : Str)).bind fun x266 => (K201 x266)))) (fun K198 => (if (decide ((0 : Int) < x109)) = true then (cat x108 ([10] : Str)).bind fun x269 => (K198 x269) else (K198 x108))) else some (.inr (.inl (x108)))) : Option (((Str) × (Int)) ⊕ ((Str) ⊕ (Str))))) fuel (([] : Str), (0 : Int))).bind fun res188 => ctl (β := Str) (ρ := Str) (τ := Str) res188 (fun (x187) => some (x187)) (fun q => some (q))
set_option maxRecDepth 20000 in
theorem spec_l22Text_ok {w0 : World} {fuel : Nat} {p0 : Value} {a0 : (List Timpl_Equation)} {r : Str} (h0 : Rd (rList Rimpl_Equation) w0 p0 a0) (hm : spec_l22Text_m fuel a0 = some r) :
  Calls Tryz.prog 24 #[p0] w0 fun e w => e = .returned (sv r) ∧ Heap w0 [] w := by
 unfold spec_l22Text_m at hm
 have H := Heap.start w0
 refine enter (args := [p0]) Tryz.func24 rfl 42 rfl (Nat.le_of_ble_eq_true rfl) (fun a S => ?_)
 refine wp_seq (region_plain ?_)
 refine lq (sv ([] : Str)) S (q_assign rfl) fun a S => ?_
 refine lx_nil (thenN ?_)
 refine wp_seq (region_plain ?_)
 refine lq (sv ([] : Str)) S (q_assign rfl) fun a S => ?_
 refine lx_nil (thenN ?_)
 refine wp_seq (wp_seq (region_plain ?_))
 refine lq (.int .i64 (0 : Int)) S (q_assign rfl) fun a S => ?_
 refine lx_nil (thenN ?_)
 obtain ⟨res188, hit189, hk192⟩ := bind_some hm
 obtain ⟨f190, hf191, hit189⟩ := iter_name hit189
 refine block_loop (fun a w => ∃ (x187 : Str), Slots a 42 [(3, (sv x187))] ∧ Heap w0 [] w ∧ res188 = .inl (x187)) ?_ ?_
 ·rintro a w ⟨x187, S, H, rfl⟩
  have hm := ctl_inl hk192
  refine thenN ?_
  refine wp_seq (region_plain ?_)
  refine lq (sv x187) S (q_move rfl) fun a S => ?_
  refine lq (sv x187) S (q_assign rfl) fun a S => ?_
  refine lx_nil (thenN ?_)
  refine wp_ret ?_
  obtain rfl := Option.some.inj hm
  exact leave1 S rfl rfl ⟨rfl, H⟩
 ·skip
  refine loop_ghost (fun n a w => ∃ (x108 : Str) (x109 : Int), Slots a 42 [(0, p0), (3, (sv x108)), (4, (.int .i64 x109))] ∧ Heap w0 [] w ∧ iter f190 n (x108, x109) = some res188) _ ⟨([] : Str), (0 : Int), S.sub ⟨rfl, rfl, rfl, trivial⟩, H, hit189⟩ ?_
  rintro n a w ⟨x108, x109, S, H, hit189⟩
  obtain ⟨m193, o194, rfl, hm, hc195⟩ := iter_step hit189
  rw [hf191] at hm
  refine wp_seq (wp_seq (region_plain ?_))
  refine lq (.int .i64 x109) S (q_move rfl) fun a S => ?_
  refine lq p0 S (q_move rfl) fun a S => ?_
  refine lq (.int .i64 (a0.length : Int)) S (q_lenSl rfl (h0).isSl rfl Tryz.underlying22) fun a S => ?_
  refine lq (.bool (decide (x109 < (a0.length : Int)))) S (q_lss rfl rfl) fun a S => ?_
  refine lx_nil (thenN ?_)
  refine cond_b S rfl (fun hc196 => ?_) (fun hc196 => ?_)
  ·have hm := ite_t hc196 hm
   refine wp_skip (thenN ?_)
   refine wp_seq ?_
   refine wp_block ?_
   obtain ⟨K198, hK199, hm⟩ := join_elim hm
   refine seq_cut (fun a w => ∃ (x197 : Str), Slots a 42 [(0, p0), (3, (sv x197)), (4, (.int .i64 x109))] ∧ Heap w0 [] w ∧ K198 x197 = some o194) ?_ ?_
   ·rintro a w ⟨x197, S, H, hm⟩
    subst hK199
    obtain ⟨K201, hK202, hm⟩ := join_elim hm
    refine seq_cut (fun a w => ∃ (x200 : Str), Slots a 42 [(0, p0), (3, (sv x200)), (4, (.int .i64 x109))] ∧ Heap w0 [] w ∧ K201 x200 = some o194) ?_ ?_
    ·rintro a w ⟨x200, S, H, hm⟩
     subst hK202
     obtain ⟨K204, hK205, hm⟩ := join_elim hm
     refine seq_cut (fun a w => ∃ (x203 : Str), Slots a 42 [(0, p0), (3, (sv x203)), (4, (.int .i64 x109))] ∧ Heap w0 [] w ∧ K204 x203 = some o194) ?_ ?_
     ·rintro a w ⟨x203, S, H, hm⟩
      subst hK205
      refine region_plain ?_
      refine lq (sv x203) S (q_move rfl) fun a S => ?_
      refine lq p0 S (q_move rfl) fun a S => ?_
      refine lq (.int .i64 x109) S (q_move rfl) fun a S => ?_
      obtain ⟨x206, e207, hm⟩ := bind_some hm
      obtain ⟨c208, h209, hat210⟩ := (h0).elem (idx_some e207).2
      obtain ⟨c213, c214, rfl, h215, h216⟩ := h209
      obtain rfl := h215
      obtain ⟨c217, c218, rfl, h219, h220⟩ := h216
      obtain rfl := h219
      obtain ⟨v211, rfl, h212⟩ := rd_list h220
      have hlt := lt_of_idx (idx_some e207).2
      refine lq (ePtr p0 (x109.toNat * 3)) S (q_indexAddr rfl (h0).isSl rfl (idx_some e207).1 hlt Tryz.underlying22 Tryz.sizeOf48) fun a S => ?_
      refine lq (pAdd (ePtr p0 (x109.toNat * 3)) 2) S (q_fieldAddr' 2 44 rfl ((hat210 0 _ rfl).isP) Tryz.underlying48 rfl Tryz.sizeOf44) fun a S => ?_
      refine lx_e v211 S trivial (by decide) rfl trivial (q_load1 rfl Tryz.isAgg44 (by rintro _ rfl; exact (At.of_add (m := 2) (j := 0) ((hat210 2 _ rfl).ext H.ext)))) (fun a S => ?_)
      obtain ⟨x223, e224, hm⟩ := bind_some hm
      refine lx_call (xs := [.tmp 38]) S trivial (by decide) rfl rfl Tryz.call55 ((spec_l01List_ok (H.arg h212) e224).mono ?_)
      rintro e w221 ⟨rfl, Hc222⟩
      have H := H.call0 Hc222
      refine ⟨_, rfl, trivial, fun a S => ?_⟩
      obtain ⟨x226, e227, hm⟩ := bind_some hm
      obtain ⟨hle, hcat⟩ := cat_some e227
      subst hcat
      refine lq (sv (x203 ++ x223)) S (q_cat rfl rfl hle) fun a S => ?_
      refine lq (sv (x203 ++ x223)) S (q_assign rfl) fun a S => ?_
      refine lx_nil ?_
      refine inBlock_norm ?_
      refine thenN ?_
      refine region_plain ?_
      refine lq (.int .i64 x109) S (q_move rfl) fun a S => ?_
      refine lq (.int .i64 (W (x109 + (1 : Int)))) S (q_add rfl rfl) fun a S => ?_
      refine lq (.int .i64 (W (x109 + (1 : Int)))) S (q_assign rfl) fun a S => ?_
      refine lx_nil ?_
      exact ⟨m193, Nat.lt_succ_self _, (x203 ++ x223), (W (x109 + (1 : Int))), S.sub ⟨rfl, rfl, rfl, trivial⟩, H, it_cont hm hc195⟩
     ·skip
      refine wp_seq (region_plain ?_)
      refine lq p0 S (q_move rfl) fun a S => ?_
      refine lq (.int .i64 x109) S (q_move rfl) fun a S => ?_
      obtain ⟨x228, e229, hm⟩ := bind_some hm
      obtain ⟨c230, h231, hat232⟩ := (h0).elem (idx_some e229).2
      obtain ⟨c235, c236, rfl, h237, h238⟩ := h231
      obtain rfl := h237
      obtain ⟨c239, c240, rfl, h241, h242⟩ := h238
      obtain rfl := h241
      obtain ⟨v233, rfl, h234⟩ := rd_list h242
      have hlt := lt_of_idx (idx_some e229).2
      refine lq (ePtr p0 (x109.toNat * 3)) S (q_indexAddr rfl (h0).isSl rfl (idx_some e229).1 hlt Tryz.underlying22 Tryz.sizeOf48) fun a S => ?_
      refine lq (pAdd (ePtr p0 (x109.toNat * 3)) 1) S (q_fieldAddr' 1 4 rfl ((hat232 0 _ rfl).isP) Tryz.underlying48 rfl Tryz.sizeOf4) fun a S => ?_
      refine lx_e (.bool x228.2.1) S trivial (by decide) rfl trivial (q_load1 rfl Tryz.isAgg4 (by rintro _ rfl; exact (At.of_add (m := 1) (j := 0) ((hat232 1 _ rfl).ext H.ext)))) (fun a S => ?_)
      refine lx_nil (thenN ?_)
      refine cond_b S rfl (fun hc243 => ?_) (fun hc243 => ?_)
      ·have hm := ite_t hc243 hm
       refine region_plain ?_
       refine lq (sv x200) S (q_move rfl) fun a S => ?_
       obtain ⟨x244, e245, hm⟩ := bind_some hm
       obtain ⟨hle, hcat⟩ := cat_some e245
       subst hcat
       refine lq (sv (x200 ++ ([97, 108, 108, 32] : Str))) S (q_cat rfl rfl hle) fun a S => ?_
       refine lq (sv (x200 ++ ([97, 108, 108, 32] : Str))) S (q_assign rfl) fun a S => ?_
       refine lx_nil ?_
       exact ⟨(x200 ++ ([97, 108, 108, 32] : Str)), S.sub ⟨rfl, rfl, rfl, trivial⟩, H, hm⟩
      ·have hm := ite_f hc243 hm
       refine region_plain ?_
       refine lq (sv x200) S (q_move rfl) fun a S => ?_
       obtain ⟨x246, e247, hm⟩ := bind_some hm
       obtain ⟨hle, hcat⟩ := cat_some e247
       subst hcat
       refine lq (sv (x200 ++ ([97, 110, 121, 32] : Str))) S (q_cat rfl rfl hle) fun a S => ?_
       refine lq (sv (x200 ++ ([97, 110, 121, 32] : Str))) S (q_assign rfl) fun a S => ?_
       refine lx_nil ?_
       exact ⟨(x200 ++ ([97, 110, 121, 32] : Str)), S.sub ⟨rfl, rfl, rfl, trivial⟩, H, hm⟩
    ·skip
     refine wp_seq (region_plain ?_)
     refine lq p0 S (q_move rfl) fun a S => ?_
     refine lq (.int .i64 x109) S (q_move rfl) fun a S => ?_
     obtain ⟨x248, e249, hm⟩ := bind_some hm
     obtain ⟨c250, h251, hat252⟩ := (h0).elem (idx_some e249).2
     obtain ⟨c255, c256, rfl, h257, h258⟩ := h251
     obtain rfl := h257
     obtain ⟨c259, c260, rfl, h261, h262⟩ := h258
     obtain rfl := h261
     obtain ⟨v253, rfl, h254⟩ := rd_list h262
     have hlt := lt_of_idx (idx_some e249).2
     refine lq (ePtr p0 (x109.toNat * 3)) S (q_indexAddr rfl (h0).isSl rfl (idx_some e249).1 hlt Tryz.underlying22 Tryz.sizeOf48) fun a S => ?_
     refine lq (pAdd (ePtr p0 (x109.toNat * 3)) 0) S (q_fieldAddr' 0 4 rfl ((hat252 0 _ rfl).isP) Tryz.underlying48 rfl Tryz.sizeOf4) fun a S => ?_
     refine lx_e (.bool x248.1) S trivial (by decide) rfl trivial (q_load1 rfl Tryz.isAgg4 (by rintro _ rfl; exact (At.of_add (m := 0) (j := 0) ((hat252 0 _ rfl).ext H.ext)))) (fun a S => ?_)
     refine lx_nil (thenN ?_)
     refine cond_b S rfl (fun hc263 => ?_) (fun hc263 => ?_)
     ·have hm := ite_t hc263 hm
      refine region_plain ?_
      refine lq (sv x197) S (q_move rfl) fun a S => ?_
      obtain ⟨x264, e265, hm⟩ := bind_some hm
      obtain ⟨hle, hcat⟩ := cat_some e265
      subst hcat
      refine lq (sv (x197 ++ ([110, 117, 32] : Str))) S (q_cat rfl rfl hle) fun a S => ?_
      refine lq (sv (x197 ++ ([110, 117, 32] : Str))) S (q_assign rfl) fun a S => ?_
      refine lx_nil ?_
      exact ⟨(x197 ++ ([110, 117, 32] : Str)), S.sub ⟨rfl, rfl, rfl, trivial⟩, H, hm⟩
     ·have hm := ite_f hc263 hm
      refine region_plain ?_
      refine lq (sv x197) S (q_move rfl) fun a S => ?_
      obtain ⟨x266, e267, hm⟩ := bind_some hm
      obtain ⟨hle, hcat⟩ := cat_some e267
      subst hcat
      refine lq (sv (x197 ++ ([109, 117, 32] : Str))) S (q_cat rfl rfl hle) fun a S => ?_
      refine lq (sv (x197 ++ ([109, 117, 32] : Str))) S (q_assign rfl) fun a S => ?_
      refine lx_nil ?_
      exact ⟨(x197 ++ ([109, 117, 32] : Str)), S.sub ⟨rfl, rfl, rfl, trivial⟩, H, hm⟩
   ·skip
    refine wp_seq (region_plain ?_)
    refine lq (.int .i64 x109) S (q_move rfl) fun a S => ?_
    refine lq (.bool (decide ((0 : Int) < x109))) S (q_gtr rfl rfl) fun a S => ?_
    refine lx_nil (thenN ?_)
    refine cond_b S rfl (fun hc268 => ?_) (fun hc268 => ?_)
    ·have hm := ite_t hc268 hm
     refine region_plain ?_
     refine lq (sv x108) S (q_move rfl) fun a S => ?_
     obtain ⟨x269, e270, hm⟩ := bind_some hm
     obtain ⟨hle, hcat⟩ := cat_some e270
     subst hcat
     refine lq (sv (x108 ++ ([10] : Str))) S (q_cat rfl rfl hle) fun a S => ?_
     refine lq (sv (x108 ++ ([10] : Str))) S (q_assign rfl) fun a S => ?_
     refine lx_nil ?_
     exact ⟨(x108 ++ ([10] : Str)), S.sub ⟨rfl, rfl, rfl, trivial⟩, H, hm⟩
    ·have hm := ite_f hc268 hm
     refine wp_skip ?_
     exact ⟨x108, S.sub ⟨rfl, rfl, rfl, trivial⟩, H, hm⟩
  ·have hm := ite_f hc196 hm
   refine wp_exit ?_
   refine then_exit ?_
   refine then_exit ?_
   refine inBlock_exit ?_
   obtain rfl := it_brk hm hc195
   exact ⟨x108, S.sub ⟨rfl, trivial⟩, H, rfl⟩

/-- spec.ReadEquations -/
def spec_ReadEquations_m (fuel : Nat) (a0 : Str) : Option (((List Timpl_Equation) × Bool)) :=
  (spec_l01Split_m fuel a0 (10 : Int)).bind fun x33 => (if (decide ((120 : Int) < (x33.length : Int))) = true then some (([], false)) else (iter (fun (s : (List Timpl_Equation) × (Int)) => (match s with | (xs89, x91) => (if (decide (x91 < (x33.length : Int))) = true then (idx x33 x91).bind fun x172 => (spec_l01Split_m fuel x172 (32 : Int)).bind fun x179 => (if ((x179.length : Int) != (3 : Int)) = true then some (.inr (.inr ([], false))) else (idx x179 (2 : Int)).bind fun x186 => (spec_ReadList_m fuel x186).bind fun x193 => (if (!x193.2) = true then some (.inr (.inr ([], false))) else (idx x179 (0 : Int)).bind fun x202 => (idx x179 (1 : Int)).bind fun x204 => (app xs89 [((x202 == ([110, 117] : Str)), (x204 == ([97, 108, 108] : Str)), x193.1)]).bind fun x209 => some (.inl (x209, (W (x91 + (1 : Int))))))) else some (.inr (.inl (xs89)))) : Option (((List Timpl_Equation) × (Int)) ⊕ (((List Timpl_Equation)) ⊕ (((List Timpl_Equation) × Bool)))))) fuel (([] : List Timpl_Equation), (0 : Int))).bind fun res140 => ctl (β := (List Timpl_Equation)) (ρ := ((List Timpl_Equation) × Bool)) (τ := ((List Timpl_Equation) × Bool)) res140 (fun (xs138) => (spec_l22Is_m fuel xs138).bind fun x147 => (if (!x147) = true then some true else (spec_l22Fits_m fuel xs138).bind fun x155 => some (!x155)).bind fun t150 => (if t150 = true then some true else (spec_l22Text_m fuel xs138).bind fun x163 => some (x163 != a0)).bind fun t158 => (if t158 = true then some (([], false)) else some ((xs138, true)))) (fun q => some (q)))
set_option maxRecDepth 20000 in
theorem spec_ReadEquations_ok {w0 : World} {fuel : Nat} {a0 : Str} {r : ((List Timpl_Equation) × Bool)} (hm : spec_ReadEquations_m fuel a0 = some r) :
  Calls Tryz.prog 6 #[sv a0] w0 fun e w => ∃ (v0 : Value), e = .returned (.tuple #[v0, .bool r.2]) ∧ Heap w0 [oA (rList Rimpl_Equation) v0 r.1] w := by
 unfold spec_ReadEquations_m at hm
 have H := Heap.start w0
 refine enter (args := [sv a0]) Tryz.func6 rfl 67 rfl (Nat.le_of_ble_eq_true rfl) (fun a S => ?_)
 refine wp_seq (region_plain ?_)
 refine lq (.slice none 0 0) S (q_assign rfl) fun a S => ?_
 refine lq (.bool false) S (q_assign rfl) fun a S => ?_
 refine lx_nil (thenN ?_)
 refine wp_seq (region_plain ?_)
 refine lq (sv a0) S (q_move rfl) fun a S => ?_
 obtain ⟨x33, e34, hm⟩ := bind_some hm
 refine lx_call (xs := [.tmp 10, .const (.int .u8 (10))]) S trivial (by decide) rfl rfl Tryz.call20 ((spec_l01Split_ok   e34).mono ?_)
 rintro e w31 ⟨v35, rfl, Hc32⟩
 have H := H.call1 Hc32
 refine ⟨_, rfl, trivial, fun a S => ?_⟩
 refine lq v35 S (q_assign rfl) fun a S => ?_
 refine lx_nil (thenN ?_)
 refine wp_seq (wp_seq (region_plain ?_))
 refine lq v35 S (q_move rfl) fun a S => ?_
 refine lq (.int .i64 (x33.length : Int)) S (q_lenSl rfl (H.isSl 0 rfl) rfl Tryz.underlying28) fun a S => ?_
 refine lq (.bool (decide ((120 : Int) < (x33.length : Int)))) S (q_gtr rfl rfl) fun a S => ?_
 refine lx_nil (thenN ?_)
 refine cond_b S rfl (fun hc38 => ?_) (fun hc38 => ?_)
 ·have hm := ite_t hc38 hm
  refine wp_seq (region_plain ?_)
  refine lq (.slice none 0 0) S (q_assign rfl) fun a S => ?_
  refine lq (.bool false) S (q_assign rfl) fun a S => ?_
  refine lx_nil (thenN ?_)
  refine wp_ret (then_ret ?_)
  obtain rfl := Option.some.inj hm
  have H : Heap w0 [oA (rList Rimpl_Equation) (.slice none 0 0) ([] : List Timpl_Equation), oA (rList rStr) v35 x33] w31 := H.nilList Rimpl_Equation
  have H : Heap w0 [oA (rList Rimpl_Equation) (.slice none 0 0) ([] : List Timpl_Equation)] w31 := H.sel [0] (by decide)
  exact leave2 S rfl rfl rfl ⟨(.slice none 0 0), rfl, H⟩
 ·have hm := ite_f hc38 hm
  refine wp_skip (thenN ?_)
  refine wp_seq (region_plain ?_)
  refine lx_buildSlice0 (r := Rimpl_Equation) S trivial (by decide) rfl H Tryz.underlying22 Tryz.sizeOf48 (fun v40 w41 H => ⟨trivial, fun a S => ?_⟩)
  refine lq v40 S (q_assign rfl) fun a S => ?_
  refine lx_nil (thenN ?_)
  refine wp_seq (wp_seq (region_plain ?_))
  refine lq (.int .i64 (0 : Int)) S (q_assign rfl) fun a S => ?_
  refine lx_nil (thenN ?_)
  obtain ⟨res140, hit141, hk144⟩ := bind_some hm
  obtain ⟨f142, hf143, hit141⟩ := iter_name hit141
  refine block_loop (fun a w => ∃ (xs138 : List Timpl_Equation) (v137 : Value), Slots a 67 [(0, (sv a0)), (5, v137)] ∧ Heap w0 [oA (rList Rimpl_Equation) v137 xs138] w ∧ res140 = .inl (xs138)) ?_ ?_
  ·rintro a w ⟨xs138, v137, S, H, rfl⟩
   have hm := ctl_inl hk144
   refine thenN ?_
   refine wp_seq (wp_seq (region_plain ?_))
   refine lq v137 S (q_move rfl) fun a S => ?_
   obtain ⟨x147, e148, hm⟩ := bind_some hm
   refine lx_call (xs := [.tmp 52]) S trivial (by decide) rfl rfl Tryz.call22 ((spec_l22Is_ok (H.rdAt 0 rfl) e148).mono ?_)
   rintro e w145 ⟨rfl, Hc146⟩
   have H := H.call0 Hc146
   refine ⟨_, rfl, trivial, fun a S => ?_⟩
   refine lq (.bool (!x147)) S (q_not rfl) fun a S => ?_
   refine lq (.bool (!x147)) S (q_move rfl) fun a S => ?_
   obtain ⟨t150, e151, hm⟩ := bind_some hm
   refine lx_cut 4 (fun a w => Slots a 67 [(0, (sv a0)), (5, v137), (59, (.bool t150))] ∧ Heap w0 [oA (rList Rimpl_Equation) v137 xs138] w) ?_ ?_
   ·by_cases hc152 : (!x147) = true
    ·have hm := ite_t hc152 e151
     refine lx_skip S rfl rfl (isB_ne hc152) (by decide) (fun a S => ?_)
     refine lx_skip S rfl rfl (isB_ne hc152) (by decide) (fun a S => ?_)
     refine lx_skip S rfl rfl (isB_ne hc152) (by decide) (fun a S => ?_)
     refine lq (.bool true) S (q_pickT' rfl hc152 rfl) fun a S => ?_
     refine lx_nil ?_
     obtain rfl := Option.some.inj hm
     exact ⟨S.sub ⟨rfl, rfl, rfl, trivial⟩, H⟩
    ·have hm := ite_f (eq_false_of_ne_true hc152) e151
     have hc152 : (!x147) = false := eq_false_of_ne_true hc152
     refine lx_q v137 S (want_b rfl rfl hc152) (by decide) (q_move rfl) (fun a S => ?_)
     obtain ⟨x155, e156, hm⟩ := bind_some hm
     refine lx_call (xs := [.tmp 56]) S (want_b rfl rfl hc152) (by decide) rfl rfl Tryz.call23 ((spec_l22Fits_ok (H.rdAt 0 rfl) e156).mono ?_)
     rintro e w153 ⟨rfl, Hc154⟩
     have H := H.call0 Hc154
     refine ⟨_, rfl, trivial, fun a S => ?_⟩
     refine lx_q (.bool (!x155)) S (want_b rfl rfl hc152) (by decide) (q_not rfl) (fun a S => ?_)
     refine lq (.bool (!x155)) S (q_pickF' rfl hc152 rfl) fun a S => ?_
     refine lx_nil ?_
     obtain rfl := Option.some.inj hm
     exact ⟨S.sub ⟨rfl, rfl, rfl, trivial⟩, H⟩
   ·rintro a w ⟨S, H⟩
    refine lq (.bool t150) S (q_move rfl) fun a S => ?_
    obtain ⟨t158, e159, hm⟩ := bind_some hm
    refine lx_cut 5 (fun a w => Slots a 67 [(5, v137), (65, (.bool t158))] ∧ Heap w0 [oA (rList Rimpl_Equation) v137 xs138] w) ?_ ?_
    ·by_cases hc160 : t150 = true
     ·have hm := ite_t hc160 e159
      refine lx_skip S rfl rfl (isB_ne hc160) (by decide) (fun a S => ?_)
      refine lx_skip S rfl rfl (isB_ne hc160) (by decide) (fun a S => ?_)
      refine lx_skip S rfl rfl (isB_ne hc160) (by decide) (fun a S => ?_)
      refine lx_skip S rfl rfl (isB_ne hc160) (by decide) (fun a S => ?_)
      refine lq (.bool true) S (q_pickT' rfl hc160 rfl) fun a S => ?_
      refine lx_nil ?_
      obtain rfl := Option.some.inj hm
      exact ⟨S.sub ⟨rfl, rfl, trivial⟩, H⟩
     ·have hm := ite_f (eq_false_of_ne_true hc160) e159
      have hc160 : t150 = false := eq_false_of_ne_true hc160
      refine lx_q v137 S (want_b rfl rfl hc160) (by decide) (q_move rfl) (fun a S => ?_)
      obtain ⟨x163, e164, hm⟩ := bind_some hm
      refine lx_call (xs := [.tmp 61]) S (want_b rfl rfl hc160) (by decide) rfl rfl Tryz.call24 ((spec_l22Text_ok (H.rdAt 0 rfl) e164).mono ?_)
      rintro e w161 ⟨rfl, Hc162⟩
      have H := H.call0 Hc162
      refine ⟨_, rfl, trivial, fun a S => ?_⟩
      refine lx_q (sv a0) S (want_b rfl rfl hc160) (by decide) (q_move rfl) (fun a S => ?_)
      refine lx_q (.bool (x163 != a0)) S (want_b rfl rfl hc160) (by decide) (q_sneq rfl rfl) (fun a S => ?_)
      refine lq (.bool (x163 != a0)) S (q_pickF' rfl hc160 rfl) fun a S => ?_
      refine lx_nil ?_
      obtain rfl := Option.some.inj hm
      exact ⟨S.sub ⟨rfl, rfl, trivial⟩, H⟩
    ·rintro a w ⟨S, H⟩
     refine lx_nil (thenN ?_)
     refine cond_b S rfl (fun hc166 => ?_) (fun hc166 => ?_)
     ·have hm := ite_t hc166 hm
      refine wp_seq (region_plain ?_)
      refine lq (.slice none 0 0) S (q_assign rfl) fun a S => ?_
      refine lq (.bool false) S (q_assign rfl) fun a S => ?_
      refine lx_nil (thenN ?_)
      refine wp_ret (then_ret ?_)
      obtain rfl := Option.some.inj hm
      have H : Heap w0 [oA (rList Rimpl_Equation) (.slice none 0 0) ([] : List Timpl_Equation), oA (rList Rimpl_Equation) v137 xs138] w := H.nilList Rimpl_Equation
      have H : Heap w0 [oA (rList Rimpl_Equation) (.slice none 0 0) ([] : List Timpl_Equation)] w := H.sel [0] (by decide)
      exact leave2 S rfl rfl rfl ⟨(.slice none 0 0), rfl, H⟩
     ·have hm := ite_f hc166 hm
      refine wp_skip (thenN ?_)
      refine wp_seq (region_plain ?_)
      refine lq v137 S (q_move rfl) fun a S => ?_
      refine lq v137 S (q_assign rfl) fun a S => ?_
      refine lq (.bool true) S (q_assign rfl) fun a S => ?_
      refine lx_nil (thenN ?_)
      refine wp_ret ?_
      obtain rfl := Option.some.inj hm
      exact leave2 S rfl rfl rfl ⟨v137, rfl, H⟩
  ·skip
   have H : Heap w0 [oA (rList rStr) v35 x33, oA (rList Rimpl_Equation) v40 ([] : List Timpl_Equation)] w41 := H.front 1 rfl
   refine loop_ghost (fun n a w => ∃ (xs89 : List Timpl_Equation) (x91 : Int) (v88 : Value), Slots a 67 [(0, (sv a0)), (4, v35), (5, v88), (6, (.int .i64 x91))] ∧ Heap w0 [oA (rList rStr) v35 x33, oA (rList Rimpl_Equation) v88 xs89] w ∧ iter f142 n (xs89, x91) = some res140) _ ⟨([] : List Timpl_Equation), (0 : Int), v40, S.sub ⟨rfl, rfl, rfl, rfl, trivial⟩, H, hit141⟩ ?_
   rintro n a w ⟨xs89, x91, v88, S, H, hit141⟩
   obtain ⟨m168, o169, rfl, hm, hc170⟩ := iter_step hit141
   rw [hf143] at hm
   refine wp_seq (wp_seq (region_plain ?_))
   refine lq (.int .i64 x91) S (q_move rfl) fun a S => ?_
   refine lq v35 S (q_move rfl) fun a S => ?_
   refine lq (.int .i64 (x33.length : Int)) S (q_lenSl rfl (H.isSl 0 rfl) rfl Tryz.underlying28) fun a S => ?_
   refine lq (.bool (decide (x91 < (x33.length : Int)))) S (q_lss rfl rfl) fun a S => ?_
   refine lx_nil (thenN ?_)
   refine cond_b S rfl (fun hc171 => ?_) (fun hc171 => ?_)
   ·have hm := ite_t hc171 hm
    refine wp_skip (thenN ?_)
    refine wp_seq ?_
    refine wp_block ?_
    refine wp_seq (region_plain ?_)
    refine lq v35 S (q_move rfl) fun a S => ?_
    refine lq (.int .i64 x91) S (q_move rfl) fun a S => ?_
    obtain ⟨x172, e173, hm⟩ := bind_some hm
    have hlt := lt_of_idx (idx_some e173).2
    refine lq (ePtr v35 (x91.toNat * 1)) S (q_indexAddr rfl (H.isSl 0 rfl) rfl (idx_some e173).1 hlt Tryz.underlying28 Tryz.sizeOf9) fun a S => ?_
    obtain ⟨c174, h175, hat176⟩ := (H.rdAt 0 rfl).elem (idx_some e173).2
    obtain rfl := h175
    refine lx_e (sv x172) S trivial (by decide) rfl trivial (q_load1 rfl Tryz.isAgg9 (by rintro _ rfl; exact (hat176 0 _ rfl))) (fun a S => ?_)
    obtain ⟨x179, e180, hm⟩ := bind_some hm
    refine lx_call (xs := [.tmp 25, .const (.int .u8 (32))]) S trivial (by decide) rfl rfl Tryz.call20 ((spec_l01Split_ok   e180).mono ?_)
    rintro e w177 ⟨v181, rfl, Hc178⟩
    have H := H.call1 Hc178
    refine ⟨_, rfl, trivial, fun a S => ?_⟩
    refine lq v181 S (q_assign rfl) fun a S => ?_
    refine lx_nil (thenN ?_)
    refine wp_seq (wp_seq (region_plain ?_))
    refine lq v181 S (q_move rfl) fun a S => ?_
    refine lq (.int .i64 (x179.length : Int)) S (q_lenSl rfl (H.isSl 0 rfl) rfl Tryz.underlying28) fun a S => ?_
    refine lq (.bool ((x179.length : Int) != (3 : Int))) S (q_neq rfl rfl) fun a S => ?_
    refine lx_nil (thenN ?_)
    refine cond_b S rfl (fun hc184 => ?_) (fun hc184 => ?_)
    ·have hm := ite_t hc184 hm
     refine wp_seq (region_plain ?_)
     refine lq (.slice none 0 0) S (q_assign rfl) fun a S => ?_
     refine lq (.bool false) S (q_assign rfl) fun a S => ?_
     refine lx_nil (thenN ?_)
     refine wp_ret (then_ret ?_)
     refine inBlock_ret ?_
     refine then_ret ?_
     refine then_ret ?_
     refine inBlock_ret ?_
     refine then_ret ?_
     refine then_ret ?_
     obtain rfl := it_brk hm hc170
     have hm := ctl_inr hk144
     obtain rfl := Option.some.inj hm
     have H : Heap w0 [oA (rList Rimpl_Equation) (.slice none 0 0) ([] : List Timpl_Equation), oA (rList rStr) v181 x179, oA (rList rStr) v35 x33, oA (rList Rimpl_Equation) v88 xs89] w177 := H.nilList Rimpl_Equation
     have H : Heap w0 [oA (rList Rimpl_Equation) (.slice none 0 0) ([] : List Timpl_Equation)] w177 := H.sel [0] (by decide)
     exact leave2 S rfl rfl rfl ⟨(.slice none 0 0), rfl, H⟩
    ·have hm := ite_f hc184 hm
     refine wp_skip (thenN ?_)
     refine wp_seq (region_plain ?_)
     refine lq v181 S (q_move rfl) fun a S => ?_
     obtain ⟨x186, e187, hm⟩ := bind_some hm
     have hlt := lt_of_idx (idx_some e187).2
     refine lq (ePtr v181 ((2 : Int).toNat * 1)) S (q_indexAddr rfl (H.isSl 0 rfl) rfl (idx_some e187).1 hlt Tryz.underlying28 Tryz.sizeOf9) fun a S => ?_
     obtain ⟨c188, h189, hat190⟩ := (H.rdAt 0 rfl).elem (idx_some e187).2
     obtain rfl := h189
     refine lx_e (sv x186) S trivial (by decide) rfl trivial (q_load1 rfl Tryz.isAgg9 (by rintro _ rfl; exact (hat190 0 _ rfl))) (fun a S => ?_)
     obtain ⟨x193, e194, hm⟩ := bind_some hm
     refine lx_call (xs := [.tmp 33]) S trivial (by decide) rfl rfl Tryz.call21 ((spec_ReadList_ok  e194).mono ?_)
     rintro e w191 ⟨v195, rfl, Hc192⟩
     have H := H.call1 Hc192
     refine ⟨_, rfl, trivial, fun a S => ?_⟩
     refine lq (.tuple #[v195, (.bool x193.2)]) S (q_move rfl) fun a S => ?_
     refine lq v195 S (q_extract rfl rfl) fun a S => ?_
     refine lq (.bool x193.2) S (q_extract rfl rfl) fun a S => ?_
     refine lq v195 S (q_assign rfl) fun a S => ?_
     refine lq (.bool x193.2) S (q_assign rfl) fun a S => ?_
     refine lx_nil (thenN ?_)
     refine wp_seq (wp_seq (region_plain ?_))
     refine lq (.bool x193.2) S (q_move rfl) fun a S => ?_
     refine lq (.bool (!x193.2)) S (q_not rfl) fun a S => ?_
     refine lx_nil (thenN ?_)
     refine cond_b S rfl (fun hc198 => ?_) (fun hc198 => ?_)
     ·have hm := ite_t hc198 hm
      refine wp_seq (region_plain ?_)
      refine lq (.slice none 0 0) S (q_assign rfl) fun a S => ?_
      refine lq (.bool false) S (q_assign rfl) fun a S => ?_
      refine lx_nil (thenN ?_)
      refine wp_ret (then_ret ?_)
      refine inBlock_ret ?_
      refine then_ret ?_
      refine then_ret ?_
      refine inBlock_ret ?_
      refine then_ret ?_
      refine then_ret ?_
      obtain rfl := it_brk hm hc170
      have hm := ctl_inr hk144
      obtain rfl := Option.some.inj hm
      have H : Heap w0 [oA (rList Rimpl_Equation) (.slice none 0 0) ([] : List Timpl_Equation), oA (rList (rInt .i64)) v195 x193.1, oA (rList rStr) v181 x179, oA (rList rStr) v35 x33, oA (rList Rimpl_Equation) v88 xs89] w191 := H.nilList Rimpl_Equation
      have H : Heap w0 [oA (rList Rimpl_Equation) (.slice none 0 0) ([] : List Timpl_Equation)] w191 := H.sel [0] (by decide)
      exact leave2 S rfl rfl rfl ⟨(.slice none 0 0), rfl, H⟩
     ·have hm := ite_f hc198 hm
      refine wp_skip (thenN ?_)
      refine region_drawG (fun w1 => Heap w0 [oA (rList rStr) v181 x179] w1) (fun i => [11, 12].contains i) mixed (by kernel_rfl) (fun w201 he200 => ?_)
      have H := H.later he200
      refine ⟨H.sel [1] (by decide), ?_⟩
      refine lq v88 S (q_move rfl) fun a S => ?_
      refine lq v181 S (q_move rfl) fun a S => ?_
      obtain ⟨x202, e203, hm⟩ := bind_some hm
      have hlt := lt_of_idx (idx_some e203).2
      refine lq (ePtr v181 ((0 : Int).toNat * 1)) S (q_indexAddr rfl (H.isSl 1 rfl) rfl (idx_some e203).1 hlt Tryz.underlying28 Tryz.sizeOf9) fun a S => ?_
      refine lq (sv x202) S (q_load1 rfl Tryz.isAgg9 (fun w1 hC => ((hC.rdAt 0 rfl).elemAt (j := 0) (idx_some e203).2 (by intro B w cs h; obtain rfl := h; rfl)))) fun a S => ?_
      refine lq (.bool (x202 == ([110, 117] : Str))) S (q_seql rfl rfl) fun a S => ?_
      refine lq v181 S (q_move rfl) fun a S => ?_
      obtain ⟨x204, e205, hm⟩ := bind_some hm
      have hlt := lt_of_idx (idx_some e205).2
      refine lq (ePtr v181 ((1 : Int).toNat * 1)) S (q_indexAddr rfl (H.isSl 1 rfl) rfl (idx_some e205).1 hlt Tryz.underlying28 Tryz.sizeOf9) fun a S => ?_
      refine lq (sv x204) S (q_load1 rfl Tryz.isAgg9 (fun w1 hC => ((hC.rdAt 0 rfl).elemAt (j := 0) (idx_some e205).2 (by intro B w cs h; obtain rfl := h; rfl)))) fun a S => ?_
      refine lq (.bool (x204 == ([97, 108, 108] : Str))) S (q_seql rfl rfl) fun a S => ?_
      refine lq v195 S (q_move rfl) fun a S => ?_
      refine lq (.agg #[(.bool (x202 == ([110, 117] : Str))), (.bool (x204 == ([97, 108, 108] : Str))), v195]) S (q_build (zs := [(.bool false), (.bool false), (.slice none 0 0)]) (szs := [1, 1, 1]) (ps := [(0, [(.bool (x202 == ([110, 117] : Str)))]), (1, [(.bool (x204 == ([97, 108, 108] : Str)))]), (2, [v195])]) (parts := [(0, .tmp 43), (1, .tmp 47), (2, .tmp 48)]) rfl Tryz.underlying48 Tryz.zeroValue48 (fun w => by simp [Tryz.sizeOf4, Tryz.sizeOf44]) ⟨rfl, rfl, Nat.le_of_ble_eq_true rfl, ⟨rfl, rfl, Nat.le_of_ble_eq_true rfl, ⟨rfl, (cells_sl (H.isSl 0 rfl)), Nat.le_of_ble_eq_true rfl, trivial⟩⟩⟩ rfl) fun a S => ?_
      refine lx_buildSlice (r := Rimpl_Equation) (xs := [((x202 == ([110, 117] : Str)), (x204 == ([97, 108, 108] : Str)), x193.1)]) (ps := [(0, [(.bool (x202 == ([110, 117] : Str))), (.bool (x204 == ([97, 108, 108] : Str))), v195])]) (cs := [(.bool (x202 == ([110, 117] : Str))), (.bool (x204 == ([97, 108, 108] : Str))), v195]) (parts := [(0, .tmp 49)]) S trivial (by decide) rfl H rfl Tryz.underlying22 Tryz.sizeOf48 Tryz.zeroValue48 (by decide) ⟨rfl, rfl, Nat.le_of_ble_eq_true rfl, trivial⟩ (by intro zs hz; exact fill_dense hz ⟨rfl, trivial⟩ rfl rfl) rfl (by decide) (fun w F hA => ownL_one_mk (ownF ⟨_, _, [(.bool (x202 == ([110, 117] : Str)))], [(.bool (x204 == ([97, 108, 108] : Str))), v195], rfl, rfl, ⟨rfl, rfl⟩, ⟨_, _, [(.bool (x204 == ([97, 108, 108] : Str)))], [v195], rfl, rfl, ⟨rfl, rfl⟩, (oA_list.1 hA)⟩⟩)) (fun v206 w207 H => ⟨H.sel [1] (by decide), fun a S => ?_⟩)
      obtain ⟨x209, e210, hm⟩ := bind_some hm
      obtain ⟨hle, hap⟩ := app_some e210
      replace hap := hap.symm
      subst hap
      have H : Heap w0 [oA (rList Rimpl_Equation) v206 [((x202 == ([110, 117] : Str)), (x204 == ([97, 108, 108] : Str)), x193.1)], oA (rList rStr) v181 x179, oA (rList rStr) v35 x33, oA (rList Rimpl_Equation) v88 xs89] w207 := H.front 0 rfl
      have H : Heap w0 [oA (rList Rimpl_Equation) v88 xs89, oA (rList Rimpl_Equation) v206 [((x202 == ([110, 117] : Str)), (x204 == ([97, 108, 108] : Str)), x193.1)], oA (rList rStr) v181 x179, oA (rList rStr) v35 x33] w207 := H.front 3 rfl
      refine lx_appendOwn (r := Rimpl_Equation) S trivial (by decide) rfl H rfl rfl Tryz.underlying22 Tryz.ti48 rfl rfl rfl (Nat.le_of_ble_eq_true rfl) (by decide) hle (fun v211 w212 H => ⟨H.sel [1] (by decide), fun a S => ?_⟩)
      refine lq v211 S (q_assign rfl) fun a S => ?_
      refine lx_nil ?_
      refine inBlock_norm ?_
      refine thenN ?_
      refine region_plain ?_
      refine lq (.int .i64 x91) S (q_move rfl) fun a S => ?_
      refine lq (.int .i64 (W (x91 + (1 : Int)))) S (q_add rfl rfl) fun a S => ?_
      refine lq (.int .i64 (W (x91 + (1 : Int)))) S (q_assign rfl) fun a S => ?_
      refine lx_nil ?_
      have H : Heap w0 [oA (rList rStr) v35 x33, oA (rList Rimpl_Equation) v211 (xs89 ++ [((x202 == ([110, 117] : Str)), (x204 == ([97, 108, 108] : Str)), x193.1)]), oA (rList rStr) v181 x179] w212 := H.front 2 rfl
      have H : Heap w0 [oA (rList rStr) v35 x33, oA (rList Rimpl_Equation) v211 (xs89 ++ [((x202 == ([110, 117] : Str)), (x204 == ([97, 108, 108] : Str)), x193.1)])] w212 := H.sel [0, 1] (by decide)
      exact ⟨m168, Nat.lt_succ_self _, (xs89 ++ [((x202 == ([110, 117] : Str)), (x204 == ([97, 108, 108] : Str)), x193.1)]), (W (x91 + (1 : Int))), v211, S.sub ⟨rfl, rfl, rfl, rfl, trivial⟩, H, it_cont hm hc170⟩
   ·have hm := ite_f hc171 hm
    refine wp_exit ?_
    refine then_exit ?_
    refine then_exit ?_
    refine inBlock_exit ?_
    obtain rfl := it_brk hm hc170
    have H : Heap w0 [oA (rList Rimpl_Equation) v88 xs89] w := H.sel [1] (by decide)
    exact ⟨xs89, v88, S.sub ⟨rfl, rfl, trivial⟩, H, rfl⟩

/-- impl.listOk$1 -/
def impl_listOk_1_m (fuel : Nat) (a0 : Int) : Option (Bool) :=
  (impl_within_m fuel a0 (-1000000000000 : Int) (1000000000000 : Int)).bind fun x33 => some ((!x33))
set_option maxRecDepth 20000 in
theorem impl_listOk_1_ok {w0 : World} {fuel : Nat} {a0 : Int} {r : Bool} (hm : impl_listOk_1_m fuel a0 = some r) :
  Calls Tryz.prog 84 #[.int .i64 a0] w0 fun e w => e = .returned (.bool r) ∧ Heap w0 [] w := by
 unfold impl_listOk_1_m at hm
 have H := Heap.start w0
 refine enter (args := [.int .i64 a0]) Tryz.func84 rfl 6 rfl (Nat.le_of_ble_eq_true rfl) (fun a S => ?_)
 refine wp_seq (region_plain ?_)
 refine lq (.bool false) S (q_assign rfl) fun a S => ?_
 refine lx_nil (thenN ?_)
 refine wp_seq (region_plain ?_)
 refine lq (.int .i64 a0) S (q_move rfl) fun a S => ?_
 obtain ⟨x33, e34, hm⟩ := bind_some hm
 refine lx_call (xs := [.tmp 3, .const (.int .i64 (-1000000000000)), .const (.int .i64 (1000000000000))]) S trivial (by decide) rfl rfl Tryz.call68 ((impl_within_ok    e34).mono ?_)
 rintro e w31 ⟨rfl, Hc32⟩
 have H := H.call0 Hc32
 refine ⟨_, rfl, trivial, fun a S => ?_⟩
 refine lq (.bool (!x33)) S (q_not rfl) fun a S => ?_
 refine lq (.bool (!x33)) S (q_assign rfl) fun a S => ?_
 refine lx_nil (thenN ?_)
 refine wp_ret ?_
 obtain rfl := Option.some.inj hm
 exact leave1 S rfl rfl ⟨rfl, H⟩

/-- impl.listOk -/
def impl_listOk_m (fuel : Nat) (a0 : (List Int)) : Option (Bool) :=
  (if (decide ((a0.length : Int) ≤ (64 : Int))) = true then (slices_ContainsFunc__int64_int64_m fuel a0 (fun (z0 : Int) => impl_listOk_1_m fuel z0)).bind fun x36 => some (!x36) else some false).bind fun t31 => some (t31)
set_option maxRecDepth 20000 in
theorem impl_listOk_ok {w0 : World} {fuel : Nat} {p0 : Value} {a0 : (List Int)} {r : Bool} (h0 : Rd (rList (rInt .i64)) w0 p0 a0) (hm : impl_listOk_m fuel a0 = some r) :
  Calls Tryz.prog 57 #[p0] w0 fun e w => e = .returned (.bool r) ∧ Heap w0 [] w := by
 unfold impl_listOk_m at hm
 have H := Heap.start w0
 refine enter (args := [p0]) Tryz.func57 rfl 11 rfl (Nat.le_of_ble_eq_true rfl) (fun a S => ?_)
 refine wp_seq (region_plain ?_)
 refine lq (.bool false) S (q_assign rfl) fun a S => ?_
 refine lx_nil (thenN ?_)
 refine wp_seq (region_plain ?_)
 refine lq p0 S (q_move rfl) fun a S => ?_
 refine lq (.int .i64 (a0.length : Int)) S (q_lenSl rfl (h0).isSl rfl Tryz.underlying44) fun a S => ?_
 refine lq (.bool (decide ((a0.length : Int) ≤ (64 : Int)))) S (q_leq rfl rfl) fun a S => ?_
 refine lq (.bool (decide ((a0.length : Int) ≤ (64 : Int)))) S (q_move rfl) fun a S => ?_
 obtain ⟨t31, e32, hm⟩ := bind_some hm
 refine lx_cut 4 (fun a w => Slots a 11 [(10, (.bool t31))] ∧ Heap w0 [] w) ?_ ?_
 ·by_cases hc33 : (decide ((a0.length : Int) ≤ (64 : Int))) = true
  ·have hm := ite_t hc33 e32
   refine lx_q p0 S (want_b rfl rfl hc33) (by decide) (q_move rfl) (fun a S => ?_)
   obtain ⟨x36, e37, hm⟩ := bind_some hm
   refine lx_call (xs := [.tmp 7, .func 84]) S (want_b rfl rfl hc33) (by decide) rfl rfl Tryz.call83 ((slices_ContainsFunc__int64_int64_ok (f1 := 84) (fs1 := ([] : List Value)) (cp1 := ([] : List Value)) (a1 := (fun (z0 : Int) => impl_listOk_1_m fuel z0)) (H.arg h0) Tryz.call84 (fun he  hm => impl_listOk_1_ok    hm) e37).mono ?_)
   rintro e w34 ⟨rfl, Hc35⟩
   have H := H.call0 Hc35
   refine ⟨_, rfl, trivial, fun a S => ?_⟩
   refine lx_q (.bool (!x36)) S (want_b rfl rfl hc33) (by decide) (q_not rfl) (fun a S => ?_)
   refine lq (.bool (!x36)) S (q_pickT' rfl hc33 rfl) fun a S => ?_
   refine lx_nil ?_
   obtain rfl := Option.some.inj hm
   exact ⟨S.sub ⟨rfl, trivial⟩, H⟩
  ·have hm := ite_f (eq_false_of_ne_true hc33) e32
   have hc33 : (decide ((a0.length : Int) ≤ (64 : Int))) = false := eq_false_of_ne_true hc33
   refine lx_skip S rfl rfl (isB_ne hc33) (by decide) (fun a S => ?_)
   refine lx_skip S rfl rfl (isB_ne hc33) (by decide) (fun a S => ?_)
   refine lx_skip S rfl rfl (isB_ne hc33) (by decide) (fun a S => ?_)
   refine lq (.bool false) S (q_pickF' rfl hc33 rfl) fun a S => ?_
   refine lx_nil ?_
   obtain rfl := Option.some.inj hm
   exact ⟨S.sub ⟨rfl, trivial⟩, H⟩
 ·rintro a w ⟨S, H⟩
  refine lq (.bool t31) S (q_assign rfl) fun a S => ?_
  refine lx_nil (thenN ?_)
  refine wp_ret ?_
  obtain rfl := Option.some.inj hm
  exact leave1 S rfl rfl ⟨rfl, H⟩

/-- impl.ReadList -/
def impl_ReadList_m (fuel : Nat) (a0 : Str) : Option (((List Int) × Bool)) :=
  (if (a0 == ([45] : Str)) = true then some (([], true)) else (strings_Split_m fuel a0 ([44] : Str)).bind fun x35 => (impl_readNumbers_m fuel x35).bind fun x42 => (if (!x42.2) = true then some true else (impl_listOk_m fuel x42.1).bind fun x52 => some (!x52)).bind fun t47 => (if t47 = true then some (([], false)) else some ((x42.1, true))))
set_option maxRecDepth 20000 in
theorem impl_ReadList_ok {w0 : World} {fuel : Nat} {a0 : Str} {r : ((List Int) × Bool)} (hG : GlobE Tryz.prog w0) (hm : impl_ReadList_m fuel a0 = some r) :
  Calls Tryz.prog 26 #[sv a0] w0 fun e w => ∃ (v0 : Value), e = .returned (.tuple #[v0, .bool r.2]) ∧ Heap w0 [oA (rList (rInt .i64)) v0 r.1] w := by
 unfold impl_ReadList_m at hm
 have H := Heap.start w0
 refine enter (args := [sv a0]) Tryz.func26 rfl 22 rfl (Nat.le_of_ble_eq_true rfl) (fun a S => ?_)
 refine wp_seq (region_plain ?_)
 refine lq (.slice none 0 0) S (q_assign rfl) fun a S => ?_
 refine lq (.bool false) S (q_assign rfl) fun a S => ?_
 refine lx_nil (thenN ?_)
 refine wp_seq (wp_seq (region_plain ?_))
 refine lq (sv a0) S (q_move rfl) fun a S => ?_
 refine lq (.bool (a0 == ([45] : Str))) S (q_seql rfl rfl) fun a S => ?_
 refine lx_nil (thenN ?_)
 refine cond_b S rfl (fun hc31 => ?_) (fun hc31 => ?_)
 ·have hm := ite_t hc31 hm
  refine wp_seq (region_plain ?_)
  refine lq (.slice none 0 0) S (q_assign rfl) fun a S => ?_
  refine lq (.bool true) S (q_assign rfl) fun a S => ?_
  refine lx_nil (thenN ?_)
  refine wp_ret (then_ret ?_)
  obtain rfl := Option.some.inj hm
  have H : Heap w0 [oA (rList (rInt .i64)) (.slice none 0 0) ([] : List Int)] w0 := H.nilList (rInt .i64)
  exact leave2 S rfl rfl rfl ⟨(.slice none 0 0), rfl, H⟩
 ·have hm := ite_f hc31 hm
  refine wp_skip (thenN ?_)
  refine wp_seq (region_plain ?_)
  refine lq (sv a0) S (q_move rfl) fun a S => ?_
  obtain ⟨x35, e36, hm⟩ := bind_some hm
  refine lx_call (xs := [.tmp 9, .const (sv [44])]) S trivial (by decide) rfl rfl Tryz.call25 ((strings_Split_ok (hG.ext H.ext).toGlob   e36).mono ?_)
  rintro e w33 ⟨v37, rfl, Hc34⟩
  have H := H.call1 Hc34
  refine ⟨_, rfl, trivial, fun a S => ?_⟩
  obtain ⟨x42, e43, hm⟩ := bind_some hm
  refine lx_call (xs := [.tmp 10]) S trivial (by decide) rfl rfl Tryz.call44 ((impl_readNumbers_ok (hG.ext H.ext) (H.rdAt 0 rfl) e43).mono ?_)
  rintro e w40 ⟨v44, rfl, Hc41⟩
  have H := H.call1 Hc41
  refine ⟨_, rfl, trivial, fun a S => ?_⟩
  refine lq (.tuple #[v44, (.bool x42.2)]) S (q_move rfl) fun a S => ?_
  refine lq v44 S (q_extract rfl rfl) fun a S => ?_
  refine lq (.bool x42.2) S (q_extract rfl rfl) fun a S => ?_
  refine lq v44 S (q_assign rfl) fun a S => ?_
  refine lq (.bool x42.2) S (q_assign rfl) fun a S => ?_
  refine lx_nil (thenN ?_)
  refine wp_seq (wp_seq (region_plain ?_))
  refine lq (.bool x42.2) S (q_move rfl) fun a S => ?_
  refine lq (.bool (!x42.2)) S (q_not rfl) fun a S => ?_
  refine lq (.bool (!x42.2)) S (q_move rfl) fun a S => ?_
  obtain ⟨t47, e48, hm⟩ := bind_some hm
  refine lx_cut 4 (fun a w => Slots a 22 [(4, v44), (20, (.bool t47))] ∧ Heap w0 [oA (rList (rInt .i64)) v44 x42.1] w) ?_ ?_
  ·by_cases hc49 : (!x42.2) = true
   ·have hm := ite_t hc49 e48
    refine lx_skip S rfl rfl (isB_ne hc49) (by decide) (fun a S => ?_)
    refine lx_skip S rfl rfl (isB_ne hc49) (by decide) (fun a S => ?_)
    refine lx_skip S rfl rfl (isB_ne hc49) (by decide) (fun a S => ?_)
    refine lq (.bool true) S (q_pickT' rfl hc49 rfl) fun a S => ?_
    refine lx_nil ?_
    obtain rfl := Option.some.inj hm
    have H := H.sel [0] (by decide)
    exact ⟨S.sub ⟨rfl, rfl, trivial⟩, H⟩
   ·have hm := ite_f (eq_false_of_ne_true hc49) e48
    have hc49 : (!x42.2) = false := eq_false_of_ne_true hc49
    refine lx_q v44 S (want_b rfl rfl hc49) (by decide) (q_move rfl) (fun a S => ?_)
    obtain ⟨x52, e53, hm⟩ := bind_some hm
    refine lx_call (xs := [.tmp 17]) S (want_b rfl rfl hc49) (by decide) rfl rfl Tryz.call57 ((impl_listOk_ok (H.rdAt 0 rfl) e53).mono ?_)
    rintro e w50 ⟨rfl, Hc51⟩
    have H := H.call0 Hc51
    refine ⟨_, rfl, trivial, fun a S => ?_⟩
    refine lx_q (.bool (!x52)) S (want_b rfl rfl hc49) (by decide) (q_not rfl) (fun a S => ?_)
    refine lq (.bool (!x52)) S (q_pickF' rfl hc49 rfl) fun a S => ?_
    refine lx_nil ?_
    obtain rfl := Option.some.inj hm
    have H := H.sel [0] (by decide)
    exact ⟨S.sub ⟨rfl, rfl, trivial⟩, H⟩
  ·rintro a w ⟨S, H⟩
   refine lx_nil (thenN ?_)
   refine cond_b S rfl (fun hc55 => ?_) (fun hc55 => ?_)
   ·have hm := ite_t hc55 hm
    refine wp_seq (region_plain ?_)
    refine lq (.slice none 0 0) S (q_assign rfl) fun a S => ?_
    refine lq (.bool false) S (q_assign rfl) fun a S => ?_
    refine lx_nil (thenN ?_)
    refine wp_ret (then_ret ?_)
    obtain rfl := Option.some.inj hm
    have H : Heap w0 [oA (rList (rInt .i64)) (.slice none 0 0) ([] : List Int), oA (rList (rInt .i64)) v44 x42.1] w := H.nilList (rInt .i64)
    have H : Heap w0 [oA (rList (rInt .i64)) (.slice none 0 0) ([] : List Int)] w := H.sel [0] (by decide)
    exact leave2 S rfl rfl rfl ⟨(.slice none 0 0), rfl, H⟩
   ·have hm := ite_f hc55 hm
    refine wp_skip (thenN ?_)
    refine wp_seq (region_plain ?_)
    refine lq v44 S (q_move rfl) fun a S => ?_
    refine lq v44 S (q_assign rfl) fun a S => ?_
    refine lq (.bool true) S (q_assign rfl) fun a S => ?_
    refine lx_nil (thenN ?_)
    refine wp_ret ?_
    obtain rfl := Option.some.inj hm
    exact leave2 S rfl rfl rfl ⟨v44, rfl, H⟩

/-- impl.equationBlocks -/
def impl_equationBlocks_m (fuel : Nat) (a0 : (List Timpl_Equation)) : Option ((List Int)) :=
  (iter (fun (s : (List Int) × (Int) × (Int)) => (match s with | (xs90, x92, x93) => (if (decide (x93 < (a0.length : Int))) = true then (idx a0 x93).bind fun x164 => join (κ := Int → Option (((List Int) × (Int) × (Int)) ⊕ (((List Int)) ⊕ ((List Int))))) (fun (x183 : Int) => (app xs90 [x183]).bind fun x189 => some (.inl (x189, x183, (W (x93 + (1 : Int)))))) (fun K184 => (if (decide ((0 : Int) < x93)) = true then (idx a0 (W (x93 - (1 : Int)))).bind fun x199 => some (x164.1 != x199.1) else some false).bind fun t196 => (if t196 = true then (K184 (W (x92 + (1 : Int)))) else (K184 x92))) else some (.inr (.inl (xs90)))) : Option (((List Int) × (Int) × (Int)) ⊕ (((List Int)) ⊕ ((List Int)))))) fuel ([], (0 : Int), (0 : Int))).bind fun res154 => ctl (β := (List Int)) (ρ := (List Int)) (τ := (List Int)) res154 (fun (xs152) => some (xs152)) (fun q => some (q))
set_option maxRecDepth 20000 in
theorem impl_equationBlocks_ok {w0 : World} {fuel : Nat} {p0 : Value} {a0 : (List Timpl_Equation)} {r : (List Int)} (h0 : Rd (rList Rimpl_Equation) w0 p0 a0) (hm : impl_equationBlocks_m fuel a0 = some r) :
  Calls Tryz.prog 105 #[p0] w0 fun e w => ∃ (v0 : Value), e = .returned (v0) ∧ Heap w0 [oA (rList (rInt .i64)) v0 r] w := by
 unfold impl_equationBlocks_m at hm
 have H := Heap.start w0
 refine enter (args := [p0]) Tryz.func105 rfl 35 rfl (Nat.le_of_ble_eq_true rfl) (fun a S => ?_)
 refine wp_seq (region_plain ?_)
 refine lq (.slice none 0 0) S (q_assign rfl) fun a S => ?_
 refine lx_nil (thenN ?_)
 refine wp_seq (region_plain ?_)
 refine lq (.slice none 0 0) S (q_assign rfl) fun a S => ?_
 refine lx_nil (thenN ?_)
 refine wp_seq (region_plain ?_)
 refine lq (.int .i64 (0 : Int)) S (q_assign rfl) fun a S => ?_
 refine lx_nil (thenN ?_)
 refine wp_seq (wp_seq (region_plain ?_))
 refine lq p0 S (q_move rfl) fun a S => ?_
 refine lq (.int .i64 (a0.length : Int)) S (q_lenSl rfl (h0).isSl rfl Tryz.underlying22) fun a S => ?_
 refine lq (.int .i64 (0 : Int)) S (q_move rfl) fun a S => ?_
 refine lx_nil (thenN ?_)
 obtain ⟨res154, hit155, hk158⟩ := bind_some hm
 obtain ⟨f156, hf157, hit155⟩ := iter_name hit155
 refine block_loop (fun a w => ∃ (xs152 : List Int) (v151 : Value), Slots a 35 [(3, v151)] ∧ Heap w0 [oA (rList (rInt .i64)) v151 xs152] w ∧ res154 = .inl (xs152)) ?_ ?_
 ·rintro a w ⟨xs152, v151, S, H, rfl⟩
  have hm := ctl_inl hk158
  refine thenN ?_
  refine wp_seq (region_plain ?_)
  refine lq v151 S (q_move rfl) fun a S => ?_
  refine lq v151 S (q_assign rfl) fun a S => ?_
  refine lx_nil (thenN ?_)
  refine wp_ret ?_
  obtain rfl := Option.some.inj hm
  exact leave1 S rfl rfl ⟨v151, rfl, H⟩
 ·skip
  have H : Heap w0 [oA (rList (rInt .i64)) (.slice none 0 0) ([] : List Int)] w0 := H.nilList (rInt .i64)
  refine loop_ghost (fun n a w => ∃ (xs90 : List Int) (x92 : Int) (x93 : Int) (v89 : Value), Slots a 35 [(0, p0), (3, v89), (4, (.int .i64 x92)), (7, p0), (8, (.int .i64 (a0.length : Int))), (9, (.int .i64 x93))] ∧ Heap w0 [oA (rList (rInt .i64)) v89 xs90] w ∧ iter f156 n (xs90, x92, x93) = some res154) _ ⟨[], (0 : Int), (0 : Int), (.slice none 0 0), S.sub ⟨rfl, rfl, rfl, rfl, rfl, rfl, trivial⟩, H, hit155⟩ ?_
  rintro n a w ⟨xs90, x92, x93, v89, S, H, hit155⟩
  obtain ⟨m160, o161, rfl, hm, hc162⟩ := iter_step hit155
  rw [hf157] at hm
  refine wp_seq (region_plain ?_)
  refine lq (.bool (decide (x93 < (a0.length : Int)))) S (q_lss rfl rfl) fun a S => ?_
  refine lx_nil (thenN ?_)
  refine wp_seq ?_
  refine cond_b S rfl (fun hc163 => ?_) (fun hc163 => ?_)
  ·have hm := ite_t hc163 hm
   refine wp_skip (thenN ?_)
   refine wp_seq ?_
   refine wp_block ?_
   refine wp_seq (region_plain ?_)
   refine lq (.int .i64 x93) S (q_move rfl) fun a S => ?_
   obtain ⟨x164, e165, hm⟩ := bind_some hm
   obtain ⟨c166, h167, hat168⟩ := (h0).elem (idx_some e165).2
   obtain ⟨c171, c172, rfl, h173, h174⟩ := h167
   obtain rfl := h173
   obtain ⟨c175, c176, rfl, h177, h178⟩ := h174
   obtain rfl := h177
   obtain ⟨v169, rfl, h170⟩ := rd_list h178
   have hlt := lt_of_idx (idx_some e165).2
   refine lq (ePtr p0 (x93.toNat * 3)) S (q_indexAddr rfl (h0).isSl rfl (idx_some e165).1 hlt Tryz.underlying22 Tryz.sizeOf48) fun a S => ?_
   refine lx_e (.agg #[(.bool x164.1), (.bool x164.2.1), v169]) S trivial (by decide) rfl trivial (q_loadA (cs := [(.bool x164.1), (.bool x164.2.1), v169]) rfl ((hat168 0 _ rfl).isP) Tryz.isAgg48 Tryz.sizeOf48 (by rintro _ rfl; exact (fun j u hu => (hat168 j u hu).ext H.ext))) (fun a S => ?_)
   refine lx_alloc S trivial (by decide) rfl H Tryz.zeroValue48 rfl (fun b179 w180 H => ⟨trivial, fun a S => ?_⟩)
   refine lq (.int .i64 x93) S (q_assign rfl) fun a S => ?_
   refine lx_storeBox (o := 0) (i := 0) (us := [(.bool x164.1), (.bool x164.2.1), v169]) (cs' := [(.bool x164.1), (.bool x164.2.1), v169]) S trivial rfl H rfl rfl rfl rfl Tryz.sizeOf48 (Nat.le_of_ble_eq_true rfl) (List.forall_mem_cons.2 ⟨rfl, (List.forall_mem_cons.2 ⟨rfl, (List.forall_mem_cons.2 ⟨one_sl (h170).isSl, (fun _ h => nomatch h)⟩)⟩)⟩) rfl (fun w182 H => ⟨trivial, fun a S => ?_⟩)
   change Heap w0 [bA b179 [(.bool x164.1), (.bool x164.2.1), v169] 48, oA (rList (rInt .i64)) v89 xs90] w182 at H
   refine lx_nil (thenN ?_)
   obtain ⟨K184, hK185, hm⟩ := join_elim hm
   refine seq_cut (fun a w => ∃ (x183 : Int), Slots a 35 [(0, p0), (3, v89), (4, (.int .i64 x183)), (7, p0), (8, (.int .i64 (a0.length : Int))), (9, (.int .i64 x93))] ∧ Heap w0 [oA (rList (rInt .i64)) v89 xs90] w ∧ K184 x183 = some o161) ?_ ?_
   ·rintro a w ⟨x183, S, H, hm⟩
    subst hK185
    refine region_plain ?_
    refine lq v89 S (q_move rfl) fun a S => ?_
    refine lq (.int .i64 x183) S (q_move rfl) fun a S => ?_
    refine lx_buildSlice (r := (rInt .i64)) (xs := [x183]) (ps := [(0, [(.int .i64 x183)])]) (cs := [(.int .i64 x183)]) (parts := [(0, .tmp 30)]) S trivial (by decide) rfl (H.put0 (A := eA) rfl) rfl Tryz.underlying44 Tryz.sizeOf2 Tryz.zeroValue2 (by decide) ⟨rfl, rfl, Nat.le_of_ble_eq_true rfl, trivial⟩ (by intro zs hz; exact fill_dense hz ⟨rfl, trivial⟩ rfl rfl) rfl (by decide) (fun w F hA => by cases (show F = [] from hA); exact ⟨_, _, [(.int .i64 x183)], _, rfl, rfl, ⟨rfl, rfl⟩, ⟨rfl, rfl⟩⟩) (fun v186 w187 H => ⟨trivial, fun a S => ?_⟩)
    obtain ⟨x189, e190, hm⟩ := bind_some hm
    obtain ⟨hle, hap⟩ := app_some e190
    replace hap := hap.symm
    subst hap
    have H : Heap w0 [oA (rList (rInt .i64)) v186 [x183], oA (rList (rInt .i64)) v89 xs90] w187 := H.front 0 rfl
    have H : Heap w0 [oA (rList (rInt .i64)) v89 xs90, oA (rList (rInt .i64)) v186 [x183]] w187 := H.front 1 rfl
    refine lx_appendOwn (r := (rInt .i64)) S trivial (by decide) rfl H rfl rfl Tryz.underlying44 Tryz.ti2 rfl rfl rfl (Nat.le_of_ble_eq_true rfl) (by decide) hle (fun v191 w192 H => ⟨trivial, fun a S => ?_⟩)
    refine lq v191 S (q_assign rfl) fun a S => ?_
    refine lx_nil ?_
    refine inBlock_norm ?_
    refine thenN ?_
    refine region_plain ?_
    refine lq (.int .i64 (W (x93 + (1 : Int)))) S (q_add rfl rfl) fun a S => ?_
    refine lq (.int .i64 (W (x93 + (1 : Int)))) S (q_move rfl) fun a S => ?_
    refine lx_nil ?_
    exact ⟨m160, Nat.lt_succ_self _, (xs90 ++ [x183]), x183, (W (x93 + (1 : Int))), v191, S.sub ⟨rfl, rfl, rfl, rfl, rfl, rfl, trivial⟩, H, it_cont hm hc162⟩
   ·skip
    refine wp_seq ?_
    refine region_drawG (fun w1 => Heap w0 [bA b179 [(.bool x164.1), (.bool x164.2.1), v169] 48] w1) (fun i => [].contains i) mixed (by kernel_rfl) (fun w195 he194 => ?_)
    have H := H.later he194
    refine ⟨H.sel [0] (by decide), ?_⟩
    refine lq (.int .i64 x93) S (q_move rfl) fun a S => ?_
    refine lq (.bool (decide ((0 : Int) < x93))) S (q_gtr rfl rfl) fun a S => ?_
    refine lq (.bool (decide ((0 : Int) < x93))) S (q_move rfl) fun a S => ?_
    obtain ⟨t196, e197, hm⟩ := bind_some hm
    refine lx_cut 10 (fun a w => Slots a 35 [(0, p0), (3, v89), (4, (.int .i64 x92)), (7, p0), (8, (.int .i64 (a0.length : Int))), (9, (.int .i64 x93)), (26, (.bool t196))] ∧ Heap w0 [oA (rList (rInt .i64)) v89 xs90] w) ?_ ?_
    ·by_cases hc198 : (decide ((0 : Int) < x93)) = true
     ·have hm := ite_t hc198 e197
      refine lx_q (pAdd (bp b179) 0) S (want_b rfl rfl hc198) (by decide) (q_fieldAddr' 0 4 rfl (isP_bp _) Tryz.underlying48 rfl Tryz.sizeOf4) (fun a S => ?_)
      refine lx_q (.bool x164.1) S (want_b rfl rfl hc198) (by decide) (q_load1 rfl Tryz.isAgg4 (fun w1 hC => (At.of_add (m := 0) (j := 0) (boxAt (i := 0) hC rfl (j := 0) rfl)))) (fun a S => ?_)
      refine lx_q p0 S (want_b rfl rfl hc198) (by decide) (q_move rfl) (fun a S => ?_)
      refine lx_q (.int .i64 x93) S (want_b rfl rfl hc198) (by decide) (q_move rfl) (fun a S => ?_)
      refine lx_q (.int .i64 (W (x93 - (1 : Int)))) S (want_b rfl rfl hc198) (by decide) (q_sub rfl rfl) (fun a S => ?_)
      obtain ⟨x199, e200, hm⟩ := bind_some hm
      obtain ⟨c201, h202, hat203⟩ := (h0).elem (idx_some e200).2
      obtain ⟨c206, c207, rfl, h208, h209⟩ := h202
      obtain rfl := h208
      obtain ⟨c210, c211, rfl, h212, h213⟩ := h209
      obtain rfl := h212
      obtain ⟨v204, rfl, h205⟩ := rd_list h213
      have hlt := lt_of_idx (idx_some e200).2
      refine lx_q (ePtr p0 ((W (x93 - (1 : Int))).toNat * 3)) S (want_b rfl rfl hc198) (by decide) (q_indexAddr rfl (h0).isSl rfl (idx_some e200).1 hlt Tryz.underlying22 Tryz.sizeOf48) (fun a S => ?_)
      refine lx_q (pAdd (ePtr p0 ((W (x93 - (1 : Int))).toNat * 3)) 0) S (want_b rfl rfl hc198) (by decide) (q_fieldAddr' 0 4 rfl ((hat203 0 _ rfl).isP) Tryz.underlying48 rfl Tryz.sizeOf4) (fun a S => ?_)
      refine lx_q (.bool x199.1) S (want_b rfl rfl hc198) (by decide) (q_load1 rfl Tryz.isAgg4 (fun w1 hC => (At.of_add (m := 0) (j := 0) ((hat203 0 _ rfl).ext hC.ext)))) (fun a S => ?_)
      refine lx_q (.bool (x164.1 != x199.1)) S (want_b rfl rfl hc198) (by decide) (q_bneq rfl rfl Tryz.underlying4) (fun a S => ?_)
      refine lq (.bool (x164.1 != x199.1)) S (q_pickT' rfl hc198 rfl) fun a S => ?_
      refine lx_nil ?_
      obtain rfl := Option.some.inj hm
      have H := H.sel [1] (by decide)
      exact ⟨S.sub ⟨rfl, rfl, rfl, rfl, rfl, rfl, rfl, trivial⟩, H⟩
     ·have hm := ite_f (eq_false_of_ne_true hc198) e197
      have hc198 : (decide ((0 : Int) < x93)) = false := eq_false_of_ne_true hc198
      refine lx_skip S rfl rfl (isB_ne hc198) (by decide) (fun a S => ?_)
      refine lx_skip S rfl rfl (isB_ne hc198) (by decide) (fun a S => ?_)
      refine lx_skip S rfl rfl (isB_ne hc198) (by decide) (fun a S => ?_)
      refine lx_skip S rfl rfl (isB_ne hc198) (by decide) (fun a S => ?_)
      refine lx_skip S rfl rfl (isB_ne hc198) (by decide) (fun a S => ?_)
      refine lx_skip S rfl rfl (isB_ne hc198) (by decide) (fun a S => ?_)
      refine lx_skip S rfl rfl (isB_ne hc198) (by decide) (fun a S => ?_)
      refine lx_skip S rfl rfl (isB_ne hc198) (by decide) (fun a S => ?_)
      refine lx_skip S rfl rfl (isB_ne hc198) (by decide) (fun a S => ?_)
      refine lq (.bool false) S (q_pickF' rfl hc198 rfl) fun a S => ?_
      refine lx_nil ?_
      obtain rfl := Option.some.inj hm
      have H := H.sel [1] (by decide)
      exact ⟨S.sub ⟨rfl, rfl, rfl, rfl, rfl, rfl, rfl, trivial⟩, H⟩
    ·rintro a w ⟨S, H⟩
     refine lx_nil (thenN ?_)
     refine cond_b S rfl (fun hc214 => ?_) (fun hc214 => ?_)
     ·have hm := ite_t hc214 hm
      refine region_plain ?_
      refine lq (.int .i64 x92) S (q_move rfl) fun a S => ?_
      refine lq (.int .i64 (W (x92 + (1 : Int)))) S (q_add rfl rfl) fun a S => ?_
      refine lq (.int .i64 (W (x92 + (1 : Int)))) S (q_assign rfl) fun a S => ?_
      refine lx_nil ?_
      exact ⟨(W (x92 + (1 : Int))), S.sub ⟨rfl, rfl, rfl, rfl, rfl, rfl, trivial⟩, H, hm⟩
     ·have hm := ite_f hc214 hm
      refine wp_skip ?_
      exact ⟨x92, S.sub ⟨rfl, rfl, rfl, rfl, rfl, rfl, trivial⟩, H, hm⟩
  ·have hm := ite_f hc163 hm
   refine wp_exit ?_
   refine then_exit ?_
   refine then_exit ?_
   refine inBlock_exit ?_
   obtain rfl := it_brk hm hc162
   exact ⟨xs90, v89, S.sub ⟨rfl, trivial⟩, H, rfl⟩

/-- impl.last[int64] -/
def impl_last_int64_m (_ : Nat) (a0 : (List Int)) : Option (Int) :=
  (idx a0 (W ((a0.length : Int) - (1 : Int)))).bind fun x31 => some (x31)
set_option maxRecDepth 20000 in
theorem impl_last_int64_ok {w0 : World} {fuel : Nat} {p0 : Value} {a0 : (List Int)} {r : Int} (h0 : Rd (rList (rInt .i64)) w0 p0 a0) (hm : impl_last_int64_m fuel a0 = some r) :
  Calls Tryz.prog 104 #[p0] w0 fun e w => e = .returned (.int .i64 r) ∧ Heap w0 [] w := by
 unfold impl_last_int64_m at hm
 have H := Heap.start w0
 refine enter (args := [p0]) Tryz.func104 rfl 9 rfl (Nat.le_of_ble_eq_true rfl) (fun a S => ?_)
 refine wp_seq (region_plain ?_)
 refine lq (.int .i64 (0 : Int)) S (q_assign rfl) fun a S => ?_
 refine lx_nil (thenN ?_)
 refine wp_seq (region_plain ?_)
 refine lq p0 S (q_move rfl) fun a S => ?_
 refine lq p0 S (q_move rfl) fun a S => ?_
 refine lq (.int .i64 (a0.length : Int)) S (q_lenSl rfl (h0).isSl rfl Tryz.underlying44) fun a S => ?_
 refine lq (.int .i64 (W ((a0.length : Int) - (1 : Int)))) S (q_sub rfl rfl) fun a S => ?_
 obtain ⟨x31, e32, hm⟩ := bind_some hm
 obtain ⟨c33, h34, hat35⟩ := (h0).elem (idx_some e32).2
 obtain rfl := h34
 have hlt := lt_of_idx (idx_some e32).2
 refine lq (ePtr p0 ((W ((a0.length : Int) - (1 : Int))).toNat * 1)) S (q_indexAddr rfl (h0).isSl rfl (idx_some e32).1 hlt Tryz.underlying44 Tryz.sizeOf2) fun a S => ?_
 refine lx_e (.int .i64 x31) S trivial (by decide) rfl trivial (q_load1 rfl Tryz.isAgg2 (by rintro _ rfl; exact ((hat35 0 _ rfl).ext H.ext))) (fun a S => ?_)
 refine lq (.int .i64 x31) S (q_assign rfl) fun a S => ?_
 refine lx_nil (thenN ?_)
 refine wp_ret ?_
 obtain rfl := Option.some.inj hm
 exact leave1 S rfl rfl ⟨rfl, H⟩

/-- impl.blocksFit -/
def impl_blocksFit_m (fuel : Nat) (a0 : (List Timpl_Equation)) : Option (Bool) :=
  (impl_equationBlocks_m fuel a0).bind fun x33 => (impl_last_int64_m fuel x33).bind fun x40 => some ((decide (x40 < (9 : Int))))
set_option maxRecDepth 20000 in
theorem impl_blocksFit_ok {w0 : World} {fuel : Nat} {p0 : Value} {a0 : (List Timpl_Equation)} {r : Bool} (h0 : Rd (rList Rimpl_Equation) w0 p0 a0) (hm : impl_blocksFit_m fuel a0 = some r) :
  Calls Tryz.prog 85 #[p0] w0 fun e w => e = .returned (.bool r) ∧ Heap w0 [] w := by
 unfold impl_blocksFit_m at hm
 have H := Heap.start w0
 refine enter (args := [p0]) Tryz.func85 rfl 7 rfl (Nat.le_of_ble_eq_true rfl) (fun a S => ?_)
 refine wp_seq (region_plain ?_)
 refine lq (.bool false) S (q_assign rfl) fun a S => ?_
 refine lx_nil (thenN ?_)
 refine wp_seq (region_plain ?_)
 refine lq p0 S (q_move rfl) fun a S => ?_
 obtain ⟨x33, e34, hm⟩ := bind_some hm
 refine lx_call (xs := [.tmp 3]) S trivial (by decide) rfl rfl Tryz.call105 ((impl_equationBlocks_ok (H.arg h0) e34).mono ?_)
 rintro e w31 ⟨v35, rfl, Hc32⟩
 have H := H.call1 Hc32
 refine ⟨_, rfl, trivial, fun a S => ?_⟩
 obtain ⟨x40, e41, hm⟩ := bind_some hm
 refine lx_call (xs := [.tmp 4]) S trivial (by decide) rfl rfl Tryz.call104 ((impl_last_int64_ok (H.rdAt 0 rfl) e41).mono ?_)
 rintro e w38 ⟨rfl, Hc39⟩
 have H := H.call0 Hc39
 refine ⟨_, rfl, trivial, fun a S => ?_⟩
 refine lq (.bool (decide (x40 < (9 : Int)))) S (q_lss rfl rfl) fun a S => ?_
 refine lq (.bool (decide (x40 < (9 : Int)))) S (q_assign rfl) fun a S => ?_
 refine lx_nil (thenN ?_)
 refine wp_ret ?_
 obtain rfl := Option.some.inj hm
 have H : Heap w0 [] w38 := H.sel [] (by decide)
 exact leave1 S rfl rfl ⟨rfl, H⟩

/-- impl.increasing -/
def impl_increasing_m (fuel : Nat) (a0 : (List Int)) (a1 : Int) : Option (Bool) :=
  (iter (fun (s : (Int)) => (match s with | (x55) => (if (decide (x55 < (a0.length : Int))) = true then (idx a0 x55).bind fun x89 => (impl_index_m fuel x89 a1).bind fun x96 => (if (!x96) = true then some true else (if (decide ((0 : Int) < x55)) = true then (idx a0 (W (x55 - (1 : Int)))).bind fun x105 => some (decide (x89 ≤ x105)) else some false).bind fun t102 => some t102).bind fun t99 => (if t99 = true then some (.inr (.inr false)) else some (.inl ((W (x55 + (1 : Int)))))) else some (.inr (.inl ()))) : Option (((Int)) ⊕ ((Unit) ⊕ (Bool))))) fuel ((0 : Int))).bind fun res80 => ctl (β := Unit) (ρ := Bool) (τ := Bool) res80 (fun _ => some (true)) (fun q => some (q))
set_option maxRecDepth 20000 in
theorem impl_increasing_ok {w0 : World} {fuel : Nat} {p0 : Value} {a0 : (List Int)} {a1 : Int} {r : Bool} (h0 : Rd (rList (rInt .i64)) w0 p0 a0) (hm : impl_increasing_m fuel a0 a1 = some r) :
  Calls Tryz.prog 87 #[p0, .int .i64 a1] w0 fun e w => e = .returned (.bool r) ∧ Heap w0 [] w := by
 unfold impl_increasing_m at hm
 have H := Heap.start w0
 refine enter (args := [p0, .int .i64 a1]) Tryz.func87 rfl 32 rfl (Nat.le_of_ble_eq_true rfl) (fun a S => ?_)
 refine wp_seq (region_plain ?_)
 refine lq (.bool false) S (q_assign rfl) fun a S => ?_
 refine lx_nil (thenN ?_)
 refine wp_seq (wp_seq (region_plain ?_))
 refine lq p0 S (q_move rfl) fun a S => ?_
 refine lq (.int .i64 (a0.length : Int)) S (q_lenSl rfl (h0).isSl rfl Tryz.underlying44) fun a S => ?_
 refine lq (.int .i64 (0 : Int)) S (q_move rfl) fun a S => ?_
 refine lx_nil (thenN ?_)
 obtain ⟨res80, hit81, hk84⟩ := bind_some hm
 obtain ⟨f82, hf83, hit81⟩ := iter_name hit81
 refine block_loop (fun a w => Slots a 32 [] ∧ Heap w0 [] w ∧ res80 = .inl ()) ?_ ?_
 ·rintro a w ⟨S, H, rfl⟩
  have hm := ctl_inl hk84
  refine thenN ?_
  refine wp_seq (region_plain ?_)
  refine lq (.bool true) S (q_assign rfl) fun a S => ?_
  refine lx_nil (thenN ?_)
  refine wp_ret ?_
  obtain rfl := Option.some.inj hm
  exact leave1 S rfl rfl ⟨rfl, H⟩
 ·skip
  refine loop_ghost (fun n a w => ∃ (x55 : Int), Slots a 32 [(0, p0), (1, (.int .i64 a1)), (7, p0), (8, (.int .i64 (a0.length : Int))), (9, (.int .i64 x55))] ∧ Heap w0 [] w ∧ iter f82 n (x55) = some res80) _ ⟨(0 : Int), S.sub ⟨rfl, rfl, rfl, rfl, rfl, trivial⟩, H, hit81⟩ ?_
  rintro n a w ⟨x55, S, H, hit81⟩
  obtain ⟨m85, o86, rfl, hm, hc87⟩ := iter_step hit81
  rw [hf83] at hm
  refine wp_seq (region_plain ?_)
  refine lq (.bool (decide (x55 < (a0.length : Int)))) S (q_lss rfl rfl) fun a S => ?_
  refine lx_nil (thenN ?_)
  refine wp_seq ?_
  refine cond_b S rfl (fun hc88 => ?_) (fun hc88 => ?_)
  ·have hm := ite_t hc88 hm
   refine wp_skip (thenN ?_)
   refine wp_seq ?_
   refine wp_block ?_
   refine wp_seq (region_plain ?_)
   refine lq (.int .i64 x55) S (q_move rfl) fun a S => ?_
   obtain ⟨x89, e90, hm⟩ := bind_some hm
   obtain ⟨c91, h92, hat93⟩ := (h0).elem (idx_some e90).2
   obtain rfl := h92
   have hlt := lt_of_idx (idx_some e90).2
   refine lq (ePtr p0 (x55.toNat * 1)) S (q_indexAddr rfl (h0).isSl rfl (idx_some e90).1 hlt Tryz.underlying44 Tryz.sizeOf2) fun a S => ?_
   refine lx_e (.int .i64 x89) S trivial (by decide) rfl trivial (q_load1 rfl Tryz.isAgg2 (by rintro _ rfl; exact ((hat93 0 _ rfl).ext H.ext))) (fun a S => ?_)
   refine lq (.int .i64 x55) S (q_assign rfl) fun a S => ?_
   refine lq (.int .i64 x89) S (q_assign rfl) fun a S => ?_
   refine lx_nil (thenN ?_)
   refine wp_seq (region_plain ?_)
   refine lq (.int .i64 x89) S (q_move rfl) fun a S => ?_
   refine lq (.int .i64 a1) S (q_move rfl) fun a S => ?_
   obtain ⟨x96, e97, hm⟩ := bind_some hm
   refine lx_call (xs := [.tmp 14, .tmp 15]) S trivial (by decide) rfl rfl Tryz.call71 ((impl_index_ok   e97).mono ?_)
   rintro e w94 ⟨rfl, Hc95⟩
   have H := H.call0 Hc95
   refine ⟨_, rfl, trivial, fun a S => ?_⟩
   refine lq (.bool (!x96)) S (q_not rfl) fun a S => ?_
   refine lq (.bool (!x96)) S (q_move rfl) fun a S => ?_
   obtain ⟨t99, e100, hm⟩ := bind_some hm
   refine lx_cut 12 (fun a w => Slots a 32 [(0, p0), (1, (.int .i64 a1)), (7, p0), (8, (.int .i64 (a0.length : Int))), (9, (.int .i64 x55)), (30, (.bool t99))] ∧ Heap w0 [] w) ?_ ?_
   ·by_cases hc101 : (!x96) = true
    ·have hm := ite_t hc101 e100
     refine lx_skip S rfl rfl (isB_ne hc101) (by decide) (fun a S => ?_)
     refine lx_skip S rfl rfl (isB_ne hc101) (by decide) (fun a S => ?_)
     refine lx_skip S rfl rfl (isB_ne hc101) (by decide) (fun a S => ?_)
     refine lx_skip S rfl rfl rfl (by decide) (fun a S => ?_)
     refine lx_skip S rfl rfl rfl (by decide) (fun a S => ?_)
     refine lx_skip S rfl rfl rfl (by decide) (fun a S => ?_)
     refine lx_skip S rfl rfl rfl (by decide) (fun a S => ?_)
     refine lx_skip S rfl rfl rfl (by decide) (fun a S => ?_)
     refine lx_skip S rfl rfl rfl (by decide) (fun a S => ?_)
     refine lx_skip S rfl rfl rfl (by decide) (fun a S => ?_)
     refine lx_skip S rfl rfl (isB_ne hc101) (by decide) (fun a S => ?_)
     refine lq (.bool true) S (q_pickT' rfl hc101 rfl) fun a S => ?_
     refine lx_nil ?_
     obtain rfl := Option.some.inj hm
     exact ⟨S.sub ⟨rfl, rfl, rfl, rfl, rfl, rfl, trivial⟩, H⟩
    ·have hm := ite_f (eq_false_of_ne_true hc101) e100
     have hc101 : (!x96) = false := eq_false_of_ne_true hc101
     refine lx_q (.int .i64 x55) S (want_b rfl rfl hc101) (by decide) (q_move rfl) (fun a S => ?_)
     refine lx_q (.bool (decide ((0 : Int) < x55))) S (want_b rfl rfl hc101) (by decide) (q_gtr rfl rfl) (fun a S => ?_)
     refine lx_q (.bool (decide ((0 : Int) < x55))) S (want_b rfl rfl hc101) (by decide) (q_move rfl) (fun a S => ?_)
     obtain ⟨t102, e103, hm⟩ := bind_some hm
     refine lx_cut 8 (fun a w => Slots a 32 [(0, p0), (1, (.int .i64 a1)), (7, p0), (8, (.int .i64 (a0.length : Int))), (9, (.int .i64 x55)), (18, (.bool (!x96))), (29, (.bool t102))] ∧ Heap w0 [] w) ?_ ?_
     ·by_cases hc104 : (decide ((0 : Int) < x55)) = true
      ·have hm := ite_t hc104 e103
       refine lx_q (.int .i64 x89) S (want_b rfl rfl hc104) (by decide) (q_move rfl) (fun a S => ?_)
       refine lx_q p0 S (want_b rfl rfl hc104) (by decide) (q_move rfl) (fun a S => ?_)
       refine lx_q (.int .i64 x55) S (want_b rfl rfl hc104) (by decide) (q_move rfl) (fun a S => ?_)
       refine lx_q (.int .i64 (W (x55 - (1 : Int)))) S (want_b rfl rfl hc104) (by decide) (q_sub rfl rfl) (fun a S => ?_)
       obtain ⟨x105, e106, hm⟩ := bind_some hm
       obtain ⟨c107, h108, hat109⟩ := (h0).elem (idx_some e106).2
       obtain rfl := h108
       have hlt := lt_of_idx (idx_some e106).2
       refine lx_q (ePtr p0 ((W (x55 - (1 : Int))).toNat * 1)) S (want_b rfl rfl hc104) (by decide) (q_indexAddr rfl (h0).isSl rfl (idx_some e106).1 hlt Tryz.underlying44 Tryz.sizeOf2) (fun a S => ?_)
       refine lx_e (.int .i64 x105) S (want_b rfl rfl hc104) (by decide) rfl trivial (q_load1 rfl Tryz.isAgg2 (by rintro _ rfl; exact ((hat109 0 _ rfl).ext H.ext))) (fun a S => ?_)
       refine lx_q (.bool (decide (x89 ≤ x105))) S (want_b rfl rfl hc104) (by decide) (q_leq rfl rfl) (fun a S => ?_)
       refine lx_q (.bool (decide (x89 ≤ x105))) S (want_b rfl rfl hc101) (by decide) (q_pickT' rfl hc104 rfl) (fun a S => ?_)
       refine lx_nil ?_
       obtain rfl := Option.some.inj hm
       exact ⟨S.sub ⟨rfl, rfl, rfl, rfl, rfl, rfl, rfl, trivial⟩, H⟩
      ·have hm := ite_f (eq_false_of_ne_true hc104) e103
       have hc104 : (decide ((0 : Int) < x55)) = false := eq_false_of_ne_true hc104
       refine lx_skip S rfl rfl (isB_ne hc104) (by decide) (fun a S => ?_)
       refine lx_skip S rfl rfl (isB_ne hc104) (by decide) (fun a S => ?_)
       refine lx_skip S rfl rfl (isB_ne hc104) (by decide) (fun a S => ?_)
       refine lx_skip S rfl rfl (isB_ne hc104) (by decide) (fun a S => ?_)
       refine lx_skip S rfl rfl (isB_ne hc104) (by decide) (fun a S => ?_)
       refine lx_skip S rfl rfl (isB_ne hc104) (by decide) (fun a S => ?_)
       refine lx_skip S rfl rfl (isB_ne hc104) (by decide) (fun a S => ?_)
       refine lx_q (.bool false) S (want_b rfl rfl hc101) (by decide) (q_pickF' rfl hc104 rfl) (fun a S => ?_)
       refine lx_nil ?_
       obtain rfl := Option.some.inj hm
       exact ⟨S.sub ⟨rfl, rfl, rfl, rfl, rfl, rfl, rfl, trivial⟩, H⟩
     ·rintro a w ⟨S, H⟩
      refine lq (.bool t102) S (q_pickF' rfl hc101 rfl) fun a S => ?_
      refine lx_nil ?_
      obtain rfl := Option.some.inj hm
      exact ⟨S.sub ⟨rfl, rfl, rfl, rfl, rfl, rfl, trivial⟩, H⟩
   ·rintro a w ⟨S, H⟩
    refine lx_nil (thenN ?_)
    refine cond_b S rfl (fun hc110 => ?_) (fun hc110 => ?_)
    ·have hm := ite_t hc110 hm
     refine wp_seq (region_plain ?_)
     refine lq (.bool false) S (q_assign rfl) fun a S => ?_
     refine lx_nil (thenN ?_)
     refine wp_ret (inBlock_ret ?_)
     refine then_ret ?_
     refine then_ret ?_
     refine inBlock_ret ?_
     refine then_ret ?_
     refine then_ret ?_
     obtain rfl := it_brk hm hc87
     have hm := ctl_inr hk84
     obtain rfl := Option.some.inj hm
     exact leave1 S rfl rfl ⟨rfl, H⟩
    ·have hm := ite_f hc110 hm
     refine wp_skip ?_
     refine inBlock_norm ?_
     refine thenN ?_
     refine region_plain ?_
     refine lq (.int .i64 (W (x55 + (1 : Int)))) S (q_add rfl rfl) fun a S => ?_
     refine lq (.int .i64 (W (x55 + (1 : Int)))) S (q_move rfl) fun a S => ?_
     refine lx_nil ?_
     exact ⟨m85, Nat.lt_succ_self _, (W (x55 + (1 : Int))), S.sub ⟨rfl, rfl, rfl, rfl, rfl, trivial⟩, H, it_cont hm hc87⟩
  ·have hm := ite_f hc88 hm
   refine wp_exit ?_
   refine then_exit ?_
   refine then_exit ?_
   refine inBlock_exit ?_
   obtain rfl := it_brk hm hc87
   exact ⟨S.sub trivial, H, rfl⟩

/-- impl.ValidEquations$1 -/
def impl_ValidEquations_1_m (fuel : Nat) (a0 : Timpl_Equation) (a1 : (List Timpl_Equation)) : Option (Bool) :=
  (impl_increasing_m fuel a0.2.2 (a1.length : Int)).bind fun x53 => some ((!x53))
set_option maxRecDepth 20000 in
theorem impl_ValidEquations_1_ok {w0 : World} {fuel : Nat} {p0 p1 : Value} {a0 : Timpl_Equation} {a1 : (List Timpl_Equation)} {r : Bool} (h0 : Rd Rimpl_Equation w0 p0 a0) (h1 : Rd (rPtr (rList Rimpl_Equation)) w0 p1 a1) (hm : impl_ValidEquations_1_m fuel a0 a1 = some r) :
  Calls Tryz.prog 86 #[p0, p1] w0 fun e w => e = .returned (.bool r) ∧ Heap w0 [] w := by
 unfold impl_ValidEquations_1_m at hm
 have H := Heap.start w0
 obtain ⟨c31, rfl, h32⟩ := h0
 obtain ⟨c35, c36, rfl, h37, h38⟩ := h32
 obtain rfl := h37
 obtain ⟨c39, c40, rfl, h41, h42⟩ := h38
 obtain rfl := h41
 obtain ⟨v33, rfl, h34⟩ := rd_list h42
 obtain ⟨c43, h44, hat45⟩ := h1.ptr
 obtain ⟨v46, rfl, h47⟩ := rd_list h44
 refine enter (args := [(.agg #[(.bool a0.1), (.bool a0.2.1), v33]), p1]) Tryz.func86 rfl 10 rfl (Nat.le_of_ble_eq_true rfl) (fun a S => ?_)
 refine wp_seq (region_plain ?_)
 refine lx_box S trivial (by decide) rfl H rfl rfl (fun b48 w49 H => ⟨trivial, fun a S => ?_⟩)
 refine lq (.bool false) S (q_assign rfl) fun a S => ?_
 refine lx_nil (thenN ?_)
 refine wp_seq (region_plain ?_)
 refine lq (pAdd (bp b48) 2) S (q_fieldAddr' 2 44 rfl (isP_bp _) Tryz.underlying48 rfl Tryz.sizeOf44) fun a S => ?_
 refine lx_e v33 S trivial (by decide) rfl trivial (q_load1 rfl Tryz.isAgg44 (by rintro _ rfl; exact (At.of_add (m := 2) (j := 0) (boxAt (i := 0) H rfl (j := 2) rfl)))) (fun a S => ?_)
 refine lx_e v46 S trivial (by decide) rfl trivial (q_load1 rfl Tryz.isAgg22 (by rintro _ rfl; exact ((hat45 0 _ rfl).ext H.ext))) (fun a S => ?_)
 refine lq (.int .i64 (a1.length : Int)) S (q_lenSl rfl (h47).isSl rfl Tryz.underlying22) fun a S => ?_
 obtain ⟨x53, e54, hm⟩ := bind_some hm
 refine lx_call (xs := [.tmp 5, .tmp 7]) S trivial (by decide) rfl rfl Tryz.call87 ((impl_increasing_ok (H.arg h34)  e54).mono ?_)
 rintro e w51 ⟨rfl, Hc52⟩
 have H := H.call0 Hc52
 refine ⟨_, rfl, trivial, fun a S => ?_⟩
 refine lq (.bool (!x53)) S (q_not rfl) fun a S => ?_
 refine lq (.bool (!x53)) S (q_assign rfl) fun a S => ?_
 refine lx_nil (thenN ?_)
 refine wp_ret ?_
 obtain rfl := Option.some.inj hm
 have H : Heap w0 [] w51 := H.sel [] (by decide)
 exact leave1 S rfl rfl ⟨rfl, H⟩

/-- slices.IndexFunc[[]impl.Equation,impl.Equation] -/
def slices_IndexFunc__impl_Equation_impl_Equation_m (fuel : Nat) (a0 : (List Timpl_Equation)) (a1 : (Timpl_Equation → Option Bool)) : Option (Int) :=
  (iter (fun (s : (Int)) => (match s with | (x56) => (if (decide (x56 < (a0.length : Int))) = true then (idx a0 x56).bind fun x91 => (a1 (x91.1, x91.2.1, x91.2.2)).bind fun x110 => (if x110 = true then some (.inr (.inr x56)) else some (.inl ((W (x56 + (1 : Int)))))) else some (.inr (.inl ()))) : Option (((Int)) ⊕ ((Unit) ⊕ (Int))))) fuel ((0 : Int))).bind fun res82 => ctl (β := Unit) (ρ := Int) (τ := Int) res82 (fun _ => some ((-1 : Int))) (fun q => some (q))
set_option maxRecDepth 20000 in
theorem slices_IndexFunc__impl_Equation_impl_Equation_ok {w0 : World} {fuel : Nat} {p0 : Value} {a0 : (List Timpl_Equation)} {a1 : (Timpl_Equation → Option Bool)} {f1 : Nat} {fs1 cp1 : List Value} {r : Int} (h0 : Rd (rList Rimpl_Equation) w0 p0 a0) (hcf1 : ∀ args w, (callFunc f1 args).run Tryz.prog w = .ok (.enter f1 args) w) (hf1 : ∀ {w : World} {x0_ : Timpl_Equation} {v0_ : Value} {y : Bool}, Ext w0 w → Rd Rimpl_Equation w v0_ x0_ → a1 x0_ = some y → Calls Tryz.prog f1 (fs1 ++ ([v0_] : List Value) ++ cp1).toArray w fun e w' => e = .returned (.bool y) ∧ Heap w [] w') (hm : slices_IndexFunc__impl_Equation_impl_Equation_m fuel a0 a1 = some r) :
  Calls Tryz.prog 88 #[p0, .func (.func f1) fs1.toArray cp1.toArray] w0 fun e w => e = .returned (.int .i64 r) ∧ Heap w0 [] w := by
 unfold slices_IndexFunc__impl_Equation_impl_Equation_m at hm
 have H := Heap.start w0
 refine enter (args := [p0, .func (.func f1) fs1.toArray cp1.toArray]) Tryz.func88 rfl 19 rfl (Nat.le_of_ble_eq_true rfl) (fun a S => ?_)
 refine wp_seq (region_plain ?_)
 refine lq (.int .i64 (0 : Int)) S (q_assign rfl) fun a S => ?_
 refine lx_nil (thenN ?_)
 refine wp_seq (wp_seq (region_plain ?_))
 refine lq p0 S (q_move rfl) fun a S => ?_
 refine lq (.int .i64 (a0.length : Int)) S (q_lenSl rfl (h0).isSl rfl Tryz.underlying22) fun a S => ?_
 refine lq (.int .i64 (0 : Int)) S (q_move rfl) fun a S => ?_
 refine lx_nil (thenN ?_)
 obtain ⟨res82, hit83, hk86⟩ := bind_some hm
 obtain ⟨f84, hf85, hit83⟩ := iter_name hit83
 refine block_loop (fun a w => Slots a 19 [] ∧ Heap w0 [] w ∧ res82 = .inl ()) ?_ ?_
 ·rintro a w ⟨S, H, rfl⟩
  have hm := ctl_inl hk86
  refine thenN ?_
  refine wp_seq (region_plain ?_)
  refine lq (.int .i64 (-1 : Int)) S (q_assign rfl) fun a S => ?_
  refine lx_nil (thenN ?_)
  refine wp_ret ?_
  obtain rfl := Option.some.inj hm
  exact leave1 S rfl rfl ⟨rfl, H⟩
 ·skip
  refine loop_ghost (fun n a w => ∃ (x56 : Int), Slots a 19 [(0, p0), (1, (.func (.func f1) fs1.toArray cp1.toArray)), (7, (.int .i64 (a0.length : Int))), (8, (.int .i64 x56))] ∧ Heap w0 [] w ∧ iter f84 n (x56) = some res82) _ ⟨(0 : Int), S.sub ⟨rfl, rfl, rfl, rfl, trivial⟩, H, hit83⟩ ?_
  rintro n a w ⟨x56, S, H, hit83⟩
  obtain ⟨m87, o88, rfl, hm, hc89⟩ := iter_step hit83
  rw [hf85] at hm
  refine wp_seq (region_plain ?_)
  refine lq (.bool (decide (x56 < (a0.length : Int)))) S (q_lss rfl rfl) fun a S => ?_
  refine lx_nil (thenN ?_)
  refine wp_seq ?_
  refine cond_b S rfl (fun hc90 => ?_) (fun hc90 => ?_)
  ·have hm := ite_t hc90 hm
   refine wp_skip (thenN ?_)
   refine wp_seq ?_
   refine wp_block ?_
   refine wp_seq (region_plain ?_)
   refine lq (.int .i64 x56) S (q_move rfl) fun a S => ?_
   refine lq (.int .i64 x56) S (q_assign rfl) fun a S => ?_
   refine lx_nil (thenN ?_)
   refine wp_seq (region_plain ?_)
   refine lq (.func (.func f1) fs1.toArray cp1.toArray) S (q_move rfl) fun a S => ?_
   refine lq p0 S (q_move rfl) fun a S => ?_
   refine lq (.int .i64 x56) S (q_move rfl) fun a S => ?_
   obtain ⟨x91, e92, hm⟩ := bind_some hm
   obtain ⟨c93, h94, hat95⟩ := (h0).elem (idx_some e92).2
   obtain ⟨c98, c99, rfl, h100, h101⟩ := h94
   obtain rfl := h100
   obtain ⟨c102, c103, rfl, h104, h105⟩ := h101
   obtain rfl := h104
   obtain ⟨v96, rfl, h97⟩ := rd_list h105
   have hlt := lt_of_idx (idx_some e92).2
   refine lq (ePtr p0 (x56.toNat * 3)) S (q_indexAddr rfl (h0).isSl rfl (idx_some e92).1 hlt Tryz.underlying22 Tryz.sizeOf48) fun a S => ?_
   refine lx_e (.agg #[(.bool x91.1), (.bool x91.2.1), v96]) S trivial (by decide) rfl trivial (q_loadA (cs := [(.bool x91.1), (.bool x91.2.1), v96]) rfl ((hat95 0 _ rfl).isP) Tryz.isAgg48 Tryz.sizeOf48 (by rintro _ rfl; exact (fun j u hu => (hat95 j u hu).ext H.ext))) (fun a S => ?_)
   obtain ⟨x110, e111, hm⟩ := bind_some hm
   refine lx_callV (f := f1) (first := fs1) (cap := cp1) (xs := [.tmp 15]) S trivial (by decide) rfl rfl rfl hcf1 ((hf1 H.ext ⟨[(.bool x91.1), (.bool x91.2.1), v96], rfl, ⟨[(.bool x91.1)], [(.bool x91.2.1), v96], rfl, rfl, ⟨[(.bool x91.2.1)], [v96], rfl, rfl, ((H.arg h97)).list_rd⟩⟩⟩ e111).mono ?_)
   rintro e w108 ⟨rfl, Hc109⟩
   have H := H.call0 Hc109
   refine ⟨_, rfl, trivial, fun a S => ?_⟩
   refine lx_nil (thenN ?_)
   refine cond_b S rfl (fun hc113 => ?_) (fun hc113 => ?_)
   ·have hm := ite_t hc113 hm
    refine wp_seq (region_plain ?_)
    refine lq (.int .i64 x56) S (q_move rfl) fun a S => ?_
    refine lq (.int .i64 x56) S (q_assign rfl) fun a S => ?_
    refine lx_nil (thenN ?_)
    refine wp_ret (inBlock_ret ?_)
    refine then_ret ?_
    refine then_ret ?_
    refine inBlock_ret ?_
    refine then_ret ?_
    refine then_ret ?_
    obtain rfl := it_brk hm hc89
    have hm := ctl_inr hk86
    obtain rfl := Option.some.inj hm
    exact leave1 S rfl rfl ⟨rfl, H⟩
   ·have hm := ite_f hc113 hm
    refine wp_skip ?_
    refine inBlock_norm ?_
    refine thenN ?_
    refine region_plain ?_
    refine lq (.int .i64 (W (x56 + (1 : Int)))) S (q_add rfl rfl) fun a S => ?_
    refine lq (.int .i64 (W (x56 + (1 : Int)))) S (q_move rfl) fun a S => ?_
    refine lx_nil ?_
    exact ⟨m87, Nat.lt_succ_self _, (W (x56 + (1 : Int))), S.sub ⟨rfl, rfl, rfl, rfl, trivial⟩, H, it_cont hm hc89⟩
  ·have hm := ite_f hc90 hm
   refine wp_exit ?_
   refine then_exit ?_
   refine then_exit ?_
   refine inBlock_exit ?_
   obtain rfl := it_brk hm hc89
   exact ⟨S.sub trivial, H, rfl⟩

/-- slices.ContainsFunc[[]impl.Equation,impl.Equation] -/
def slices_ContainsFunc__impl_Equation_impl_Equation_m (fuel : Nat) (a0 : (List Timpl_Equation)) (a1 : (Timpl_Equation → Option Bool)) : Option (Bool) :=
  (slices_IndexFunc__impl_Equation_impl_Equation_m fuel a0 a1).bind fun x33 => some ((decide ((0 : Int) ≤ x33)))
set_option maxRecDepth 20000 in
theorem slices_ContainsFunc__impl_Equation_impl_Equation_ok {w0 : World} {fuel : Nat} {p0 : Value} {a0 : (List Timpl_Equation)} {a1 : (Timpl_Equation → Option Bool)} {f1 : Nat} {fs1 cp1 : List Value} {r : Bool} (h0 : Rd (rList Rimpl_Equation) w0 p0 a0) (hcf1 : ∀ args w, (callFunc f1 args).run Tryz.prog w = .ok (.enter f1 args) w) (hf1 : ∀ {w : World} {x0_ : Timpl_Equation} {v0_ : Value} {y : Bool}, Ext w0 w → Rd Rimpl_Equation w v0_ x0_ → a1 x0_ = some y → Calls Tryz.prog f1 (fs1 ++ ([v0_] : List Value) ++ cp1).toArray w fun e w' => e = .returned (.bool y) ∧ Heap w [] w') (hm : slices_ContainsFunc__impl_Equation_impl_Equation_m fuel a0 a1 = some r) :
  Calls Tryz.prog 59 #[p0, .func (.func f1) fs1.toArray cp1.toArray] w0 fun e w => e = .returned (.bool r) ∧ Heap w0 [] w := by
 unfold slices_ContainsFunc__impl_Equation_impl_Equation_m at hm
 have H := Heap.start w0
 refine enter (args := [p0, .func (.func f1) fs1.toArray cp1.toArray]) Tryz.func59 rfl 9 rfl (Nat.le_of_ble_eq_true rfl) (fun a S => ?_)
 refine wp_seq (region_plain ?_)
 refine lq (.bool false) S (q_assign rfl) fun a S => ?_
 refine lx_nil (thenN ?_)
 refine wp_seq (region_plain ?_)
 refine lq p0 S (q_move rfl) fun a S => ?_
 refine lq (.func (.func f1) fs1.toArray cp1.toArray) S (q_move rfl) fun a S => ?_
 obtain ⟨x33, e34, hm⟩ := bind_some hm
 refine lx_call (xs := [.tmp 5, .tmp 6]) S trivial (by decide) rfl rfl Tryz.call88 ((slices_IndexFunc__impl_Equation_impl_Equation_ok (f1 := f1) (fs1 := fs1) (cp1 := cp1) (a1 := a1) (H.arg h0) hcf1 (fun he h0_ hm => hf1 ((H.ext).trans he) h0_ hm) e34).mono ?_)
 rintro e w31 ⟨rfl, Hc32⟩
 have H := H.call0 Hc32
 refine ⟨_, rfl, trivial, fun a S => ?_⟩
 refine lq (.bool (decide ((0 : Int) ≤ x33))) S (q_geq rfl rfl) fun a S => ?_
 refine lq (.bool (decide ((0 : Int) ≤ x33))) S (q_assign rfl) fun a S => ?_
 refine lx_nil (thenN ?_)
 refine wp_ret ?_
 obtain rfl := Option.some.inj hm
 exact leave1 S rfl rfl ⟨rfl, H⟩

/-- impl.ValidEquations -/
def impl_ValidEquations_m (fuel : Nat) (a0 : (List Timpl_Equation)) : Option (Bool) :=
  (impl_within_m fuel (a0.length : Int) (1 : Int) (120 : Int)).bind fun x36 => (if (!x36) = true then some true else (impl_blocksFit_m fuel a0).bind fun x44 => some (!x44)).bind fun t39 => (if t39 = true then some (false) else (slices_ContainsFunc__impl_Equation_impl_Equation_m fuel a0 (fun (z0 : Timpl_Equation) => impl_ValidEquations_1_m fuel z0 a0)).bind fun x50 => some ((!x50)))
set_option maxRecDepth 20000 in
theorem impl_ValidEquations_ok {w0 : World} {fuel : Nat} {p0 : Value} {a0 : (List Timpl_Equation)} {r : Bool} (h0 : Rd (rList Rimpl_Equation) w0 p0 a0) (hm : impl_ValidEquations_m fuel a0 = some r) :
  Calls Tryz.prog 58 #[p0] w0 fun e w => e = .returned (.bool r) ∧ Heap w0 [] w := by
 unfold impl_ValidEquations_m at hm
 have H := Heap.start w0
 refine enter (args := [p0]) Tryz.func58 rfl 16 rfl (Nat.le_of_ble_eq_true rfl) (fun a S => ?_)
 refine wp_seq (region_plain ?_)
 refine lx_box S trivial (by decide) rfl H rfl (cells_sl (h0).isSl) (fun b31 w32 H => ⟨trivial, fun a S => ?_⟩)
 refine lq (.bool false) S (q_assign rfl) fun a S => ?_
 refine lx_nil (thenN ?_)
 refine wp_seq (wp_seq (region_plain ?_))
 refine lx_e p0 S trivial (by decide) rfl trivial (q_load1 rfl Tryz.isAgg22 (by rintro _ rfl; exact (boxAt (i := 0) H rfl (j := 0) rfl))) (fun a S => ?_)
 refine lq (.int .i64 (a0.length : Int)) S (q_lenSl rfl (h0).isSl rfl Tryz.underlying22) fun a S => ?_
 obtain ⟨x36, e37, hm⟩ := bind_some hm
 refine lx_call (xs := [.tmp 4, .const (.int .i64 (1)), .const (.int .i64 (120))]) S trivial (by decide) rfl rfl Tryz.call68 ((impl_within_ok    e37).mono ?_)
 rintro e w34 ⟨rfl, Hc35⟩
 have H := H.call0 Hc35
 refine ⟨_, rfl, trivial, fun a S => ?_⟩
 refine lq (.bool (!x36)) S (q_not rfl) fun a S => ?_
 refine lq (.bool (!x36)) S (q_move rfl) fun a S => ?_
 obtain ⟨t39, e40, hm⟩ := bind_some hm
 refine lx_cut 4 (fun a w => Slots a 16 [(1, (bp b31)), (11, (.bool t39))] ∧ Heap w0 [bA b31 [p0] 22] w) ?_ ?_
 ·by_cases hc41 : (!x36) = true
  ·have hm := ite_t hc41 e40
   refine lx_skip S rfl rfl (isB_ne hc41) (by decide) (fun a S => ?_)
   refine lx_skip S rfl rfl (isB_ne hc41) (by decide) (fun a S => ?_)
   refine lx_skip S rfl rfl (isB_ne hc41) (by decide) (fun a S => ?_)
   refine lq (.bool true) S (q_pickT' rfl hc41 rfl) fun a S => ?_
   refine lx_nil ?_
   obtain rfl := Option.some.inj hm
   exact ⟨S.sub ⟨rfl, rfl, trivial⟩, H⟩
  ·have hm := ite_f (eq_false_of_ne_true hc41) e40
   have hc41 : (!x36) = false := eq_false_of_ne_true hc41
   refine lx_e p0 S (want_b rfl rfl hc41) (by decide) rfl trivial (q_load1 rfl Tryz.isAgg22 (by rintro _ rfl; exact (boxAt (i := 0) H rfl (j := 0) rfl))) (fun a S => ?_)
   obtain ⟨x44, e45, hm⟩ := bind_some hm
   refine lx_call (xs := [.tmp 8]) S (want_b rfl rfl hc41) (by decide) rfl rfl Tryz.call85 ((impl_blocksFit_ok (H.arg h0) e45).mono ?_)
   rintro e w42 ⟨rfl, Hc43⟩
   have H := H.call0 Hc43
   refine ⟨_, rfl, trivial, fun a S => ?_⟩
   refine lx_q (.bool (!x44)) S (want_b rfl rfl hc41) (by decide) (q_not rfl) (fun a S => ?_)
   refine lq (.bool (!x44)) S (q_pickF' rfl hc41 rfl) fun a S => ?_
   refine lx_nil ?_
   obtain rfl := Option.some.inj hm
   exact ⟨S.sub ⟨rfl, rfl, trivial⟩, H⟩
 ·rintro a w ⟨S, H⟩
  refine lx_nil (thenN ?_)
  refine cond_b S rfl (fun hc47 => ?_) (fun hc47 => ?_)
  ·have hm := ite_t hc47 hm
   refine wp_seq (region_plain ?_)
   refine lq (.bool false) S (q_assign rfl) fun a S => ?_
   refine lx_nil (thenN ?_)
   refine wp_ret (then_ret ?_)
   obtain rfl := Option.some.inj hm
   have H : Heap w0 [] w := H.sel [] (by decide)
   exact leave1 S rfl rfl ⟨rfl, H⟩
  ·have hm := ite_f hc47 hm
   refine wp_skip (thenN ?_)
   refine wp_seq (region_plain ?_)
   refine lx_e p0 S trivial (by decide) rfl trivial (q_load1 rfl Tryz.isAgg22 (by rintro _ rfl; exact (boxAt (i := 0) H rfl (j := 0) rfl))) (fun a S => ?_)
   refine lq (.func (.func 86) #[] #[(bp b31)]) S (q_makeFunc (xs := []) (ys := [.tmp 1]) rfl rfl) fun a S => ?_
   obtain ⟨x50, e51, hm⟩ := bind_some hm
   have hcap52 : Rd (rPtr (rList Rimpl_Equation)) w (bp b31) a0 := (rdPtr_box H 0 rfl ((H.arg h0)).list_rd)
   refine lx_call (xs := [.tmp 12, .tmp 13]) S trivial (by decide) rfl rfl Tryz.call59 ((slices_ContainsFunc__impl_Equation_impl_Equation_ok (f1 := 86) (fs1 := ([] : List Value)) (cp1 := ([(bp b31)] : List Value)) (a1 := (fun (z0 : Timpl_Equation) => impl_ValidEquations_1_m fuel z0 a0)) (H.arg h0) Tryz.call86 (fun he h0_ hm => impl_ValidEquations_1_ok  h0_ (hcap52.ext he) hm) e51).mono ?_)
   rintro e w48 ⟨rfl, Hc49⟩
   have H := H.call0 Hc49
   refine ⟨_, rfl, trivial, fun a S => ?_⟩
   refine lq (.bool (!x50)) S (q_not rfl) fun a S => ?_
   refine lq (.bool (!x50)) S (q_assign rfl) fun a S => ?_
   refine lx_nil (thenN ?_)
   refine wp_ret ?_
   obtain rfl := Option.some.inj hm
   have H : Heap w0 [] w48 := H.sel [] (by decide)
   exact leave1 S rfl rfl ⟨rfl, H⟩

/-- impl.EquationsText$1 -/
def impl_EquationsText_1_m (_ : Nat) (a0 : Timpl_Equation) : Option (Bool) :=
  some ((decide ((64 : Int) < (a0.2.2.length : Int))))
set_option maxRecDepth 20000 in
theorem impl_EquationsText_1_ok {w0 : World} {fuel : Nat} {p0 : Value} {a0 : Timpl_Equation} {r : Bool} (h0 : Rd Rimpl_Equation w0 p0 a0) (hm : impl_EquationsText_1_m fuel a0 = some r) :
  Calls Tryz.prog 60 #[p0] w0 fun e w => e = .returned (.bool r) ∧ Heap w0 [] w := by
 unfold impl_EquationsText_1_m at hm
 have H := Heap.start w0
 obtain ⟨c31, rfl, h32⟩ := h0
 obtain ⟨c35, c36, rfl, h37, h38⟩ := h32
 obtain rfl := h37
 obtain ⟨c39, c40, rfl, h41, h42⟩ := h38
 obtain rfl := h41
 obtain ⟨v33, rfl, h34⟩ := rd_list h42
 refine enter (args := [(.agg #[(.bool a0.1), (.bool a0.2.1), v33])]) Tryz.func60 rfl 7 rfl (Nat.le_of_ble_eq_true rfl) (fun a S => ?_)
 refine wp_seq (region_plain ?_)
 refine lx_box S trivial (by decide) rfl H rfl rfl (fun b43 w44 H => ⟨trivial, fun a S => ?_⟩)
 refine lq (.bool false) S (q_assign rfl) fun a S => ?_
 refine lx_nil (thenN ?_)
 refine wp_seq (region_plain ?_)
 refine lq (pAdd (bp b43) 2) S (q_fieldAddr' 2 44 rfl (isP_bp _) Tryz.underlying48 rfl Tryz.sizeOf44) fun a S => ?_
 refine lx_e v33 S trivial (by decide) rfl trivial (q_load1 rfl Tryz.isAgg44 (by rintro _ rfl; exact (At.of_add (m := 2) (j := 0) (boxAt (i := 0) H rfl (j := 2) rfl)))) (fun a S => ?_)
 refine lq (.int .i64 (a0.2.2.length : Int)) S (q_lenSl rfl (h34).isSl rfl Tryz.underlying44) fun a S => ?_
 refine lq (.bool (decide ((64 : Int) < (a0.2.2.length : Int)))) S (q_gtr rfl rfl) fun a S => ?_
 refine lq (.bool (decide ((64 : Int) < (a0.2.2.length : Int)))) S (q_assign rfl) fun a S => ?_
 refine lx_nil (thenN ?_)
 refine wp_ret ?_
 obtain rfl := Option.some.inj hm
 have H : Heap w0 [] w44 := H.sel [] (by decide)
 exact leave1 S rfl rfl ⟨rfl, H⟩

/-- impl.ListText -/
def impl_ListText_m (fuel : Nat) (a0 : (List Int)) : Option (Str) :=
  (impl_listOk_m fuel a0).bind fun x33 => (if (!x33) = true then some (([] : Str)) else (if ((a0.length : Int) == (0 : Int)) = true then some (([45] : Str)) else (impl_joined_m fuel a0 ([44] : Str)).bind fun x40 => some (x40)))
set_option maxRecDepth 20000 in
theorem impl_ListText_ok {w0 : World} {fuel : Nat} {p0 : Value} {a0 : (List Int)} {r : Str} (hG : Glob Tryz.prog w0) (h0 : Rd (rList (rInt .i64)) w0 p0 a0) (hm : impl_ListText_m fuel a0 = some r) :
  Calls Tryz.prog 61 #[p0] w0 fun e w => e = .returned (sv r) ∧ Heap w0 [] w := by
 unfold impl_ListText_m at hm
 have H := Heap.start w0
 refine enter (args := [p0]) Tryz.func61 rfl 13 rfl (Nat.le_of_ble_eq_true rfl) (fun a S => ?_)
 refine wp_seq (region_plain ?_)
 refine lq (sv ([] : Str)) S (q_assign rfl) fun a S => ?_
 refine lx_nil (thenN ?_)
 refine wp_seq ?_
 refine wp_block ?_
 refine wp_seq (region_plain ?_)
 refine lq p0 S (q_move rfl) fun a S => ?_
 obtain ⟨x33, e34, hm⟩ := bind_some hm
 refine lx_call (xs := [.tmp 4]) S trivial (by decide) rfl rfl Tryz.call57 ((impl_listOk_ok (H.arg h0) e34).mono ?_)
 rintro e w31 ⟨rfl, Hc32⟩
 have H := H.call0 Hc32
 refine ⟨_, rfl, trivial, fun a S => ?_⟩
 refine lq (.bool (!x33)) S (q_not rfl) fun a S => ?_
 refine lq (.bool (!x33)) S (q_assign rfl) fun a S => ?_
 refine lx_nil (thenN ?_)
 refine cond_b S rfl (fun hc36 => ?_) (fun hc36 => ?_)
 ·have hm := ite_t hc36 hm
  refine wp_seq (region_plain ?_)
  refine lq (sv ([] : Str)) S (q_assign rfl) fun a S => ?_
  refine lx_nil (thenN ?_)
  refine wp_ret (inBlock_ret ?_)
  refine then_ret ?_
  obtain rfl := Option.some.inj hm
  exact leave1 S rfl rfl ⟨rfl, H⟩
 ·have hm := ite_f hc36 hm
  refine wp_seq (region_plain ?_)
  refine lq p0 S (q_move rfl) fun a S => ?_
  refine lq (.int .i64 (a0.length : Int)) S (q_lenSl rfl (h0).isSl rfl Tryz.underlying44) fun a S => ?_
  refine lq (.bool ((a0.length : Int) == (0 : Int))) S (q_eql rfl rfl) fun a S => ?_
  refine lq (.bool ((a0.length : Int) == (0 : Int))) S (q_assign rfl) fun a S => ?_
  refine lx_nil (thenN ?_)
  refine cond_b S rfl (fun hc37 => ?_) (fun hc37 => ?_)
  ·have hm := ite_t hc37 hm
   refine wp_seq (region_plain ?_)
   refine lq (sv ([45] : Str)) S (q_assign rfl) fun a S => ?_
   refine lx_nil (thenN ?_)
   refine wp_ret (inBlock_ret ?_)
   refine then_ret ?_
   obtain rfl := Option.some.inj hm
   exact leave1 S rfl rfl ⟨rfl, H⟩
  ·have hm := ite_f hc37 hm
   refine wp_skip ?_
   refine inBlock_norm ?_
   refine thenN ?_
   refine wp_seq (region_plain ?_)
   refine lq p0 S (q_move rfl) fun a S => ?_
   obtain ⟨x40, e41, hm⟩ := bind_some hm
   refine lx_call (xs := [.tmp 11, .const (sv [44])]) S trivial (by decide) rfl rfl Tryz.call38 ((impl_joined_ok (hG.ext H.ext) (H.arg h0)  e41).mono ?_)
   rintro e w38 ⟨rfl, Hc39⟩
   have H := H.call0 Hc39
   refine ⟨_, rfl, trivial, fun a S => ?_⟩
   refine lq (sv x40) S (q_assign rfl) fun a S => ?_
   refine lx_nil (thenN ?_)
   refine wp_ret ?_
   obtain rfl := Option.some.inj hm
   exact leave1 S rfl rfl ⟨rfl, H⟩

/-- impl.EquationsText -/
def impl_EquationsText_m (fuel : Nat) (a0 : (List Timpl_Equation)) : Option (Str) :=
  (impl_ValidEquations_m fuel a0).bind fun x33 => (if (!x33) = true then some true else (slices_ContainsFunc__impl_Equation_impl_Equation_m fuel a0 (fun (z0 : Timpl_Equation) => impl_EquationsText_1_m fuel z0)).bind fun x41 => some x41).bind fun t36 => (if t36 = true then some (([] : Str)) else (iter (fun (s : (List Str) × (Int)) => (match s with | (xs100, x102) => (if (decide (x102 < (a0.length : Int))) = true then (idx a0 x102).bind fun x174 => join (κ := Str → Option (((List Str) × (Int)) ⊕ (((List Str)) ⊕ (Str)))) (fun (x193 : Str) => join (κ := Str → Option (((List Str) × (Int)) ⊕ (((List Str)) ⊕ (Str)))) (fun (x196 : Str) => (cat x193 ([32] : Str)).bind fun x199 => (cat x199 x196).bind fun x201 => (cat x201 ([32] : Str)).bind fun x203 => (impl_ListText_m fuel x174.2.2).bind fun x207 => (cat x203 x207).bind fun x210 => (app xs100 [x210]).bind fun x215 => some (.inl (x215, (W (x102 + (1 : Int)))))) (fun K197 => (if x174.2.1 = true then (K197 ([97, 108, 108] : Str)) else (K197 ([97, 110, 121] : Str))))) (fun K194 => (if x174.1 = true then (K194 ([110, 117] : Str)) else (K194 ([109, 117] : Str)))) else some (.inr (.inl (xs100)))) : Option (((List Str) × (Int)) ⊕ (((List Str)) ⊕ (Str))))) fuel ([], (0 : Int))).bind fun res159 => ctl (β := (List Str)) (ρ := Str) (τ := Str) res159 (fun (xs157) => (strings_Join_m fuel xs157 ([10] : Str)).bind fun x166 => some (x166)) (fun q => some (q)))
set_option maxRecDepth 20000 in
theorem impl_EquationsText_ok {w0 : World} {fuel : Nat} {p0 : Value} {a0 : (List Timpl_Equation)} {r : Str} (hG : Glob Tryz.prog w0) (h0 : Rd (rList Rimpl_Equation) w0 p0 a0) (hm : impl_EquationsText_m fuel a0 = some r) :
  Calls Tryz.prog 27 #[p0] w0 fun e w => e = .returned (sv r) ∧ Heap w0 [] w := by
 unfold impl_EquationsText_m at hm
 have H := Heap.start w0
 refine enter (args := [p0]) Tryz.func27 rfl 40 rfl (Nat.le_of_ble_eq_true rfl) (fun a S => ?_)
 refine wp_seq (region_plain ?_)
 refine lq (sv ([] : Str)) S (q_assign rfl) fun a S => ?_
 refine lx_nil (thenN ?_)
 refine wp_seq (wp_seq (region_plain ?_))
 refine lq p0 S (q_move rfl) fun a S => ?_
 obtain ⟨x33, e34, hm⟩ := bind_some hm
 refine lx_call (xs := [.tmp 8]) S trivial (by decide) rfl rfl Tryz.call58 ((impl_ValidEquations_ok (H.arg h0) e34).mono ?_)
 rintro e w31 ⟨rfl, Hc32⟩
 have H := H.call0 Hc32
 refine ⟨_, rfl, trivial, fun a S => ?_⟩
 refine lq (.bool (!x33)) S (q_not rfl) fun a S => ?_
 refine lq (.bool (!x33)) S (q_move rfl) fun a S => ?_
 obtain ⟨t36, e37, hm⟩ := bind_some hm
 refine lx_cut 3 (fun a w => Slots a 40 [(0, p0), (14, (.bool t36))] ∧ Heap w0 [] w) ?_ ?_
 ·by_cases hc38 : (!x33) = true
  ·have hm := ite_t hc38 e37
   refine lx_skip S rfl rfl (isB_ne hc38) (by decide) (fun a S => ?_)
   refine lx_skip S rfl rfl (isB_ne hc38) (by decide) (fun a S => ?_)
   refine lq (.bool true) S (q_pickT' rfl hc38 rfl) fun a S => ?_
   refine lx_nil ?_
   obtain rfl := Option.some.inj hm
   exact ⟨S.sub ⟨rfl, rfl, trivial⟩, H⟩
  ·have hm := ite_f (eq_false_of_ne_true hc38) e37
   have hc38 : (!x33) = false := eq_false_of_ne_true hc38
   refine lx_q p0 S (want_b rfl rfl hc38) (by decide) (q_move rfl) (fun a S => ?_)
   obtain ⟨x41, e42, hm⟩ := bind_some hm
   refine lx_call (xs := [.tmp 12, .func 60]) S (want_b rfl rfl hc38) (by decide) rfl rfl Tryz.call59 ((slices_ContainsFunc__impl_Equation_impl_Equation_ok (f1 := 60) (fs1 := ([] : List Value)) (cp1 := ([] : List Value)) (a1 := (fun (z0 : Timpl_Equation) => impl_EquationsText_1_m fuel z0)) (H.arg h0) Tryz.call60 (fun he h0_ hm => impl_EquationsText_1_ok  h0_  hm) e42).mono ?_)
   rintro e w39 ⟨rfl, Hc40⟩
   have H := H.call0 Hc40
   refine ⟨_, rfl, trivial, fun a S => ?_⟩
   refine lq (.bool x41) S (q_pickF' rfl hc38 rfl) fun a S => ?_
   refine lx_nil ?_
   obtain rfl := Option.some.inj hm
   exact ⟨S.sub ⟨rfl, rfl, trivial⟩, H⟩
 ·rintro a w ⟨S, H⟩
  refine lx_nil (thenN ?_)
  refine cond_b S rfl (fun hc44 => ?_) (fun hc44 => ?_)
  ·have hm := ite_t hc44 hm
   refine wp_seq (region_plain ?_)
   refine lq (sv ([] : Str)) S (q_assign rfl) fun a S => ?_
   refine lx_nil (thenN ?_)
   refine wp_ret (then_ret ?_)
   obtain rfl := Option.some.inj hm
   exact leave1 S rfl rfl ⟨rfl, H⟩
  ·have hm := ite_f hc44 hm
   refine wp_skip (thenN ?_)
   refine wp_seq (region_plain ?_)
   refine lq (.slice none 0 0) S (q_assign rfl) fun a S => ?_
   refine lx_nil (thenN ?_)
   refine wp_seq (wp_seq (region_plain ?_))
   refine lq p0 S (q_move rfl) fun a S => ?_
   refine lq (.int .i64 (a0.length : Int)) S (q_lenSl rfl (h0).isSl rfl Tryz.underlying22) fun a S => ?_
   refine lq (.int .i64 (0 : Int)) S (q_move rfl) fun a S => ?_
   refine lx_nil (thenN ?_)
   obtain ⟨res159, hit160, hk163⟩ := bind_some hm
   obtain ⟨f161, hf162, hit160⟩ := iter_name hit160
   refine block_loop (fun a w => ∃ (xs157 : List Str) (v156 : Value), Slots a 40 [(3, v156)] ∧ Heap w0 [oA (rList rStr) v156 xs157] w ∧ res159 = .inl (xs157)) ?_ ?_
   ·rintro a w ⟨xs157, v156, S, H, rfl⟩
    have hm := ctl_inl hk163
    refine thenN ?_
    refine wp_seq (region_plain ?_)
    refine lq v156 S (q_move rfl) fun a S => ?_
    obtain ⟨x166, e167, hm⟩ := bind_some hm
    refine lx_call (xs := [.tmp 38, .const (sv [10])]) S trivial (by decide) rfl rfl Tryz.call62 ((strings_Join_ok (H.rdAt 0 rfl)  e167).mono ?_)
    rintro e w164 ⟨rfl, Hc165⟩
    have H := H.call0 Hc165
    refine ⟨_, rfl, trivial, fun a S => ?_⟩
    refine lq (sv x166) S (q_assign rfl) fun a S => ?_
    refine lx_nil (thenN ?_)
    refine wp_ret ?_
    obtain rfl := Option.some.inj hm
    have H : Heap w0 [] w164 := H.sel [] (by decide)
    exact leave1 S rfl rfl ⟨rfl, H⟩
   ·skip
    have H : Heap w0 [oA (rList rStr) (.slice none 0 0) ([] : List Str)] w := H.nilList rStr
    refine loop_ghost (fun n a w => ∃ (xs100 : List Str) (x102 : Int) (v99 : Value), Slots a 40 [(3, v99), (15, p0), (16, (.int .i64 (a0.length : Int))), (17, (.int .i64 x102))] ∧ Heap w0 [oA (rList rStr) v99 xs100] w ∧ iter f161 n (xs100, x102) = some res159) _ ⟨[], (0 : Int), (.slice none 0 0), S.sub ⟨rfl, rfl, rfl, rfl, trivial⟩, H, hit160⟩ ?_
    rintro n a w ⟨xs100, x102, v99, S, H, hit160⟩
    obtain ⟨m170, o171, rfl, hm, hc172⟩ := iter_step hit160
    rw [hf162] at hm
    refine wp_seq (region_plain ?_)
    refine lq (.bool (decide (x102 < (a0.length : Int)))) S (q_lss rfl rfl) fun a S => ?_
    refine lx_nil (thenN ?_)
    refine wp_seq ?_
    refine cond_b S rfl (fun hc173 => ?_) (fun hc173 => ?_)
    ·have hm := ite_t hc173 hm
     refine wp_skip (thenN ?_)
     refine wp_seq ?_
     refine wp_block ?_
     refine wp_seq (region_plain ?_)
     obtain ⟨x174, e175, hm⟩ := bind_some hm
     obtain ⟨c176, h177, hat178⟩ := (h0).elem (idx_some e175).2
     obtain ⟨c181, c182, rfl, h183, h184⟩ := h177
     obtain rfl := h183
     obtain ⟨c185, c186, rfl, h187, h188⟩ := h184
     obtain rfl := h187
     obtain ⟨v179, rfl, h180⟩ := rd_list h188
     have hlt := lt_of_idx (idx_some e175).2
     refine lq (ePtr p0 (x102.toNat * 3)) S (q_indexAddr rfl (h0).isSl rfl (idx_some e175).1 hlt Tryz.underlying22 Tryz.sizeOf48) fun a S => ?_
     refine lx_e (.agg #[(.bool x174.1), (.bool x174.2.1), v179]) S trivial (by decide) rfl trivial (q_loadA (cs := [(.bool x174.1), (.bool x174.2.1), v179]) rfl ((hat178 0 _ rfl).isP) Tryz.isAgg48 Tryz.sizeOf48 (by rintro _ rfl; exact (fun j u hu => (hat178 j u hu).ext H.ext))) (fun a S => ?_)
     refine lx_alloc S trivial (by decide) rfl H Tryz.zeroValue48 rfl (fun b189 w190 H => ⟨trivial, fun a S => ?_⟩)
     refine lx_storeBox (o := 0) (i := 0) (us := [(.bool x174.1), (.bool x174.2.1), v179]) (cs' := [(.bool x174.1), (.bool x174.2.1), v179]) S trivial rfl H rfl rfl rfl rfl Tryz.sizeOf48 (Nat.le_of_ble_eq_true rfl) (List.forall_mem_cons.2 ⟨rfl, (List.forall_mem_cons.2 ⟨rfl, (List.forall_mem_cons.2 ⟨one_sl (h180).isSl, (fun _ h => nomatch h)⟩)⟩)⟩) rfl (fun w192 H => ⟨trivial, fun a S => ?_⟩)
     change Heap w0 [bA b189 [(.bool x174.1), (.bool x174.2.1), v179] 48, oA (rList rStr) v99 xs100] w192 at H
     refine lx_nil (thenN ?_)
     refine wp_seq (region_plain ?_)
     refine lq (sv ([109, 117] : Str)) S (q_assign rfl) fun a S => ?_
     refine lq (sv ([97, 110, 121] : Str)) S (q_assign rfl) fun a S => ?_
     refine lx_nil (thenN ?_)
     obtain ⟨K194, hK195, hm⟩ := join_elim hm
     refine seq_cut (fun a w => ∃ (x193 : Str), Slots a 40 [(3, v99), (5, (bp b189)), (6, (sv x193)), (7, (sv ([97, 110, 121] : Str))), (15, p0), (16, (.int .i64 (a0.length : Int))), (17, (.int .i64 x102))] ∧ Heap w0 [oA (rList rStr) v99 xs100, bA b189 [(.bool x174.1), (.bool x174.2.1), v179] 48] w ∧ K194 x193 = some o171) ?_ ?_
     ·rintro a w ⟨x193, S, H, hm⟩
      subst hK195
      obtain ⟨K197, hK198, hm⟩ := join_elim hm
      refine seq_cut (fun a w => ∃ (x196 : Str), Slots a 40 [(3, v99), (5, (bp b189)), (6, (sv x193)), (7, (sv x196)), (15, p0), (16, (.int .i64 (a0.length : Int))), (17, (.int .i64 x102))] ∧ Heap w0 [oA (rList rStr) v99 xs100, bA b189 [(.bool x174.1), (.bool x174.2.1), v179] 48] w ∧ K197 x196 = some o171) ?_ ?_
      ·rintro a w ⟨x196, S, H, hm⟩
       subst hK198
       refine region_plain ?_
       refine lq v99 S (q_move rfl) fun a S => ?_
       refine lq (sv x193) S (q_move rfl) fun a S => ?_
       obtain ⟨x199, e200, hm⟩ := bind_some hm
       obtain ⟨hle, hcat⟩ := cat_some e200
       subst hcat
       refine lq (sv (x193 ++ ([32] : Str))) S (q_cat rfl rfl hle) fun a S => ?_
       refine lq (sv x196) S (q_move rfl) fun a S => ?_
       obtain ⟨x201, e202, hm⟩ := bind_some hm
       obtain ⟨hle, hcat⟩ := cat_some e202
       subst hcat
       refine lq (sv ((x193 ++ ([32] : Str)) ++ x196)) S (q_cat rfl rfl hle) fun a S => ?_
       obtain ⟨x203, e204, hm⟩ := bind_some hm
       obtain ⟨hle, hcat⟩ := cat_some e204
       subst hcat
       refine lq (sv (((x193 ++ ([32] : Str)) ++ x196) ++ ([32] : Str))) S (q_cat rfl rfl hle) fun a S => ?_
       refine lq (pAdd (bp b189) 2) S (q_fieldAddr' 2 44 rfl (isP_bp _) Tryz.underlying48 rfl Tryz.sizeOf44) fun a S => ?_
       refine lx_e v179 S trivial (by decide) rfl trivial (q_load1 rfl Tryz.isAgg44 (by rintro _ rfl; exact (At.of_add (m := 2) (j := 0) (boxAt (i := 1) H rfl (j := 2) rfl)))) (fun a S => ?_)
       obtain ⟨x207, e208, hm⟩ := bind_some hm
       refine lx_call (xs := [.tmp 32]) S trivial (by decide) rfl rfl Tryz.call61 ((impl_ListText_ok (hG.ext H.ext) (H.arg h180) e208).mono ?_)
       rintro e w205 ⟨rfl, Hc206⟩
       have H := H.call0 Hc206
       refine ⟨_, rfl, trivial, fun a S => ?_⟩
       obtain ⟨x210, e211, hm⟩ := bind_some hm
       obtain ⟨hle, hcat⟩ := cat_some e211
       subst hcat
       refine lq (sv ((((x193 ++ ([32] : Str)) ++ x196) ++ ([32] : Str)) ++ x207)) S (q_cat rfl rfl hle) fun a S => ?_
       refine lx_buildSlice (r := rStr) (xs := [((((x193 ++ ([32] : Str)) ++ x196) ++ ([32] : Str)) ++ x207)]) (ps := [(0, [(sv ((((x193 ++ ([32] : Str)) ++ x196) ++ ([32] : Str)) ++ x207))])]) (cs := [(sv ((((x193 ++ ([32] : Str)) ++ x196) ++ ([32] : Str)) ++ x207))]) (parts := [(0, .tmp 34)]) S trivial (by decide) rfl (H.put0 (A := eA) rfl) rfl Tryz.underlying28 Tryz.sizeOf9 Tryz.zeroValue9 (by decide) ⟨rfl, rfl, Nat.le_of_ble_eq_true rfl, trivial⟩ (by intro zs hz; exact fill_dense hz ⟨rfl, trivial⟩ rfl rfl) rfl (by decide) (fun w F hA => by cases (show F = [] from hA); exact ⟨_, _, [(sv ((((x193 ++ ([32] : Str)) ++ x196) ++ ([32] : Str)) ++ x207))], _, rfl, rfl, ⟨rfl, rfl⟩, ⟨rfl, rfl⟩⟩) (fun v212 w213 H => ⟨trivial, fun a S => ?_⟩)
       obtain ⟨x215, e216, hm⟩ := bind_some hm
       obtain ⟨hle, hap⟩ := app_some e216
       replace hap := hap.symm
       subst hap
       have H : Heap w0 [oA (rList rStr) v212 [((((x193 ++ ([32] : Str)) ++ x196) ++ ([32] : Str)) ++ x207)], oA (rList rStr) v99 xs100, bA b189 [(.bool x174.1), (.bool x174.2.1), v179] 48] w213 := H.front 0 rfl
       have H : Heap w0 [oA (rList rStr) v99 xs100, oA (rList rStr) v212 [((((x193 ++ ([32] : Str)) ++ x196) ++ ([32] : Str)) ++ x207)], bA b189 [(.bool x174.1), (.bool x174.2.1), v179] 48] w213 := H.front 1 rfl
       refine lx_appendOwn (r := rStr) S trivial (by decide) rfl H rfl rfl Tryz.underlying28 Tryz.ti9 rfl rfl rfl (Nat.le_of_ble_eq_true rfl) (by decide) hle (fun v217 w218 H => ⟨trivial, fun a S => ?_⟩)
       refine lq v217 S (q_assign rfl) fun a S => ?_
       refine lx_nil ?_
       refine inBlock_norm ?_
       refine thenN ?_
       refine region_plain ?_
       refine lq (.int .i64 (W (x102 + (1 : Int)))) S (q_add rfl rfl) fun a S => ?_
       refine lq (.int .i64 (W (x102 + (1 : Int)))) S (q_move rfl) fun a S => ?_
       refine lx_nil ?_
       have H : Heap w0 [oA (rList rStr) v217 (xs100 ++ [((((x193 ++ ([32] : Str)) ++ x196) ++ ([32] : Str)) ++ x207)])] w218 := H.sel [0] (by decide)
       exact ⟨m170, Nat.lt_succ_self _, (xs100 ++ [((((x193 ++ ([32] : Str)) ++ x196) ++ ([32] : Str)) ++ x207)]), (W (x102 + (1 : Int))), v217, S.sub ⟨rfl, rfl, rfl, rfl, trivial⟩, H, it_cont hm hc172⟩
      ·skip
       refine wp_seq (region_plain ?_)
       refine lq (pAdd (bp b189) 1) S (q_fieldAddr' 1 4 rfl (isP_bp _) Tryz.underlying48 rfl Tryz.sizeOf4) fun a S => ?_
       refine lx_e (.bool x174.2.1) S trivial (by decide) rfl trivial (q_load1 rfl Tryz.isAgg4 (by rintro _ rfl; exact (At.of_add (m := 1) (j := 0) (boxAt (i := 1) H rfl (j := 1) rfl)))) (fun a S => ?_)
       refine lx_nil (thenN ?_)
       refine cond_b S rfl (fun hc220 => ?_) (fun hc220 => ?_)
       ·have hm := ite_t hc220 hm
        refine region_plain ?_
        refine lq (sv ([97, 108, 108] : Str)) S (q_assign rfl) fun a S => ?_
        refine lx_nil ?_
        exact ⟨([97, 108, 108] : Str), S.sub ⟨rfl, rfl, rfl, rfl, rfl, rfl, rfl, trivial⟩, H, hm⟩
       ·have hm := ite_f hc220 hm
        refine wp_skip ?_
        exact ⟨([97, 110, 121] : Str), S.sub ⟨rfl, rfl, rfl, rfl, rfl, rfl, rfl, trivial⟩, H, hm⟩
     ·skip
      refine wp_seq (region_plain ?_)
      refine lq (pAdd (bp b189) 0) S (q_fieldAddr' 0 4 rfl (isP_bp _) Tryz.underlying48 rfl Tryz.sizeOf4) fun a S => ?_
      refine lx_e (.bool x174.1) S trivial (by decide) rfl trivial (q_load1 rfl Tryz.isAgg4 (by rintro _ rfl; exact (At.of_add (m := 0) (j := 0) (boxAt (i := 0) H rfl (j := 0) rfl)))) (fun a S => ?_)
      refine lx_nil (thenN ?_)
      refine cond_b S rfl (fun hc221 => ?_) (fun hc221 => ?_)
      ·have hm := ite_t hc221 hm
       refine region_plain ?_
       refine lq (sv ([110, 117] : Str)) S (q_assign rfl) fun a S => ?_
       refine lx_nil ?_
       have H : Heap w0 [oA (rList rStr) v99 xs100, bA b189 [(.bool x174.1), (.bool x174.2.1), v179] 48] w192 := H.front 1 rfl
       exact ⟨([110, 117] : Str), S.sub ⟨rfl, rfl, rfl, rfl, rfl, rfl, rfl, trivial⟩, H, hm⟩
      ·have hm := ite_f hc221 hm
       refine wp_skip ?_
       have H : Heap w0 [oA (rList rStr) v99 xs100, bA b189 [(.bool x174.1), (.bool x174.2.1), v179] 48] w192 := H.front 1 rfl
       exact ⟨([109, 117] : Str), S.sub ⟨rfl, rfl, rfl, rfl, rfl, rfl, rfl, trivial⟩, H, hm⟩
    ·have hm := ite_f hc173 hm
     refine wp_exit ?_
     refine then_exit ?_
     refine then_exit ?_
     refine inBlock_exit ?_
     obtain rfl := it_brk hm hc172
     exact ⟨xs100, v99, S.sub ⟨rfl, trivial⟩, H, rfl⟩

/-- impl.ReadEquations -/
def impl_ReadEquations_m (fuel : Nat) (a0 : Str) : Option (((List Timpl_Equation) × Bool)) :=
  (strings_Split_m fuel a0 ([10] : Str)).bind fun x33 => (iter (fun (s : (List Timpl_Equation) × (Int)) => (match s with | (xs85, x87) => (if (decide (x87 < (x33.length : Int))) = true then (idx x33 x87).bind fun x153 => (strings_Split_m fuel x153 ([32] : Str)).bind fun x160 => (if ((x160.length : Int) != (3 : Int)) = true then some (.inr (.inr ([], false))) else (idx x160 (2 : Int)).bind fun x167 => (impl_ReadList_m fuel x167).bind fun x174 => (if (!x174.2) = true then some (.inr (.inr ([], false))) else (idx x160 (0 : Int)).bind fun x183 => (idx x160 (1 : Int)).bind fun x185 => (app xs85 [((x183 == ([110, 117] : Str)), (x185 == ([97, 108, 108] : Str)), x174.1)]).bind fun x190 => some (.inl (x190, (W (x87 + (1 : Int))))))) else some (.inr (.inl (xs85)))) : Option (((List Timpl_Equation) × (Int)) ⊕ (((List Timpl_Equation)) ⊕ (((List Timpl_Equation) × Bool)))))) fuel ([], (0 : Int))).bind fun res136 => ctl (β := (List Timpl_Equation)) (ρ := ((List Timpl_Equation) × Bool)) (τ := ((List Timpl_Equation) × Bool)) res136 (fun (xs134) => (impl_EquationsText_m fuel xs134).bind fun x143 => (if (x143 != a0) = true then some (([], false)) else some ((xs134, true)))) (fun q => some (q))
set_option maxRecDepth 20000 in
theorem impl_ReadEquations_ok {w0 : World} {fuel : Nat} {a0 : Str} {r : ((List Timpl_Equation) × Bool)} (hG : GlobE Tryz.prog w0) (hm : impl_ReadEquations_m fuel a0 = some r) :
  Calls Tryz.prog 7 #[sv a0] w0 fun e w => ∃ (v0 : Value), e = .returned (.tuple #[v0, .bool r.2]) ∧ Heap w0 [oA (rList Rimpl_Equation) v0 r.1] w := by
 unfold impl_ReadEquations_m at hm
 have H := Heap.start w0
 refine enter (args := [sv a0]) Tryz.func7 rfl 50 rfl (Nat.le_of_ble_eq_true rfl) (fun a S => ?_)
 refine wp_seq (region_plain ?_)
 refine lq (.slice none 0 0) S (q_assign rfl) fun a S => ?_
 refine lq (.bool false) S (q_assign rfl) fun a S => ?_
 refine lx_nil (thenN ?_)
 refine wp_seq (region_plain ?_)
 refine lq (.slice none 0 0) S (q_assign rfl) fun a S => ?_
 refine lx_nil (thenN ?_)
 refine wp_seq (wp_seq (region_plain ?_))
 refine lq (sv a0) S (q_move rfl) fun a S => ?_
 obtain ⟨x33, e34, hm⟩ := bind_some hm
 refine lx_call (xs := [.tmp 10, .const (sv [10])]) S trivial (by decide) rfl rfl Tryz.call25 ((strings_Split_ok (hG.ext H.ext).toGlob   e34).mono ?_)
 rintro e w31 ⟨v35, rfl, Hc32⟩
 have H := H.call1 Hc32
 refine ⟨_, rfl, trivial, fun a S => ?_⟩
 refine lq (.int .i64 (x33.length : Int)) S (q_lenSl rfl (H.isSl 0 rfl) rfl Tryz.underlying28) fun a S => ?_
 refine lq (.int .i64 (0 : Int)) S (q_move rfl) fun a S => ?_
 refine lx_nil (thenN ?_)
 obtain ⟨res136, hit137, hk140⟩ := bind_some hm
 obtain ⟨f138, hf139, hit137⟩ := iter_name hit137
 refine block_loop (fun a w => ∃ (xs134 : List Timpl_Equation) (v133 : Value), Slots a 50 [(0, (sv a0)), (4, v133)] ∧ Heap w0 [oA (rList Rimpl_Equation) v133 xs134] w ∧ res136 = .inl (xs134)) ?_ ?_
 ·rintro a w ⟨xs134, v133, S, H, rfl⟩
  have hm := ctl_inl hk140
  refine thenN ?_
  refine wp_seq (wp_seq (region_plain ?_))
  refine lq v133 S (q_move rfl) fun a S => ?_
  obtain ⟨x143, e144, hm⟩ := bind_some hm
  refine lx_call (xs := [.tmp 45]) S trivial (by decide) rfl rfl Tryz.call27 ((impl_EquationsText_ok (hG.ext H.ext).toGlob (H.rdAt 0 rfl) e144).mono ?_)
  rintro e w141 ⟨rfl, Hc142⟩
  have H := H.call0 Hc142
  refine ⟨_, rfl, trivial, fun a S => ?_⟩
  refine lq (sv a0) S (q_move rfl) fun a S => ?_
  refine lq (.bool (x143 != a0)) S (q_sneq rfl rfl) fun a S => ?_
  refine lx_nil (thenN ?_)
  refine cond_b S rfl (fun hc146 => ?_) (fun hc146 => ?_)
  ·have hm := ite_t hc146 hm
   refine wp_seq (region_plain ?_)
   refine lq (.slice none 0 0) S (q_assign rfl) fun a S => ?_
   refine lq (.bool false) S (q_assign rfl) fun a S => ?_
   refine lx_nil (thenN ?_)
   refine wp_ret (then_ret ?_)
   obtain rfl := Option.some.inj hm
   have H : Heap w0 [oA (rList Rimpl_Equation) (.slice none 0 0) ([] : List Timpl_Equation), oA (rList Rimpl_Equation) v133 xs134] w141 := H.nilList Rimpl_Equation
   have H : Heap w0 [oA (rList Rimpl_Equation) (.slice none 0 0) ([] : List Timpl_Equation)] w141 := H.sel [0] (by decide)
   exact leave2 S rfl rfl rfl ⟨(.slice none 0 0), rfl, H⟩
  ·have hm := ite_f hc146 hm
   refine wp_skip (thenN ?_)
   refine wp_seq (region_plain ?_)
   refine lq v133 S (q_move rfl) fun a S => ?_
   refine lq v133 S (q_assign rfl) fun a S => ?_
   refine lq (.bool true) S (q_assign rfl) fun a S => ?_
   refine lx_nil (thenN ?_)
   refine wp_ret ?_
   obtain rfl := Option.some.inj hm
   exact leave2 S rfl rfl rfl ⟨v133, rfl, H⟩
 ·skip
  have H : Heap w0 [oA (rList Rimpl_Equation) (.slice none 0 0) ([] : List Timpl_Equation), oA (rList rStr) v35 x33] w31 := H.nilList Rimpl_Equation
  refine loop_ghost (fun n a w => ∃ (xs85 : List Timpl_Equation) (x87 : Int) (v84 : Value), Slots a 50 [(0, (sv a0)), (4, v84), (11, v35), (12, (.int .i64 (x33.length : Int))), (13, (.int .i64 x87))] ∧ Heap w0 [oA (rList Rimpl_Equation) v84 xs85, oA (rList rStr) v35 x33] w ∧ iter f138 n (xs85, x87) = some res136) _ ⟨[], (0 : Int), (.slice none 0 0), S.sub ⟨rfl, rfl, rfl, rfl, rfl, trivial⟩, H, hit137⟩ ?_
  rintro n a w ⟨xs85, x87, v84, S, H, hit137⟩
  obtain ⟨m149, o150, rfl, hm, hc151⟩ := iter_step hit137
  rw [hf139] at hm
  refine wp_seq (region_plain ?_)
  refine lq (.bool (decide (x87 < (x33.length : Int)))) S (q_lss rfl rfl) fun a S => ?_
  refine lx_nil (thenN ?_)
  refine wp_seq ?_
  refine cond_b S rfl (fun hc152 => ?_) (fun hc152 => ?_)
  ·have hm := ite_t hc152 hm
   refine wp_skip (thenN ?_)
   refine wp_seq ?_
   refine wp_block ?_
   refine wp_seq (region_plain ?_)
   obtain ⟨x153, e154, hm⟩ := bind_some hm
   have hlt := lt_of_idx (idx_some e154).2
   refine lq (ePtr v35 (x87.toNat * 1)) S (q_indexAddr rfl (H.isSl 1 rfl) rfl (idx_some e154).1 hlt Tryz.underlying28 Tryz.sizeOf9) fun a S => ?_
   obtain ⟨c155, h156, hat157⟩ := (H.rdAt 1 rfl).elem (idx_some e154).2
   obtain rfl := h156
   refine lx_e (sv x153) S trivial (by decide) rfl trivial (q_load1 rfl Tryz.isAgg9 (by rintro _ rfl; exact (hat157 0 _ rfl))) (fun a S => ?_)
   refine lq (sv x153) S (q_assign rfl) fun a S => ?_
   refine lx_nil (thenN ?_)
   refine wp_seq (region_plain ?_)
   refine lq (sv x153) S (q_move rfl) fun a S => ?_
   obtain ⟨x160, e161, hm⟩ := bind_some hm
   refine lx_call (xs := [.tmp 17, .const (sv [32])]) S trivial (by decide) rfl rfl Tryz.call25 ((strings_Split_ok (hG.ext H.ext).toGlob   e161).mono ?_)
   rintro e w158 ⟨v162, rfl, Hc159⟩
   have H := H.call1 Hc159
   refine ⟨_, rfl, trivial, fun a S => ?_⟩
   refine lq v162 S (q_assign rfl) fun a S => ?_
   refine lx_nil (thenN ?_)
   refine wp_seq (wp_seq (region_plain ?_))
   refine lq v162 S (q_move rfl) fun a S => ?_
   refine lq (.int .i64 (x160.length : Int)) S (q_lenSl rfl (H.isSl 0 rfl) rfl Tryz.underlying28) fun a S => ?_
   refine lq (.bool ((x160.length : Int) != (3 : Int))) S (q_neq rfl rfl) fun a S => ?_
   refine lx_nil (thenN ?_)
   refine cond_b S rfl (fun hc165 => ?_) (fun hc165 => ?_)
   ·have hm := ite_t hc165 hm
    refine wp_seq (region_plain ?_)
    refine lq (.slice none 0 0) S (q_assign rfl) fun a S => ?_
    refine lq (.bool false) S (q_assign rfl) fun a S => ?_
    refine lx_nil (thenN ?_)
    refine wp_ret (then_ret ?_)
    refine inBlock_ret ?_
    refine then_ret ?_
    refine then_ret ?_
    refine inBlock_ret ?_
    refine then_ret ?_
    refine then_ret ?_
    obtain rfl := it_brk hm hc151
    have hm := ctl_inr hk140
    obtain rfl := Option.some.inj hm
    have H : Heap w0 [oA (rList Rimpl_Equation) (.slice none 0 0) ([] : List Timpl_Equation), oA (rList rStr) v162 x160, oA (rList Rimpl_Equation) v84 xs85, oA (rList rStr) v35 x33] w158 := H.nilList Rimpl_Equation
    have H : Heap w0 [oA (rList Rimpl_Equation) (.slice none 0 0) ([] : List Timpl_Equation)] w158 := H.sel [0] (by decide)
    exact leave2 S rfl rfl rfl ⟨(.slice none 0 0), rfl, H⟩
   ·have hm := ite_f hc165 hm
    refine wp_skip (thenN ?_)
    refine wp_seq (region_plain ?_)
    refine lq v162 S (q_move rfl) fun a S => ?_
    obtain ⟨x167, e168, hm⟩ := bind_some hm
    have hlt := lt_of_idx (idx_some e168).2
    refine lq (ePtr v162 ((2 : Int).toNat * 1)) S (q_indexAddr rfl (H.isSl 0 rfl) rfl (idx_some e168).1 hlt Tryz.underlying28 Tryz.sizeOf9) fun a S => ?_
    obtain ⟨c169, h170, hat171⟩ := (H.rdAt 0 rfl).elem (idx_some e168).2
    obtain rfl := h170
    refine lx_e (sv x167) S trivial (by decide) rfl trivial (q_load1 rfl Tryz.isAgg9 (by rintro _ rfl; exact (hat171 0 _ rfl))) (fun a S => ?_)
    obtain ⟨x174, e175, hm⟩ := bind_some hm
    refine lx_call (xs := [.tmp 25]) S trivial (by decide) rfl rfl Tryz.call26 ((impl_ReadList_ok (hG.ext H.ext)  e175).mono ?_)
    rintro e w172 ⟨v176, rfl, Hc173⟩
    have H := H.call1 Hc173
    refine ⟨_, rfl, trivial, fun a S => ?_⟩
    refine lq (.tuple #[v176, (.bool x174.2)]) S (q_move rfl) fun a S => ?_
    refine lq v176 S (q_extract rfl rfl) fun a S => ?_
    refine lq (.bool x174.2) S (q_extract rfl rfl) fun a S => ?_
    refine lq v176 S (q_assign rfl) fun a S => ?_
    refine lq (.bool x174.2) S (q_assign rfl) fun a S => ?_
    refine lx_nil (thenN ?_)
    refine wp_seq (wp_seq (region_plain ?_))
    refine lq (.bool x174.2) S (q_move rfl) fun a S => ?_
    refine lq (.bool (!x174.2)) S (q_not rfl) fun a S => ?_
    refine lx_nil (thenN ?_)
    refine cond_b S rfl (fun hc179 => ?_) (fun hc179 => ?_)
    ·have hm := ite_t hc179 hm
     refine wp_seq (region_plain ?_)
     refine lq (.slice none 0 0) S (q_assign rfl) fun a S => ?_
     refine lq (.bool false) S (q_assign rfl) fun a S => ?_
     refine lx_nil (thenN ?_)
     refine wp_ret (then_ret ?_)
     refine inBlock_ret ?_
     refine then_ret ?_
     refine then_ret ?_
     refine inBlock_ret ?_
     refine then_ret ?_
     refine then_ret ?_
     obtain rfl := it_brk hm hc151
     have hm := ctl_inr hk140
     obtain rfl := Option.some.inj hm
     have H : Heap w0 [oA (rList Rimpl_Equation) (.slice none 0 0) ([] : List Timpl_Equation), oA (rList (rInt .i64)) v176 x174.1, oA (rList rStr) v162 x160, oA (rList Rimpl_Equation) v84 xs85, oA (rList rStr) v35 x33] w172 := H.nilList Rimpl_Equation
     have H : Heap w0 [oA (rList Rimpl_Equation) (.slice none 0 0) ([] : List Timpl_Equation)] w172 := H.sel [0] (by decide)
     exact leave2 S rfl rfl rfl ⟨(.slice none 0 0), rfl, H⟩
    ·have hm := ite_f hc179 hm
     refine wp_skip (thenN ?_)
     refine region_drawG (fun w1 => Heap w0 [oA (rList rStr) v162 x160] w1) (fun i => [11, 12].contains i) mixed (by kernel_rfl) (fun w182 he181 => ?_)
     have H := H.later he181
     refine ⟨H.sel [1] (by decide), ?_⟩
     refine lq v84 S (q_move rfl) fun a S => ?_
     refine lq v162 S (q_move rfl) fun a S => ?_
     obtain ⟨x183, e184, hm⟩ := bind_some hm
     have hlt := lt_of_idx (idx_some e184).2
     refine lq (ePtr v162 ((0 : Int).toNat * 1)) S (q_indexAddr rfl (H.isSl 1 rfl) rfl (idx_some e184).1 hlt Tryz.underlying28 Tryz.sizeOf9) fun a S => ?_
     refine lq (sv x183) S (q_load1 rfl Tryz.isAgg9 (fun w1 hC => ((hC.rdAt 0 rfl).elemAt (j := 0) (idx_some e184).2 (by intro B w cs h; obtain rfl := h; rfl)))) fun a S => ?_
     refine lq (.bool (x183 == ([110, 117] : Str))) S (q_seql rfl rfl) fun a S => ?_
     refine lq v162 S (q_move rfl) fun a S => ?_
     obtain ⟨x185, e186, hm⟩ := bind_some hm
     have hlt := lt_of_idx (idx_some e186).2
     refine lq (ePtr v162 ((1 : Int).toNat * 1)) S (q_indexAddr rfl (H.isSl 1 rfl) rfl (idx_some e186).1 hlt Tryz.underlying28 Tryz.sizeOf9) fun a S => ?_
     refine lq (sv x185) S (q_load1 rfl Tryz.isAgg9 (fun w1 hC => ((hC.rdAt 0 rfl).elemAt (j := 0) (idx_some e186).2 (by intro B w cs h; obtain rfl := h; rfl)))) fun a S => ?_
     refine lq (.bool (x185 == ([97, 108, 108] : Str))) S (q_seql rfl rfl) fun a S => ?_
     refine lq v176 S (q_move rfl) fun a S => ?_
     refine lq (.agg #[(.bool (x183 == ([110, 117] : Str))), (.bool (x185 == ([97, 108, 108] : Str))), v176]) S (q_build (zs := [(.bool false), (.bool false), (.slice none 0 0)]) (szs := [1, 1, 1]) (ps := [(0, [(.bool (x183 == ([110, 117] : Str)))]), (1, [(.bool (x185 == ([97, 108, 108] : Str)))]), (2, [v176])]) (parts := [(0, .tmp 35), (1, .tmp 39), (2, .tmp 40)]) rfl Tryz.underlying48 Tryz.zeroValue48 (fun w => by simp [Tryz.sizeOf4, Tryz.sizeOf44]) ⟨rfl, rfl, Nat.le_of_ble_eq_true rfl, ⟨rfl, rfl, Nat.le_of_ble_eq_true rfl, ⟨rfl, (cells_sl (H.isSl 0 rfl)), Nat.le_of_ble_eq_true rfl, trivial⟩⟩⟩ rfl) fun a S => ?_
     refine lx_buildSlice (r := Rimpl_Equation) (xs := [((x183 == ([110, 117] : Str)), (x185 == ([97, 108, 108] : Str)), x174.1)]) (ps := [(0, [(.bool (x183 == ([110, 117] : Str))), (.bool (x185 == ([97, 108, 108] : Str))), v176])]) (cs := [(.bool (x183 == ([110, 117] : Str))), (.bool (x185 == ([97, 108, 108] : Str))), v176]) (parts := [(0, .tmp 41)]) S trivial (by decide) rfl H rfl Tryz.underlying22 Tryz.sizeOf48 Tryz.zeroValue48 (by decide) ⟨rfl, rfl, Nat.le_of_ble_eq_true rfl, trivial⟩ (by intro zs hz; exact fill_dense hz ⟨rfl, trivial⟩ rfl rfl) rfl (by decide) (fun w F hA => ownL_one_mk (ownF ⟨_, _, [(.bool (x183 == ([110, 117] : Str)))], [(.bool (x185 == ([97, 108, 108] : Str))), v176], rfl, rfl, ⟨rfl, rfl⟩, ⟨_, _, [(.bool (x185 == ([97, 108, 108] : Str)))], [v176], rfl, rfl, ⟨rfl, rfl⟩, (oA_list.1 hA)⟩⟩)) (fun v187 w188 H => ⟨H.sel [1] (by decide), fun a S => ?_⟩)
     obtain ⟨x190, e191, hm⟩ := bind_some hm
     obtain ⟨hle, hap⟩ := app_some e191
     replace hap := hap.symm
     subst hap
     have H : Heap w0 [oA (rList Rimpl_Equation) v187 [((x183 == ([110, 117] : Str)), (x185 == ([97, 108, 108] : Str)), x174.1)], oA (rList rStr) v162 x160, oA (rList Rimpl_Equation) v84 xs85, oA (rList rStr) v35 x33] w188 := H.front 0 rfl
     have H : Heap w0 [oA (rList Rimpl_Equation) v84 xs85, oA (rList Rimpl_Equation) v187 [((x183 == ([110, 117] : Str)), (x185 == ([97, 108, 108] : Str)), x174.1)], oA (rList rStr) v162 x160, oA (rList rStr) v35 x33] w188 := H.front 2 rfl
     refine lx_appendOwn (r := Rimpl_Equation) S trivial (by decide) rfl H rfl rfl Tryz.underlying22 Tryz.ti48 rfl rfl rfl (Nat.le_of_ble_eq_true rfl) (by decide) hle (fun v192 w193 H => ⟨H.sel [1] (by decide), fun a S => ?_⟩)
     refine lq v192 S (q_assign rfl) fun a S => ?_
     refine lx_nil ?_
     refine inBlock_norm ?_
     refine thenN ?_
     refine region_plain ?_
     refine lq (.int .i64 (W (x87 + (1 : Int)))) S (q_add rfl rfl) fun a S => ?_
     refine lq (.int .i64 (W (x87 + (1 : Int)))) S (q_move rfl) fun a S => ?_
     refine lx_nil ?_
     have H : Heap w0 [oA (rList Rimpl_Equation) v192 (xs85 ++ [((x183 == ([110, 117] : Str)), (x185 == ([97, 108, 108] : Str)), x174.1)]), oA (rList rStr) v35 x33] w193 := H.sel [0, 2] (by decide)
     exact ⟨m149, Nat.lt_succ_self _, (xs85 ++ [((x183 == ([110, 117] : Str)), (x185 == ([97, 108, 108] : Str)), x174.1)]), (W (x87 + (1 : Int))), v192, S.sub ⟨rfl, rfl, rfl, rfl, rfl, trivial⟩, H, it_cont hm hc151⟩
  ·have hm := ite_f hc152 hm
   refine wp_exit ?_
   refine then_exit ?_
   refine then_exit ?_
   refine inBlock_exit ?_
   obtain rfl := it_brk hm hc151
   have H : Heap w0 [oA (rList Rimpl_Equation) v84 xs85] w := H.sel [0] (by decide)
   exact ⟨xs85, v84, S.sub ⟨rfl, rfl, trivial⟩, H, rfl⟩

/-- laws.eqInt64S -/
def laws_eqInt64S_m (fuel : Nat) (a0 : (List Int)) (a1 : (List Int)) : Option (Bool) :=
  (if ((a0.length : Int) != (a1.length : Int)) = true then some (false) else (iter (fun (s : (Int)) => (match s with | (x47) => (if (decide (x47 < (a0.length : Int))) = true then (idx a0 x47).bind fun x74 => (idx a1 x47).bind fun x79 => (if (x74 != x79) = true then some (.inr (.inr false)) else some (.inl ((W (x47 + (1 : Int)))))) else some (.inr (.inl ()))) : Option (((Int)) ⊕ ((Unit) ⊕ (Bool))))) fuel ((0 : Int))).bind fun res63 => ctl (β := Unit) (ρ := Bool) (τ := Bool) res63 (fun _ => some (true)) (fun q => some (q)))
set_option maxRecDepth 20000 in
theorem laws_eqInt64S_ok {w0 : World} {fuel : Nat} {p0 p1 : Value} {a0 : (List Int)} {a1 : (List Int)} {r : Bool} (h0 : Rd (rList (rInt .i64)) w0 p0 a0) (h1 : Rd (rList (rInt .i64)) w0 p1 a1) (hm : laws_eqInt64S_m fuel a0 a1 = some r) :
  Calls Tryz.prog 63 #[p0, p1] w0 fun e w => e = .returned (.bool r) ∧ Heap w0 [] w := by
 unfold laws_eqInt64S_m at hm
 have H := Heap.start w0
 refine enter (args := [p0, p1]) Tryz.func63 rfl 26 rfl (Nat.le_of_ble_eq_true rfl) (fun a S => ?_)
 refine wp_seq (region_plain ?_)
 refine lq (.bool false) S (q_assign rfl) fun a S => ?_
 refine lx_nil (thenN ?_)
 refine wp_seq (wp_seq (region_plain ?_))
 refine lq p0 S (q_move rfl) fun a S => ?_
 refine lq (.int .i64 (a0.length : Int)) S (q_lenSl rfl (h0).isSl rfl Tryz.underlying44) fun a S => ?_
 refine lq p1 S (q_move rfl) fun a S => ?_
 refine lq (.int .i64 (a1.length : Int)) S (q_lenSl rfl (h1).isSl rfl Tryz.underlying44) fun a S => ?_
 refine lq (.bool ((a0.length : Int) != (a1.length : Int))) S (q_neq rfl rfl) fun a S => ?_
 refine lx_nil (thenN ?_)
 refine cond_b S rfl (fun hc31 => ?_) (fun hc31 => ?_)
 ·have hm := ite_t hc31 hm
  refine wp_seq (region_plain ?_)
  refine lq (.bool false) S (q_assign rfl) fun a S => ?_
  refine lx_nil (thenN ?_)
  refine wp_ret (then_ret ?_)
  obtain rfl := Option.some.inj hm
  exact leave1 S rfl rfl ⟨rfl, H⟩
 ·have hm := ite_f hc31 hm
  refine wp_skip (thenN ?_)
  refine wp_seq (wp_seq (region_plain ?_))
  refine lq (.int .i64 (0 : Int)) S (q_assign rfl) fun a S => ?_
  refine lx_nil (thenN ?_)
  obtain ⟨res63, hit64, hk67⟩ := bind_some hm
  obtain ⟨f65, hf66, hit64⟩ := iter_name hit64
  refine block_loop (fun a w => Slots a 26 [] ∧ Heap w0 [] w ∧ res63 = .inl ()) ?_ ?_
  ·rintro a w ⟨S, H, rfl⟩
   have hm := ctl_inl hk67
   refine thenN ?_
   refine wp_seq (region_plain ?_)
   refine lq (.bool true) S (q_assign rfl) fun a S => ?_
   refine lx_nil (thenN ?_)
   refine wp_ret ?_
   obtain rfl := Option.some.inj hm
   exact leave1 S rfl rfl ⟨rfl, H⟩
  ·skip
   refine loop_ghost (fun n a w => ∃ (x47 : Int), Slots a 26 [(0, p0), (1, p1), (5, (.int .i64 x47))] ∧ Heap w0 [] w ∧ iter f65 n (x47) = some res63) _ ⟨(0 : Int), S.sub ⟨rfl, rfl, rfl, trivial⟩, H, hit64⟩ ?_
   rintro n a w ⟨x47, S, H, hit64⟩
   obtain ⟨m68, o69, rfl, hm, hc70⟩ := iter_step hit64
   rw [hf66] at hm
   refine wp_seq (wp_seq (region_plain ?_))
   refine lq (.int .i64 x47) S (q_move rfl) fun a S => ?_
   refine lq p0 S (q_move rfl) fun a S => ?_
   refine lq (.int .i64 (a0.length : Int)) S (q_lenSl rfl (h0).isSl rfl Tryz.underlying44) fun a S => ?_
   refine lq (.bool (decide (x47 < (a0.length : Int)))) S (q_lss rfl rfl) fun a S => ?_
   refine lx_nil (thenN ?_)
   refine cond_b S rfl (fun hc71 => ?_) (fun hc71 => ?_)
   ·have hm := ite_t hc71 hm
    refine wp_skip (thenN ?_)
    refine wp_seq ?_
    refine wp_block ?_
    refine wp_seq ?_
    refine region_drawG (fun w1 => Heap w0 [] w1) (fun i => [].contains i) mixed (by kernel_rfl) (fun w73 he72 => ?_)
    have H := H.later he72
    refine ⟨H.sel [] (by decide), ?_⟩
    refine lq p0 S (q_move rfl) fun a S => ?_
    refine lq (.int .i64 x47) S (q_move rfl) fun a S => ?_
    obtain ⟨x74, e75, hm⟩ := bind_some hm
    obtain ⟨c76, h77, hat78⟩ := (h0).elem (idx_some e75).2
    obtain rfl := h77
    have hlt := lt_of_idx (idx_some e75).2
    refine lq (ePtr p0 (x47.toNat * 1)) S (q_indexAddr rfl (h0).isSl rfl (idx_some e75).1 hlt Tryz.underlying44 Tryz.sizeOf2) fun a S => ?_
    refine lq (.int .i64 x74) S (q_load1 rfl Tryz.isAgg2 (fun w1 hC => ((hat78 0 _ rfl).ext hC.ext))) fun a S => ?_
    refine lq p1 S (q_move rfl) fun a S => ?_
    refine lq (.int .i64 x47) S (q_move rfl) fun a S => ?_
    obtain ⟨x79, e80, hm⟩ := bind_some hm
    obtain ⟨c81, h82, hat83⟩ := (h1).elem (idx_some e80).2
    obtain rfl := h82
    have hlt := lt_of_idx (idx_some e80).2
    refine lq (ePtr p1 (x47.toNat * 1)) S (q_indexAddr rfl (h1).isSl rfl (idx_some e80).1 hlt Tryz.underlying44 Tryz.sizeOf2) fun a S => ?_
    refine lq (.int .i64 x79) S (q_load1 rfl Tryz.isAgg2 (fun w1 hC => ((hat83 0 _ rfl).ext hC.ext))) fun a S => ?_
    refine lq (.bool (x74 != x79)) S (q_neq rfl rfl) fun a S => ?_
    refine lx_nil (thenN ?_)
    refine cond_b S rfl (fun hc84 => ?_) (fun hc84 => ?_)
    ·have hm := ite_t hc84 hm
     refine wp_seq (region_plain ?_)
     refine lq (.bool false) S (q_assign rfl) fun a S => ?_
     refine lx_nil (thenN ?_)
     refine wp_ret (inBlock_ret ?_)
     refine then_ret ?_
     refine then_ret ?_
     refine inBlock_ret ?_
     refine then_ret ?_
     refine then_ret ?_
     obtain rfl := it_brk hm hc70
     have hm := ctl_inr hk67
     obtain rfl := Option.some.inj hm
     exact leave1 S rfl rfl ⟨rfl, H⟩
    ·have hm := ite_f hc84 hm
     refine wp_skip ?_
     refine inBlock_norm ?_
     refine thenN ?_
     refine region_plain ?_
     refine lq (.int .i64 x47) S (q_move rfl) fun a S => ?_
     refine lq (.int .i64 (W (x47 + (1 : Int)))) S (q_add rfl rfl) fun a S => ?_
     refine lq (.int .i64 (W (x47 + (1 : Int)))) S (q_assign rfl) fun a S => ?_
     refine lx_nil ?_
     exact ⟨m68, Nat.lt_succ_self _, (W (x47 + (1 : Int))), S.sub ⟨rfl, rfl, rfl, trivial⟩, H, it_cont hm hc70⟩
   ·have hm := ite_f hc71 hm
    refine wp_exit ?_
    refine then_exit ?_
    refine then_exit ?_
    refine inBlock_exit ?_
    obtain rfl := it_brk hm hc70
    exact ⟨S.sub trivial, H, rfl⟩

/-- laws.eqEquation -/
def laws_eqEquation_m (fuel : Nat) (a0 : Timpl_Equation) (a1 : Timpl_Equation) : Option (Bool) :=
  (if (a0.1 != a1.1) = true then some (false) else (if (a0.2.1 != a1.2.1) = true then some (false) else (laws_eqInt64S_m fuel a0.2.2 a1.2.2).bind fun x65 => (if (!x65) = true then some (false) else some (true))))
set_option maxRecDepth 20000 in
theorem laws_eqEquation_ok {w0 : World} {fuel : Nat} {p0 p1 : Value} {a0 : Timpl_Equation} {a1 : Timpl_Equation} {r : Bool} (h0 : Rd Rimpl_Equation w0 p0 a0) (h1 : Rd Rimpl_Equation w0 p1 a1) (hm : laws_eqEquation_m fuel a0 a1 = some r) :
  Calls Tryz.prog 28 #[p0, p1] w0 fun e w => e = .returned (.bool r) ∧ Heap w0 [] w := by
 unfold laws_eqEquation_m at hm
 have H := Heap.start w0
 obtain ⟨c31, rfl, h32⟩ := h0
 obtain ⟨c35, c36, rfl, h37, h38⟩ := h32
 obtain rfl := h37
 obtain ⟨c39, c40, rfl, h41, h42⟩ := h38
 obtain rfl := h41
 obtain ⟨v33, rfl, h34⟩ := rd_list h42
 obtain ⟨c43, rfl, h44⟩ := h1
 obtain ⟨c47, c48, rfl, h49, h50⟩ := h44
 obtain rfl := h49
 obtain ⟨c51, c52, rfl, h53, h54⟩ := h50
 obtain rfl := h53
 obtain ⟨v45, rfl, h46⟩ := rd_list h54
 refine enter (args := [(.agg #[(.bool a0.1), (.bool a0.2.1), v33]), (.agg #[(.bool a1.1), (.bool a1.2.1), v45])]) Tryz.func28 rfl 21 rfl (Nat.le_of_ble_eq_true rfl) (fun a S => ?_)
 refine wp_seq (region_plain ?_)
 refine lx_box S trivial (by decide) rfl H rfl rfl (fun b55 w56 H => ⟨trivial, fun a S => ?_⟩)
 refine lx_box S trivial (by decide) rfl H rfl rfl (fun b58 w59 H => ⟨trivial, fun a S => ?_⟩)
 refine lq (.bool false) S (q_assign rfl) fun a S => ?_
 refine lx_nil (thenN ?_)
 refine wp_seq (wp_seq (region_plain ?_))
 refine lq (pAdd (bp b55) 0) S (q_fieldAddr' 0 4 rfl (isP_bp _) Tryz.underlying48 rfl Tryz.sizeOf4) fun a S => ?_
 refine lx_e (.bool a0.1) S trivial (by decide) rfl trivial (q_load1 rfl Tryz.isAgg4 (by rintro _ rfl; exact (At.of_add (m := 0) (j := 0) (boxAt (i := 1) H rfl (j := 0) rfl)))) (fun a S => ?_)
 refine lq (pAdd (bp b58) 0) S (q_fieldAddr' 0 4 rfl (isP_bp _) Tryz.underlying48 rfl Tryz.sizeOf4) fun a S => ?_
 refine lx_e (.bool a1.1) S trivial (by decide) rfl trivial (q_load1 rfl Tryz.isAgg4 (by rintro _ rfl; exact (At.of_add (m := 0) (j := 0) (boxAt (i := 0) H rfl (j := 0) rfl)))) (fun a S => ?_)
 refine lq (.bool (a0.1 != a1.1)) S (q_bneq rfl rfl Tryz.underlying4) fun a S => ?_
 refine lx_nil (thenN ?_)
 refine cond_b S rfl (fun hc61 => ?_) (fun hc61 => ?_)
 ·have hm := ite_t hc61 hm
  refine wp_seq (region_plain ?_)
  refine lq (.bool false) S (q_assign rfl) fun a S => ?_
  refine lx_nil (thenN ?_)
  refine wp_ret (then_ret ?_)
  obtain rfl := Option.some.inj hm
  have H : Heap w0 [] w59 := H.sel [] (by decide)
  exact leave1 S rfl rfl ⟨rfl, H⟩
 ·have hm := ite_f hc61 hm
  refine wp_skip (thenN ?_)
  refine wp_seq (wp_seq (region_plain ?_))
  refine lq (pAdd (bp b55) 1) S (q_fieldAddr' 1 4 rfl (isP_bp _) Tryz.underlying48 rfl Tryz.sizeOf4) fun a S => ?_
  refine lx_e (.bool a0.2.1) S trivial (by decide) rfl trivial (q_load1 rfl Tryz.isAgg4 (by rintro _ rfl; exact (At.of_add (m := 1) (j := 0) (boxAt (i := 1) H rfl (j := 1) rfl)))) (fun a S => ?_)
  refine lq (pAdd (bp b58) 1) S (q_fieldAddr' 1 4 rfl (isP_bp _) Tryz.underlying48 rfl Tryz.sizeOf4) fun a S => ?_
  refine lx_e (.bool a1.2.1) S trivial (by decide) rfl trivial (q_load1 rfl Tryz.isAgg4 (by rintro _ rfl; exact (At.of_add (m := 1) (j := 0) (boxAt (i := 0) H rfl (j := 1) rfl)))) (fun a S => ?_)
  refine lq (.bool (a0.2.1 != a1.2.1)) S (q_bneq rfl rfl Tryz.underlying4) fun a S => ?_
  refine lx_nil (thenN ?_)
  refine cond_b S rfl (fun hc62 => ?_) (fun hc62 => ?_)
  ·have hm := ite_t hc62 hm
   refine wp_seq (region_plain ?_)
   refine lq (.bool false) S (q_assign rfl) fun a S => ?_
   refine lx_nil (thenN ?_)
   refine wp_ret (then_ret ?_)
   obtain rfl := Option.some.inj hm
   have H : Heap w0 [] w59 := H.sel [] (by decide)
   exact leave1 S rfl rfl ⟨rfl, H⟩
  ·have hm := ite_f hc62 hm
   refine wp_skip (thenN ?_)
   refine wp_seq (wp_seq (region_plain ?_))
   refine lq (pAdd (bp b55) 2) S (q_fieldAddr' 2 44 rfl (isP_bp _) Tryz.underlying48 rfl Tryz.sizeOf44) fun a S => ?_
   refine lx_e v33 S trivial (by decide) rfl trivial (q_load1 rfl Tryz.isAgg44 (by rintro _ rfl; exact (At.of_add (m := 2) (j := 0) (boxAt (i := 1) H rfl (j := 2) rfl)))) (fun a S => ?_)
   refine lq (pAdd (bp b58) 2) S (q_fieldAddr' 2 44 rfl (isP_bp _) Tryz.underlying48 rfl Tryz.sizeOf44) fun a S => ?_
   refine lx_e v45 S trivial (by decide) rfl trivial (q_load1 rfl Tryz.isAgg44 (by rintro _ rfl; exact (At.of_add (m := 2) (j := 0) (boxAt (i := 0) H rfl (j := 2) rfl)))) (fun a S => ?_)
   obtain ⟨x65, e66, hm⟩ := bind_some hm
   refine lx_call (xs := [.tmp 16, .tmp 18]) S trivial (by decide) rfl rfl Tryz.call63 ((laws_eqInt64S_ok (H.arg h34) (H.arg h46) e66).mono ?_)
   rintro e w63 ⟨rfl, Hc64⟩
   have H := H.call0 Hc64
   refine ⟨_, rfl, trivial, fun a S => ?_⟩
   refine lq (.bool (!x65)) S (q_not rfl) fun a S => ?_
   refine lx_nil (thenN ?_)
   refine cond_b S rfl (fun hc68 => ?_) (fun hc68 => ?_)
   ·have hm := ite_t hc68 hm
    refine wp_seq (region_plain ?_)
    refine lq (.bool false) S (q_assign rfl) fun a S => ?_
    refine lx_nil (thenN ?_)
    refine wp_ret (then_ret ?_)
    obtain rfl := Option.some.inj hm
    have H : Heap w0 [] w63 := H.sel [] (by decide)
    exact leave1 S rfl rfl ⟨rfl, H⟩
   ·have hm := ite_f hc68 hm
    refine wp_skip (thenN ?_)
    refine wp_seq (region_plain ?_)
    refine lq (.bool true) S (q_assign rfl) fun a S => ?_
    refine lx_nil (thenN ?_)
    refine wp_ret ?_
    obtain rfl := Option.some.inj hm
    have H : Heap w0 [] w63 := H.sel [] (by decide)
    exact leave1 S rfl rfl ⟨rfl, H⟩

/-- laws.eqEquationS -/
def laws_eqEquationS_m (fuel : Nat) (a0 : (List Timpl_Equation)) (a1 : (List Timpl_Equation)) : Option (Bool) :=
  (if ((a0.length : Int) != (a1.length : Int)) = true then some (false) else (iter (fun (s : (Int)) => (match s with | (x72) => (if (decide (x72 < (a0.length : Int))) = true then (idx a0 x72).bind fun x124 => (idx a1 x72).bind fun x139 => (laws_eqEquation_m fuel (x124.1, x124.2.1, x124.2.2) (x139.1, x139.2.1, x139.2.2)).bind fun x156 => (if (!x156) = true then some (.inr (.inr false)) else some (.inl ((W (x72 + (1 : Int)))))) else some (.inr (.inl ()))) : Option (((Int)) ⊕ ((Unit) ⊕ (Bool))))) fuel ((0 : Int))).bind fun res113 => ctl (β := Unit) (ρ := Bool) (τ := Bool) res113 (fun _ => some (true)) (fun q => some (q)))
set_option maxRecDepth 20000 in
theorem laws_eqEquationS_ok {w0 : World} {fuel : Nat} {p0 p1 : Value} {a0 : (List Timpl_Equation)} {a1 : (List Timpl_Equation)} {r : Bool} (h0 : Rd (rList Rimpl_Equation) w0 p0 a0) (h1 : Rd (rList Rimpl_Equation) w0 p1 a1) (hm : laws_eqEquationS_m fuel a0 a1 = some r) :
  Calls Tryz.prog 8 #[p0, p1] w0 fun e w => e = .returned (.bool r) ∧ Heap w0 [] w := by
 unfold laws_eqEquationS_m at hm
 have H := Heap.start w0
 refine enter (args := [p0, p1]) Tryz.func8 rfl 27 rfl (Nat.le_of_ble_eq_true rfl) (fun a S => ?_)
 refine wp_seq (region_plain ?_)
 refine lq (.bool false) S (q_assign rfl) fun a S => ?_
 refine lx_nil (thenN ?_)
 refine wp_seq (wp_seq (region_plain ?_))
 refine lq p0 S (q_move rfl) fun a S => ?_
 refine lq (.int .i64 (a0.length : Int)) S (q_lenSl rfl (h0).isSl rfl Tryz.underlying22) fun a S => ?_
 refine lq p1 S (q_move rfl) fun a S => ?_
 refine lq (.int .i64 (a1.length : Int)) S (q_lenSl rfl (h1).isSl rfl Tryz.underlying22) fun a S => ?_
 refine lq (.bool ((a0.length : Int) != (a1.length : Int))) S (q_neq rfl rfl) fun a S => ?_
 refine lx_nil (thenN ?_)
 refine cond_b S rfl (fun hc31 => ?_) (fun hc31 => ?_)
 ·have hm := ite_t hc31 hm
  refine wp_seq (region_plain ?_)
  refine lq (.bool false) S (q_assign rfl) fun a S => ?_
  refine lx_nil (thenN ?_)
  refine wp_ret (then_ret ?_)
  obtain rfl := Option.some.inj hm
  exact leave1 S rfl rfl ⟨rfl, H⟩
 ·have hm := ite_f hc31 hm
  refine wp_skip (thenN ?_)
  refine wp_seq (wp_seq (region_plain ?_))
  refine lq (.int .i64 (0 : Int)) S (q_assign rfl) fun a S => ?_
  refine lx_nil (thenN ?_)
  obtain ⟨res113, hit114, hk117⟩ := bind_some hm
  obtain ⟨f115, hf116, hit114⟩ := iter_name hit114
  refine block_loop (fun a w => Slots a 27 [] ∧ Heap w0 [] w ∧ res113 = .inl ()) ?_ ?_
  ·rintro a w ⟨S, H, rfl⟩
   have hm := ctl_inl hk117
   refine thenN ?_
   refine wp_seq (region_plain ?_)
   refine lq (.bool true) S (q_assign rfl) fun a S => ?_
   refine lx_nil (thenN ?_)
   refine wp_ret ?_
   obtain rfl := Option.some.inj hm
   exact leave1 S rfl rfl ⟨rfl, H⟩
  ·skip
   refine loop_ghost (fun n a w => ∃ (x72 : Int), Slots a 27 [(0, p0), (1, p1), (5, (.int .i64 x72))] ∧ Heap w0 [] w ∧ iter f115 n (x72) = some res113) _ ⟨(0 : Int), S.sub ⟨rfl, rfl, rfl, trivial⟩, H, hit114⟩ ?_
   rintro n a w ⟨x72, S, H, hit114⟩
   obtain ⟨m118, o119, rfl, hm, hc120⟩ := iter_step hit114
   rw [hf116] at hm
   refine wp_seq (wp_seq (region_plain ?_))
   refine lq (.int .i64 x72) S (q_move rfl) fun a S => ?_
   refine lq p0 S (q_move rfl) fun a S => ?_
   refine lq (.int .i64 (a0.length : Int)) S (q_lenSl rfl (h0).isSl rfl Tryz.underlying22) fun a S => ?_
   refine lq (.bool (decide (x72 < (a0.length : Int)))) S (q_lss rfl rfl) fun a S => ?_
   refine lx_nil (thenN ?_)
   refine cond_b S rfl (fun hc121 => ?_) (fun hc121 => ?_)
   ·have hm := ite_t hc121 hm
    refine wp_skip (thenN ?_)
    refine wp_seq ?_
    refine wp_block ?_
    refine wp_seq ?_
    refine region_drawG (fun w1 => Heap w0 [] w1) (fun i => [8].contains i) mixed (by kernel_rfl) (fun w123 he122 => ?_)
    have H := H.later he122
    refine ⟨H.sel [] (by decide), ?_⟩
    refine lq p0 S (q_move rfl) fun a S => ?_
    refine lq (.int .i64 x72) S (q_move rfl) fun a S => ?_
    obtain ⟨x124, e125, hm⟩ := bind_some hm
    obtain ⟨c126, h127, hat128⟩ := (h0).elem (idx_some e125).2
    obtain ⟨c131, c132, rfl, h133, h134⟩ := h127
    obtain rfl := h133
    obtain ⟨c135, c136, rfl, h137, h138⟩ := h134
    obtain rfl := h137
    obtain ⟨v129, rfl, h130⟩ := rd_list h138
    have hlt := lt_of_idx (idx_some e125).2
    refine lq (ePtr p0 (x72.toNat * 3)) S (q_indexAddr rfl (h0).isSl rfl (idx_some e125).1 hlt Tryz.underlying22 Tryz.sizeOf48) fun a S => ?_
    refine lq (.agg #[(.bool x124.1), (.bool x124.2.1), v129]) S (q_loadA (cs := [(.bool x124.1), (.bool x124.2.1), v129]) rfl ((hat128 0 _ rfl).isP) Tryz.isAgg48 Tryz.sizeOf48 (fun w1 hC => (fun j u hu => (hat128 j u hu).ext hC.ext))) fun a S => ?_
    refine lq p1 S (q_move rfl) fun a S => ?_
    refine lq (.int .i64 x72) S (q_move rfl) fun a S => ?_
    obtain ⟨x139, e140, hm⟩ := bind_some hm
    obtain ⟨c141, h142, hat143⟩ := (h1).elem (idx_some e140).2
    obtain ⟨c146, c147, rfl, h148, h149⟩ := h142
    obtain rfl := h148
    obtain ⟨c150, c151, rfl, h152, h153⟩ := h149
    obtain rfl := h152
    obtain ⟨v144, rfl, h145⟩ := rd_list h153
    have hlt := lt_of_idx (idx_some e140).2
    refine lq (ePtr p1 (x72.toNat * 3)) S (q_indexAddr rfl (h1).isSl rfl (idx_some e140).1 hlt Tryz.underlying22 Tryz.sizeOf48) fun a S => ?_
    refine lq (.agg #[(.bool x139.1), (.bool x139.2.1), v144]) S (q_loadA (cs := [(.bool x139.1), (.bool x139.2.1), v144]) rfl ((hat143 0 _ rfl).isP) Tryz.isAgg48 Tryz.sizeOf48 (fun w1 hC => (fun j u hu => (hat143 j u hu).ext hC.ext))) fun a S => ?_
    obtain ⟨x156, e157, hm⟩ := bind_some hm
    refine lx_call (xs := [.tmp 20, .tmp 24]) S trivial (by decide) rfl rfl Tryz.call28 ((laws_eqEquation_ok ⟨[(.bool x124.1), (.bool x124.2.1), v129], rfl, ⟨[(.bool x124.1)], [(.bool x124.2.1), v129], rfl, rfl, ⟨[(.bool x124.2.1)], [v129], rfl, rfl, ((H.arg h130)).list_rd⟩⟩⟩ ⟨[(.bool x139.1), (.bool x139.2.1), v144], rfl, ⟨[(.bool x139.1)], [(.bool x139.2.1), v144], rfl, rfl, ⟨[(.bool x139.2.1)], [v144], rfl, rfl, ((H.arg h145)).list_rd⟩⟩⟩ e157).mono ?_)
    rintro e w154 ⟨rfl, Hc155⟩
    have H := H.call0 Hc155
    refine ⟨_, rfl, H.sel [] (by decide), fun a S => ?_⟩
    refine lq (.bool (!x156)) S (q_not rfl) fun a S => ?_
    refine lx_nil (thenN ?_)
    refine cond_b S rfl (fun hc159 => ?_) (fun hc159 => ?_)
    ·have hm := ite_t hc159 hm
     refine wp_seq (region_plain ?_)
     refine lq (.bool false) S (q_assign rfl) fun a S => ?_
     refine lx_nil (thenN ?_)
     refine wp_ret (inBlock_ret ?_)
     refine then_ret ?_
     refine then_ret ?_
     refine inBlock_ret ?_
     refine then_ret ?_
     refine then_ret ?_
     obtain rfl := it_brk hm hc120
     have hm := ctl_inr hk117
     obtain rfl := Option.some.inj hm
     exact leave1 S rfl rfl ⟨rfl, H⟩
    ·have hm := ite_f hc159 hm
     refine wp_skip ?_
     refine inBlock_norm ?_
     refine thenN ?_
     refine region_plain ?_
     refine lq (.int .i64 x72) S (q_move rfl) fun a S => ?_
     refine lq (.int .i64 (W (x72 + (1 : Int)))) S (q_add rfl rfl) fun a S => ?_
     refine lq (.int .i64 (W (x72 + (1 : Int)))) S (q_assign rfl) fun a S => ?_
     refine lx_nil ?_
     exact ⟨m118, Nat.lt_succ_self _, (W (x72 + (1 : Int))), S.sub ⟨rfl, rfl, rfl, trivial⟩, H, it_cont hm hc120⟩
   ·have hm := ite_f hc121 hm
    refine wp_exit ?_
    refine then_exit ?_
    refine then_exit ?_
    refine inBlock_exit ?_
    obtain rfl := it_brk hm hc120
    exact ⟨S.sub trivial, H, rfl⟩

/-- laws.markInt64S -/
def laws_markInt64S_m (fuel : Nat) (a0 : (List Int)) (a1 : Int) : Option (Int × (List Int)) :=
  (iter (fun (s : (List Int) × (Int) × (Int)) => (match s with | (xs38, x39, x40) => (if (decide (x40 < (xs38.length : Int))) = true then (idx xs38 x40).bind fun _ => some (.inl ((xs38.set x40.toNat x39), (W (x39 + (1 : Int))), (W (x40 + (1 : Int))))) else some (.inr (.inl (x39, xs38)))) : Option (((List Int) × (Int) × (Int)) ⊕ ((Int × (List Int)) ⊕ (Int × (List Int)))))) fuel (a0, a1, (0 : Int))).bind fun res50 => ctl (β := Int × (List Int)) (ρ := Int × (List Int)) (τ := Int × (List Int)) res50 (fun (x48, xs49) => some ((x48, xs49))) (fun q => some (q))
set_option maxRecDepth 20000 in
theorem laws_markInt64S_ok {w0 : World} {fuel : Nat} {p0 : Value} {a0 : (List Int)} {a1 : Int} {w00 : World} {L : List Asrt} {r : Int × (List Int)} (H : Heap w00 (oA (rList (rInt .i64)) p0 a0 :: L) w0) (hm : laws_markInt64S_m fuel a0 a1 = some r) :
  Calls Tryz.prog 29 #[p0, .int .i64 a1] w0 fun e w => e = .returned (.int .i64 r.1) ∧ Heap w00 (oA (rList (rInt .i64)) p0 r.2 :: L) w := by
 unfold laws_markInt64S_m at hm
 refine enter (args := [p0, .int .i64 a1]) Tryz.func29 rfl 19 rfl (Nat.le_of_ble_eq_true rfl) (fun a S => ?_)
 refine wp_seq (region_plain ?_)
 refine lq (.int .i64 (0 : Int)) S (q_assign rfl) fun a S => ?_
 refine lx_nil (thenN ?_)
 refine wp_seq (wp_seq (region_plain ?_))
 refine lq (.int .i64 (0 : Int)) S (q_assign rfl) fun a S => ?_
 refine lx_nil (thenN ?_)
 obtain ⟨res50, hit51, hk54⟩ := bind_some hm
 obtain ⟨f52, hf53, hit51⟩ := iter_name hit51
 refine block_loop (fun a w => ∃ (x48 : Int) (xs49 : List Int), Slots a 19 [(1, (.int .i64 x48))] ∧ Heap w00 (oA (rList (rInt .i64)) p0 xs49 :: L) w ∧ res50 = .inl (x48, xs49)) ?_ ?_
 ·rintro a w ⟨x48, xs49, S, H, rfl⟩
  have hm := ctl_inl hk54
  refine thenN ?_
  refine wp_seq (region_plain ?_)
  refine lq (.int .i64 x48) S (q_move rfl) fun a S => ?_
  refine lq (.int .i64 x48) S (q_assign rfl) fun a S => ?_
  refine lx_nil (thenN ?_)
  refine wp_ret ?_
  obtain rfl := Option.some.inj hm
  exact leave1 S rfl rfl ⟨rfl, H⟩
 ·skip
  refine loop_ghost (fun n a w => ∃ (xs38 : List Int) (x39 : Int) (x40 : Int), Slots a 19 [(0, p0), (1, (.int .i64 x39)), (5, (.int .i64 x40))] ∧ Heap w00 (oA (rList (rInt .i64)) p0 xs38 :: L) w ∧ iter f52 n (xs38, x39, x40) = some res50) _ ⟨a0, a1, (0 : Int), S.sub ⟨rfl, rfl, rfl, trivial⟩, H, hit51⟩ ?_
  rintro n a w ⟨xs38, x39, x40, S, H, hit51⟩
  obtain ⟨m55, o56, rfl, hm, hc57⟩ := iter_step hit51
  rw [hf53] at hm
  refine wp_seq (wp_seq (region_plain ?_))
  refine lq (.int .i64 x40) S (q_move rfl) fun a S => ?_
  refine lq p0 S (q_move rfl) fun a S => ?_
  refine lq (.int .i64 (xs38.length : Int)) S (q_lenSl rfl (H.isSl 0 rfl) rfl Tryz.underlying44) fun a S => ?_
  refine lq (.bool (decide (x40 < (xs38.length : Int)))) S (q_lss rfl rfl) fun a S => ?_
  refine lx_nil (thenN ?_)
  refine cond_b S rfl (fun hc58 => ?_) (fun hc58 => ?_)
  ·have hm := ite_t hc58 hm
   refine wp_skip (thenN ?_)
   refine wp_seq ?_
   refine wp_block ?_
   refine wp_seq (region_plain ?_)
   refine lq p0 S (q_move rfl) fun a S => ?_
   refine lq (.int .i64 x40) S (q_move rfl) fun a S => ?_
   refine lq (.int .i64 x39) S (q_move rfl) fun a S => ?_
   obtain ⟨x59, e60, hm⟩ := bind_some hm
   have hlt := lt_of_idx (idx_some e60).2
   refine lq (ePtr p0 (x40.toNat * 1)) S (q_indexAddr rfl (H.isSl 0 rfl) rfl (idx_some e60).1 hlt Tryz.underlying44 Tryz.sizeOf2) fun a S => ?_
   refine lx_storeElem (r := (rInt .i64)) (us := [(.int .i64 x39)]) (off := 0) (e' := x39) S trivial rfl H.putE (ev_zero rfl) rfl (idx_some e60).2 rfl Tryz.sizeOf2 (Nat.le_of_ble_eq_true rfl) (List.forall_mem_cons.2 ⟨rfl, (fun _ h => nomatch h)⟩) (Upd.full rfl (fun w G hG => by cases (show G = [] from hG); exact ⟨rfl, rfl⟩)) (fun w61 H => ⟨trivial, fun a S => ?_⟩)
   refine lx_nil (thenN ?_)
   refine region_plain ?_
   refine lq (.int .i64 x39) S (q_move rfl) fun a S => ?_
   refine lq (.int .i64 (W (x39 + (1 : Int)))) S (q_add rfl rfl) fun a S => ?_
   refine lq (.int .i64 (W (x39 + (1 : Int)))) S (q_assign rfl) fun a S => ?_
   refine lx_nil ?_
   refine inBlock_norm ?_
   refine thenN ?_
   refine region_plain ?_
   refine lq (.int .i64 x40) S (q_move rfl) fun a S => ?_
   refine lq (.int .i64 (W (x40 + (1 : Int)))) S (q_add rfl rfl) fun a S => ?_
   refine lq (.int .i64 (W (x40 + (1 : Int)))) S (q_assign rfl) fun a S => ?_
   refine lx_nil ?_
   exact ⟨m55, Nat.lt_succ_self _, (xs38.set x40.toNat x39), (W (x39 + (1 : Int))), (W (x40 + (1 : Int))), S.sub ⟨rfl, rfl, rfl, trivial⟩, H, it_cont hm hc57⟩
  ·have hm := ite_f hc58 hm
   refine wp_exit ?_
   refine then_exit ?_
   refine then_exit ?_
   refine inBlock_exit ?_
   obtain rfl := it_brk hm hc57
   exact ⟨x39, xs38, S.sub ⟨rfl, trivial⟩, H, rfl⟩

/-- laws.markEquationS -/
def laws_markEquationS_m (fuel : Nat) (a0 : (List Timpl_Equation)) (a1 : Int) : Option (Int × (List Timpl_Equation)) :=
  (iter (fun (s : (List Timpl_Equation) × (Int) × (Int)) => (match s with | (xs62, x63, x64) => (if (decide (x64 < (xs62.length : Int))) = true then (idx xs62 x64).bind fun x107 => (idx (xs62.set x64.toNat (((x63.tmod (3 : Int)) == (0 : Int)), x107.2.1, x107.2.2)) x64).bind fun x110 => (idx ((xs62.set x64.toNat (((x63.tmod (3 : Int)) == (0 : Int)), x107.2.1, x107.2.2)).set x64.toNat (x110.1, (((W (x63 + (1 : Int))).tmod (3 : Int)) == (0 : Int)), x110.2.2)) x64).bind fun x113 => (laws_markInt64S_m fuel x113.2.2 (W ((W (x63 + (1 : Int))) + (1 : Int)))).bind fun x130 => some (.inl ((((xs62.set x64.toNat (((x63.tmod (3 : Int)) == (0 : Int)), x107.2.1, x107.2.2)).set x64.toNat (x110.1, (((W (x63 + (1 : Int))).tmod (3 : Int)) == (0 : Int)), x110.2.2)).set x64.toNat (x113.1, x113.2.1, x130.2)), x130.1, (W (x64 + (1 : Int))))) else some (.inr (.inl (x63, xs62)))) : Option (((List Timpl_Equation) × (Int) × (Int)) ⊕ ((Int × (List Timpl_Equation)) ⊕ (Int × (List Timpl_Equation)))))) fuel (a0, a1, (0 : Int))).bind fun res98 => ctl (β := Int × (List Timpl_Equation)) (ρ := Int × (List Timpl_Equation)) (τ := Int × (List Timpl_Equation)) res98 (fun (x96, xs97) => some ((x96, xs97))) (fun q => some (q))
set_option maxRecDepth 20000 in
theorem laws_markEquationS_ok {w0 : World} {fuel : Nat} {p0 : Value} {a0 : (List Timpl_Equation)} {a1 : Int} {w00 : World} {L : List Asrt} {r : Int × (List Timpl_Equation)} (H : Heap w00 (oA (rList Rimpl_Equation) p0 a0 :: L) w0) (hm : laws_markEquationS_m fuel a0 a1 = some r) :
  Calls Tryz.prog 9 #[p0, .int .i64 a1] w0 fun e w => e = .returned (.int .i64 r.1) ∧ Heap w00 (oA (rList Rimpl_Equation) p0 r.2 :: L) w := by
 unfold laws_markEquationS_m at hm
 refine enter (args := [p0, .int .i64 a1]) Tryz.func9 rfl 38 rfl (Nat.le_of_ble_eq_true rfl) (fun a S => ?_)
 refine wp_seq (region_plain ?_)
 refine lq (.int .i64 (0 : Int)) S (q_assign rfl) fun a S => ?_
 refine lx_nil (thenN ?_)
 refine wp_seq (wp_seq (region_plain ?_))
 refine lq (.int .i64 (0 : Int)) S (q_assign rfl) fun a S => ?_
 refine lx_nil (thenN ?_)
 obtain ⟨res98, hit99, hk102⟩ := bind_some hm
 obtain ⟨f100, hf101, hit99⟩ := iter_name hit99
 refine block_loop (fun a w => ∃ (x96 : Int) (xs97 : List Timpl_Equation), Slots a 38 [(1, (.int .i64 x96))] ∧ Heap w00 (oA (rList Rimpl_Equation) p0 xs97 :: L) w ∧ res98 = .inl (x96, xs97)) ?_ ?_
 ·rintro a w ⟨x96, xs97, S, H, rfl⟩
  have hm := ctl_inl hk102
  refine thenN ?_
  refine wp_seq (region_plain ?_)
  refine lq (.int .i64 x96) S (q_move rfl) fun a S => ?_
  refine lq (.int .i64 x96) S (q_assign rfl) fun a S => ?_
  refine lx_nil (thenN ?_)
  refine wp_ret ?_
  obtain rfl := Option.some.inj hm
  exact leave1 S rfl rfl ⟨rfl, H⟩
 ·skip
  refine loop_ghost (fun n a w => ∃ (xs62 : List Timpl_Equation) (x63 : Int) (x64 : Int), Slots a 38 [(0, p0), (1, (.int .i64 x63)), (5, (.int .i64 x64))] ∧ Heap w00 (oA (rList Rimpl_Equation) p0 xs62 :: L) w ∧ iter f100 n (xs62, x63, x64) = some res98) _ ⟨a0, a1, (0 : Int), S.sub ⟨rfl, rfl, rfl, trivial⟩, H, hit99⟩ ?_
  rintro n a w ⟨xs62, x63, x64, S, H, hit99⟩
  obtain ⟨m103, o104, rfl, hm, hc105⟩ := iter_step hit99
  rw [hf101] at hm
  refine wp_seq (wp_seq (region_plain ?_))
  refine lq (.int .i64 x64) S (q_move rfl) fun a S => ?_
  refine lq p0 S (q_move rfl) fun a S => ?_
  refine lq (.int .i64 (xs62.length : Int)) S (q_lenSl rfl (H.isSl 0 rfl) rfl Tryz.underlying22) fun a S => ?_
  refine lq (.bool (decide (x64 < (xs62.length : Int)))) S (q_lss rfl rfl) fun a S => ?_
  refine lx_nil (thenN ?_)
  refine cond_b S rfl (fun hc106 => ?_) (fun hc106 => ?_)
  ·have hm := ite_t hc106 hm
   refine wp_skip (thenN ?_)
   refine wp_seq ?_
   refine wp_block ?_
   refine wp_seq (region_plain ?_)
   refine lq p0 S (q_move rfl) fun a S => ?_
   refine lq (.int .i64 x64) S (q_move rfl) fun a S => ?_
   refine lq (.int .i64 x63) S (q_move rfl) fun a S => ?_
   refine lq (.int .i64 (x63.tmod (3 : Int))) S (q_rem rfl rfl (show (3 : Int) ≠ 0 from by decide)) fun a S => ?_
   refine lq (.bool ((x63.tmod (3 : Int)) == (0 : Int))) S (q_eql rfl rfl) fun a S => ?_
   obtain ⟨x107, e108, hm⟩ := bind_some hm
   have hlt := lt_of_idx (idx_some e108).2
   refine lq (ePtr p0 (x64.toNat * 3)) S (q_indexAddr rfl (H.isSl 0 rfl) rfl (idx_some e108).1 hlt Tryz.underlying22 Tryz.sizeOf48) fun a S => ?_
   refine lq (pAdd (ePtr p0 (x64.toNat * 3)) 0) S (q_fieldAddr' 0 4 rfl (((H.isSl 0 rfl)).ptr (lt_of_idx (idx_some e108).2) _) Tryz.underlying48 rfl Tryz.sizeOf4) fun a S => ?_
   refine lx_storeElem (r := Rimpl_Equation) (us := [(.bool ((x63.tmod (3 : Int)) == (0 : Int)))]) (off := 0) (e' := (((x63.tmod (3 : Int)) == (0 : Int)), x107.2.1, x107.2.2)) S trivial rfl H.putE rfl rfl (idx_some e108).2 rfl Tryz.sizeOf4 (Nat.le_of_ble_eq_true rfl) (List.forall_mem_cons.2 ⟨rfl, (fun _ h => nomatch h)⟩) (Upd.fst (off := 0) (Nat.le_of_ble_eq_true rfl) (Upd.full rfl (fun w G hG => by cases (show G = [] from hG); exact ⟨rfl, rfl⟩))) (fun w109 H => ⟨trivial, fun a S => ?_⟩)
   refine lx_nil (thenN ?_)
   refine wp_seq (region_plain ?_)
   refine lq (.int .i64 x63) S (q_move rfl) fun a S => ?_
   refine lq (.int .i64 (W (x63 + (1 : Int)))) S (q_add rfl rfl) fun a S => ?_
   refine lq (.int .i64 (W (x63 + (1 : Int)))) S (q_assign rfl) fun a S => ?_
   refine lx_nil (thenN ?_)
   refine wp_seq (region_plain ?_)
   refine lq p0 S (q_move rfl) fun a S => ?_
   refine lq (.int .i64 x64) S (q_move rfl) fun a S => ?_
   refine lq (.int .i64 (W (x63 + (1 : Int)))) S (q_move rfl) fun a S => ?_
   refine lq (.int .i64 ((W (x63 + (1 : Int))).tmod (3 : Int))) S (q_rem rfl rfl (show (3 : Int) ≠ 0 from by decide)) fun a S => ?_
   refine lq (.bool (((W (x63 + (1 : Int))).tmod (3 : Int)) == (0 : Int))) S (q_eql rfl rfl) fun a S => ?_
   obtain ⟨x110, e111, hm⟩ := bind_some hm
   have hlt := lt_of_idx (idx_some e111).2
   refine lq (ePtr p0 (x64.toNat * 3)) S (q_indexAddr rfl (H.isSl 0 rfl) rfl (idx_some e111).1 hlt Tryz.underlying22 Tryz.sizeOf48) fun a S => ?_
   refine lq (pAdd (ePtr p0 (x64.toNat * 3)) 1) S (q_fieldAddr' 1 4 rfl (((H.isSl 0 rfl)).ptr (lt_of_idx (idx_some e111).2) _) Tryz.underlying48 rfl Tryz.sizeOf4) fun a S => ?_
   refine lx_storeElem (r := Rimpl_Equation) (us := [(.bool (((W (x63 + (1 : Int))).tmod (3 : Int)) == (0 : Int)))]) (off := 1) (e' := (x110.1, (((W (x63 + (1 : Int))).tmod (3 : Int)) == (0 : Int)), x110.2.2)) S trivial rfl H.putE rfl rfl (idx_some e111).2 rfl Tryz.sizeOf4 (Nat.le_of_ble_eq_true rfl) (List.forall_mem_cons.2 ⟨rfl, (fun _ h => nomatch h)⟩) (Upd.snd (off := 0) (Upd.fst (off := 0) (Nat.le_of_ble_eq_true rfl) (Upd.full rfl (fun w G hG => by cases (show G = [] from hG); exact ⟨rfl, rfl⟩)))) (fun w112 H => ⟨trivial, fun a S => ?_⟩)
   refine lx_nil (thenN ?_)
   refine wp_seq (region_plain ?_)
   refine lq (.int .i64 (W (x63 + (1 : Int)))) S (q_move rfl) fun a S => ?_
   refine lq (.int .i64 (W ((W (x63 + (1 : Int))) + (1 : Int)))) S (q_add rfl rfl) fun a S => ?_
   refine lq (.int .i64 (W ((W (x63 + (1 : Int))) + (1 : Int)))) S (q_assign rfl) fun a S => ?_
   refine lx_nil (thenN ?_)
   refine region_plain ?_
   refine lq p0 S (q_move rfl) fun a S => ?_
   refine lq (.int .i64 x64) S (q_move rfl) fun a S => ?_
   obtain ⟨x113, e114, hm⟩ := bind_some hm
   have hlt := lt_of_idx (idx_some e114).2
   refine lq (ePtr p0 (x64.toNat * 3)) S (q_indexAddr rfl (H.isSl 0 rfl) rfl (idx_some e114).1 hlt Tryz.underlying22 Tryz.sizeOf48) fun a S => ?_
   refine lq (pAdd (ePtr p0 (x64.toNat * 3)) 2) S (q_fieldAddr' 2 44 rfl (((H.isSl 0 rfl)).ptr (lt_of_idx (idx_some e114).2) _) Tryz.underlying48 rfl Tryz.sizeOf44) fun a S => ?_
   obtain ⟨c115, h116, hat117⟩ := (H.rdAt 0 rfl).elem (idx_some e114).2
   obtain ⟨c120, c121, rfl, h122, h123⟩ := h116
   obtain rfl := h122
   obtain ⟨c124, c125, rfl, h126, h127⟩ := h123
   obtain rfl := h126
   obtain ⟨v118, rfl, h119⟩ := rd_list h127
   refine lx_e v118 S trivial (by decide) rfl trivial (q_load1 rfl Tryz.isAgg44 (by rintro _ rfl; exact (At.of_add (m := 2) (j := 0) (hat117 2 _ rfl)))) (fun a S => ?_)
   refine lq (.int .i64 (W ((W (x63 + (1 : Int))) + (1 : Int)))) S (q_move rfl) fun a S => ?_
   obtain ⟨x130, e131, hm⟩ := bind_some hm
   obtain ⟨u132, hat133, H⟩ := H.lend (idx_some e114).2 (Lend.snd (off := 1) (Lend.snd (off := 0) (Lend.here)))
   obtain rfl : v118 = u132 := At.eq (hat117 2 _ rfl) hat133
   refine lx_call (xs := [.tmp 34, .tmp 35]) S trivial (by decide) rfl rfl Tryz.call29 ((laws_markInt64S_ok H  e131).mono ?_)
   rintro e w128 ⟨rfl, H⟩
   have H : Heap w00 (oA (rList Rimpl_Equation) p0 (((xs62.set x64.toNat (((x63.tmod (3 : Int)) == (0 : Int)), x107.2.1, x107.2.2)).set x64.toNat (x110.1, (((W (x63 + (1 : Int))).tmod (3 : Int)) == (0 : Int)), x110.2.2)).set x64.toNat (x113.1, x113.2.1, x130.2)) :: L) w128 := H.back
   refine ⟨_, rfl, trivial, fun a S => ?_⟩
   refine lq (.int .i64 x130.1) S (q_assign rfl) fun a S => ?_
   refine lx_nil ?_
   refine inBlock_norm ?_
   refine thenN ?_
   refine region_plain ?_
   refine lq (.int .i64 x64) S (q_move rfl) fun a S => ?_
   refine lq (.int .i64 (W (x64 + (1 : Int)))) S (q_add rfl rfl) fun a S => ?_
   refine lq (.int .i64 (W (x64 + (1 : Int)))) S (q_assign rfl) fun a S => ?_
   refine lx_nil ?_
   exact ⟨m103, Nat.lt_succ_self _, (((xs62.set x64.toNat (((x63.tmod (3 : Int)) == (0 : Int)), x107.2.1, x107.2.2)).set x64.toNat (x110.1, (((W (x63 + (1 : Int))).tmod (3 : Int)) == (0 : Int)), x110.2.2)).set x64.toNat (x113.1, x113.2.1, x130.2)), x130.1, (W (x64 + (1 : Int))), S.sub ⟨rfl, rfl, rfl, trivial⟩, H, it_cont hm hc105⟩
  ·have hm := ite_f hc106 hm
   refine wp_exit ?_
   refine then_exit ?_
   refine then_exit ?_
   refine inBlock_exit ?_
   obtain rfl := it_brk hm hc105
   exact ⟨x63, xs62, S.sub ⟨rfl, trivial⟩, H, rfl⟩

/-- laws.heldInt64S -/
def laws_heldInt64S_m (fuel : Nat) (a0 : (List Int)) (a1 : Int) : Option (Int) :=
  (iter (fun (s : (Int) × (Int)) => (match s with | (x40, x41) => (if (decide (x41 < (a0.length : Int))) = true then (idx a0 x41).bind fun x61 => (if (x61 != x40) = true then some (.inr (.inr (-1 : Int))) else some (.inl ((W (x40 + (1 : Int))), (W (x41 + (1 : Int)))))) else some (.inr (.inl (x40)))) : Option (((Int) × (Int)) ⊕ ((Int) ⊕ (Int))))) fuel (a1, (0 : Int))).bind fun res52 => ctl (β := Int) (ρ := Int) (τ := Int) res52 (fun (x51) => some (x51)) (fun q => some (q))
set_option maxRecDepth 20000 in
theorem laws_heldInt64S_ok {w0 : World} {fuel : Nat} {p0 : Value} {a0 : (List Int)} {a1 : Int} {r : Int} (h0 : Rd (rList (rInt .i64)) w0 p0 a0) (hm : laws_heldInt64S_m fuel a0 a1 = some r) :
  Calls Tryz.prog 30 #[p0, .int .i64 a1] w0 fun e w => e = .returned (.int .i64 r) ∧ Heap w0 [] w := by
 unfold laws_heldInt64S_m at hm
 have H := Heap.start w0
 refine enter (args := [p0, .int .i64 a1]) Tryz.func30 rfl 21 rfl (Nat.le_of_ble_eq_true rfl) (fun a S => ?_)
 refine wp_seq (region_plain ?_)
 refine lq (.int .i64 (0 : Int)) S (q_assign rfl) fun a S => ?_
 refine lx_nil (thenN ?_)
 refine wp_seq (wp_seq (region_plain ?_))
 refine lq (.int .i64 (0 : Int)) S (q_assign rfl) fun a S => ?_
 refine lx_nil (thenN ?_)
 obtain ⟨res52, hit53, hk56⟩ := bind_some hm
 obtain ⟨f54, hf55, hit53⟩ := iter_name hit53
 refine block_loop (fun a w => ∃ (x51 : Int), Slots a 21 [(1, (.int .i64 x51))] ∧ Heap w0 [] w ∧ res52 = .inl (x51)) ?_ ?_
 ·rintro a w ⟨x51, S, H, rfl⟩
  have hm := ctl_inl hk56
  refine thenN ?_
  refine wp_seq (region_plain ?_)
  refine lq (.int .i64 x51) S (q_move rfl) fun a S => ?_
  refine lq (.int .i64 x51) S (q_assign rfl) fun a S => ?_
  refine lx_nil (thenN ?_)
  refine wp_ret ?_
  obtain rfl := Option.some.inj hm
  exact leave1 S rfl rfl ⟨rfl, H⟩
 ·skip
  refine loop_ghost (fun n a w => ∃ (x40 : Int) (x41 : Int), Slots a 21 [(0, p0), (1, (.int .i64 x40)), (5, (.int .i64 x41))] ∧ Heap w0 [] w ∧ iter f54 n (x40, x41) = some res52) _ ⟨a1, (0 : Int), S.sub ⟨rfl, rfl, rfl, trivial⟩, H, hit53⟩ ?_
  rintro n a w ⟨x40, x41, S, H, hit53⟩
  obtain ⟨m57, o58, rfl, hm, hc59⟩ := iter_step hit53
  rw [hf55] at hm
  refine wp_seq (wp_seq (region_plain ?_))
  refine lq (.int .i64 x41) S (q_move rfl) fun a S => ?_
  refine lq p0 S (q_move rfl) fun a S => ?_
  refine lq (.int .i64 (a0.length : Int)) S (q_lenSl rfl (h0).isSl rfl Tryz.underlying44) fun a S => ?_
  refine lq (.bool (decide (x41 < (a0.length : Int)))) S (q_lss rfl rfl) fun a S => ?_
  refine lx_nil (thenN ?_)
  refine cond_b S rfl (fun hc60 => ?_) (fun hc60 => ?_)
  ·have hm := ite_t hc60 hm
   refine wp_skip (thenN ?_)
   refine wp_seq ?_
   refine wp_block ?_
   refine wp_seq (wp_seq (region_plain ?_))
   refine lq p0 S (q_move rfl) fun a S => ?_
   refine lq (.int .i64 x41) S (q_move rfl) fun a S => ?_
   obtain ⟨x61, e62, hm⟩ := bind_some hm
   obtain ⟨c63, h64, hat65⟩ := (h0).elem (idx_some e62).2
   obtain rfl := h64
   have hlt := lt_of_idx (idx_some e62).2
   refine lq (ePtr p0 (x41.toNat * 1)) S (q_indexAddr rfl (h0).isSl rfl (idx_some e62).1 hlt Tryz.underlying44 Tryz.sizeOf2) fun a S => ?_
   refine lx_e (.int .i64 x61) S trivial (by decide) rfl trivial (q_load1 rfl Tryz.isAgg2 (by rintro _ rfl; exact ((hat65 0 _ rfl).ext H.ext))) (fun a S => ?_)
   refine lq (.int .i64 x40) S (q_move rfl) fun a S => ?_
   refine lq (.bool (x61 != x40)) S (q_neq rfl rfl) fun a S => ?_
   refine lx_nil (thenN ?_)
   refine cond_b S rfl (fun hc66 => ?_) (fun hc66 => ?_)
   ·have hm := ite_t hc66 hm
    refine wp_seq (region_plain ?_)
    refine lq (.int .i64 (-1 : Int)) S (q_assign rfl) fun a S => ?_
    refine lx_nil (thenN ?_)
    refine wp_ret (then_ret ?_)
    refine inBlock_ret ?_
    refine then_ret ?_
    refine then_ret ?_
    refine inBlock_ret ?_
    refine then_ret ?_
    refine then_ret ?_
    obtain rfl := it_brk hm hc59
    have hm := ctl_inr hk56
    obtain rfl := Option.some.inj hm
    exact leave1 S rfl rfl ⟨rfl, H⟩
   ·have hm := ite_f hc66 hm
    refine wp_skip (thenN ?_)
    refine region_plain ?_
    refine lq (.int .i64 x40) S (q_move rfl) fun a S => ?_
    refine lq (.int .i64 (W (x40 + (1 : Int)))) S (q_add rfl rfl) fun a S => ?_
    refine lq (.int .i64 (W (x40 + (1 : Int)))) S (q_assign rfl) fun a S => ?_
    refine lx_nil ?_
    refine inBlock_norm ?_
    refine thenN ?_
    refine region_plain ?_
    refine lq (.int .i64 x41) S (q_move rfl) fun a S => ?_
    refine lq (.int .i64 (W (x41 + (1 : Int)))) S (q_add rfl rfl) fun a S => ?_
    refine lq (.int .i64 (W (x41 + (1 : Int)))) S (q_assign rfl) fun a S => ?_
    refine lx_nil ?_
    exact ⟨m57, Nat.lt_succ_self _, (W (x40 + (1 : Int))), (W (x41 + (1 : Int))), S.sub ⟨rfl, rfl, rfl, trivial⟩, H, it_cont hm hc59⟩
  ·have hm := ite_f hc60 hm
   refine wp_exit ?_
   refine then_exit ?_
   refine then_exit ?_
   refine inBlock_exit ?_
   obtain rfl := it_brk hm hc59
   exact ⟨x40, S.sub ⟨rfl, trivial⟩, H, rfl⟩

/-- laws.heldEquationS -/
def laws_heldEquationS_m (fuel : Nat) (a0 : (List Timpl_Equation)) (a1 : Int) : Option (Int) :=
  (iter (fun (s : (Int) × (Int)) => (match s with | (x87, x88) => (if (decide (x88 < (a0.length : Int))) = true then (idx a0 x88).bind fun x155 => (if (x155.1 != ((x87.tmod (3 : Int)) == (0 : Int))) = true then some (.inr (.inr (-1 : Int))) else (idx a0 x88).bind fun x171 => (if (x171.2.1 != (((W (x87 + (1 : Int))).tmod (3 : Int)) == (0 : Int))) = true then some (.inr (.inr (-1 : Int))) else (idx a0 x88).bind fun x187 => (laws_heldInt64S_m fuel x187.2.2 (W ((W (x87 + (1 : Int))) + (1 : Int)))).bind fun x204 => (if (decide (x204 < (0 : Int))) = true then some (.inr (.inr (-1 : Int))) else some (.inl (x204, (W (x88 + (1 : Int)))))))) else some (.inr (.inl (x87)))) : Option (((Int) × (Int)) ⊕ ((Int) ⊕ (Int))))) fuel (a1, (0 : Int))).bind fun res146 => ctl (β := Int) (ρ := Int) (τ := Int) res146 (fun (x145) => some (x145)) (fun q => some (q))
set_option maxRecDepth 20000 in
theorem laws_heldEquationS_ok {w0 : World} {fuel : Nat} {p0 : Value} {a0 : (List Timpl_Equation)} {a1 : Int} {r : Int} (h0 : Rd (rList Rimpl_Equation) w0 p0 a0) (hm : laws_heldEquationS_m fuel a0 a1 = some r) :
  Calls Tryz.prog 10 #[p0, .int .i64 a1] w0 fun e w => e = .returned (.int .i64 r) ∧ Heap w0 [] w := by
 unfold laws_heldEquationS_m at hm
 have H := Heap.start w0
 refine enter (args := [p0, .int .i64 a1]) Tryz.func10 rfl 44 rfl (Nat.le_of_ble_eq_true rfl) (fun a S => ?_)
 refine wp_seq (region_plain ?_)
 refine lq (.int .i64 (0 : Int)) S (q_assign rfl) fun a S => ?_
 refine lx_nil (thenN ?_)
 refine wp_seq (wp_seq (region_plain ?_))
 refine lq (.int .i64 (0 : Int)) S (q_assign rfl) fun a S => ?_
 refine lx_nil (thenN ?_)
 obtain ⟨res146, hit147, hk150⟩ := bind_some hm
 obtain ⟨f148, hf149, hit147⟩ := iter_name hit147
 refine block_loop (fun a w => ∃ (x145 : Int), Slots a 44 [(1, (.int .i64 x145))] ∧ Heap w0 [] w ∧ res146 = .inl (x145)) ?_ ?_
 ·rintro a w ⟨x145, S, H, rfl⟩
  have hm := ctl_inl hk150
  refine thenN ?_
  refine wp_seq (region_plain ?_)
  refine lq (.int .i64 x145) S (q_move rfl) fun a S => ?_
  refine lq (.int .i64 x145) S (q_assign rfl) fun a S => ?_
  refine lx_nil (thenN ?_)
  refine wp_ret ?_
  obtain rfl := Option.some.inj hm
  exact leave1 S rfl rfl ⟨rfl, H⟩
 ·skip
  refine loop_ghost (fun n a w => ∃ (x87 : Int) (x88 : Int), Slots a 44 [(0, p0), (1, (.int .i64 x87)), (5, (.int .i64 x88))] ∧ Heap w0 [] w ∧ iter f148 n (x87, x88) = some res146) _ ⟨a1, (0 : Int), S.sub ⟨rfl, rfl, rfl, trivial⟩, H, hit147⟩ ?_
  rintro n a w ⟨x87, x88, S, H, hit147⟩
  obtain ⟨m151, o152, rfl, hm, hc153⟩ := iter_step hit147
  rw [hf149] at hm
  refine wp_seq (wp_seq (region_plain ?_))
  refine lq (.int .i64 x88) S (q_move rfl) fun a S => ?_
  refine lq p0 S (q_move rfl) fun a S => ?_
  refine lq (.int .i64 (a0.length : Int)) S (q_lenSl rfl (h0).isSl rfl Tryz.underlying22) fun a S => ?_
  refine lq (.bool (decide (x88 < (a0.length : Int)))) S (q_lss rfl rfl) fun a S => ?_
  refine lx_nil (thenN ?_)
  refine cond_b S rfl (fun hc154 => ?_) (fun hc154 => ?_)
  ·have hm := ite_t hc154 hm
   refine wp_skip (thenN ?_)
   refine wp_seq ?_
   refine wp_block ?_
   refine wp_seq (wp_seq (region_plain ?_))
   refine lq p0 S (q_move rfl) fun a S => ?_
   refine lq (.int .i64 x88) S (q_move rfl) fun a S => ?_
   obtain ⟨x155, e156, hm⟩ := bind_some hm
   obtain ⟨c157, h158, hat159⟩ := (h0).elem (idx_some e156).2
   obtain ⟨c162, c163, rfl, h164, h165⟩ := h158
   obtain rfl := h164
   obtain ⟨c166, c167, rfl, h168, h169⟩ := h165
   obtain rfl := h168
   obtain ⟨v160, rfl, h161⟩ := rd_list h169
   have hlt := lt_of_idx (idx_some e156).2
   refine lq (ePtr p0 (x88.toNat * 3)) S (q_indexAddr rfl (h0).isSl rfl (idx_some e156).1 hlt Tryz.underlying22 Tryz.sizeOf48) fun a S => ?_
   refine lq (pAdd (ePtr p0 (x88.toNat * 3)) 0) S (q_fieldAddr' 0 4 rfl ((hat159 0 _ rfl).isP) Tryz.underlying48 rfl Tryz.sizeOf4) fun a S => ?_
   refine lx_e (.bool x155.1) S trivial (by decide) rfl trivial (q_load1 rfl Tryz.isAgg4 (by rintro _ rfl; exact (At.of_add (m := 0) (j := 0) ((hat159 0 _ rfl).ext H.ext)))) (fun a S => ?_)
   refine lq (.int .i64 x87) S (q_move rfl) fun a S => ?_
   refine lq (.int .i64 (x87.tmod (3 : Int))) S (q_rem rfl rfl (show (3 : Int) ≠ 0 from by decide)) fun a S => ?_
   refine lq (.bool ((x87.tmod (3 : Int)) == (0 : Int))) S (q_eql rfl rfl) fun a S => ?_
   refine lq (.bool (x155.1 != ((x87.tmod (3 : Int)) == (0 : Int)))) S (q_bneq rfl rfl Tryz.underlying4) fun a S => ?_
   refine lx_nil (thenN ?_)
   refine cond_b S rfl (fun hc170 => ?_) (fun hc170 => ?_)
   ·have hm := ite_t hc170 hm
    refine wp_seq (region_plain ?_)
    refine lq (.int .i64 (-1 : Int)) S (q_assign rfl) fun a S => ?_
    refine lx_nil (thenN ?_)
    refine wp_ret (then_ret ?_)
    refine inBlock_ret ?_
    refine then_ret ?_
    refine then_ret ?_
    refine inBlock_ret ?_
    refine then_ret ?_
    refine then_ret ?_
    obtain rfl := it_brk hm hc153
    have hm := ctl_inr hk150
    obtain rfl := Option.some.inj hm
    exact leave1 S rfl rfl ⟨rfl, H⟩
   ·have hm := ite_f hc170 hm
    refine wp_skip (thenN ?_)
    refine wp_seq (region_plain ?_)
    refine lq (.int .i64 x87) S (q_move rfl) fun a S => ?_
    refine lq (.int .i64 (W (x87 + (1 : Int)))) S (q_add rfl rfl) fun a S => ?_
    refine lq (.int .i64 (W (x87 + (1 : Int)))) S (q_assign rfl) fun a S => ?_
    refine lx_nil (thenN ?_)
    refine wp_seq (wp_seq (region_plain ?_))
    refine lq p0 S (q_move rfl) fun a S => ?_
    refine lq (.int .i64 x88) S (q_move rfl) fun a S => ?_
    obtain ⟨x171, e172, hm⟩ := bind_some hm
    obtain ⟨c173, h174, hat175⟩ := (h0).elem (idx_some e172).2
    obtain ⟨c178, c179, rfl, h180, h181⟩ := h174
    obtain rfl := h180
    obtain ⟨c182, c183, rfl, h184, h185⟩ := h181
    obtain rfl := h184
    obtain ⟨v176, rfl, h177⟩ := rd_list h185
    have hlt := lt_of_idx (idx_some e172).2
    refine lq (ePtr p0 (x88.toNat * 3)) S (q_indexAddr rfl (h0).isSl rfl (idx_some e172).1 hlt Tryz.underlying22 Tryz.sizeOf48) fun a S => ?_
    refine lq (pAdd (ePtr p0 (x88.toNat * 3)) 1) S (q_fieldAddr' 1 4 rfl ((hat175 0 _ rfl).isP) Tryz.underlying48 rfl Tryz.sizeOf4) fun a S => ?_
    refine lx_e (.bool x171.2.1) S trivial (by decide) rfl trivial (q_load1 rfl Tryz.isAgg4 (by rintro _ rfl; exact (At.of_add (m := 1) (j := 0) ((hat175 1 _ rfl).ext H.ext)))) (fun a S => ?_)
    refine lq (.int .i64 (W (x87 + (1 : Int)))) S (q_move rfl) fun a S => ?_
    refine lq (.int .i64 ((W (x87 + (1 : Int))).tmod (3 : Int))) S (q_rem rfl rfl (show (3 : Int) ≠ 0 from by decide)) fun a S => ?_
    refine lq (.bool (((W (x87 + (1 : Int))).tmod (3 : Int)) == (0 : Int))) S (q_eql rfl rfl) fun a S => ?_
    refine lq (.bool (x171.2.1 != (((W (x87 + (1 : Int))).tmod (3 : Int)) == (0 : Int)))) S (q_bneq rfl rfl Tryz.underlying4) fun a S => ?_
    refine lx_nil (thenN ?_)
    refine cond_b S rfl (fun hc186 => ?_) (fun hc186 => ?_)
    ·have hm := ite_t hc186 hm
     refine wp_seq (region_plain ?_)
     refine lq (.int .i64 (-1 : Int)) S (q_assign rfl) fun a S => ?_
     refine lx_nil (thenN ?_)
     refine wp_ret (then_ret ?_)
     refine inBlock_ret ?_
     refine then_ret ?_
     refine then_ret ?_
     refine inBlock_ret ?_
     refine then_ret ?_
     refine then_ret ?_
     obtain rfl := it_brk hm hc153
     have hm := ctl_inr hk150
     obtain rfl := Option.some.inj hm
     exact leave1 S rfl rfl ⟨rfl, H⟩
    ·have hm := ite_f hc186 hm
     refine wp_skip (thenN ?_)
     refine wp_seq (region_plain ?_)
     refine lq (.int .i64 (W (x87 + (1 : Int)))) S (q_move rfl) fun a S => ?_
     refine lq (.int .i64 (W ((W (x87 + (1 : Int))) + (1 : Int)))) S (q_add rfl rfl) fun a S => ?_
     refine lq (.int .i64 (W ((W (x87 + (1 : Int))) + (1 : Int)))) S (q_assign rfl) fun a S => ?_
     refine lx_nil (thenN ?_)
     refine wp_seq (region_plain ?_)
     refine lq p0 S (q_move rfl) fun a S => ?_
     refine lq (.int .i64 x88) S (q_move rfl) fun a S => ?_
     obtain ⟨x187, e188, hm⟩ := bind_some hm
     obtain ⟨c189, h190, hat191⟩ := (h0).elem (idx_some e188).2
     obtain ⟨c194, c195, rfl, h196, h197⟩ := h190
     obtain rfl := h196
     obtain ⟨c198, c199, rfl, h200, h201⟩ := h197
     obtain rfl := h200
     obtain ⟨v192, rfl, h193⟩ := rd_list h201
     have hlt := lt_of_idx (idx_some e188).2
     refine lq (ePtr p0 (x88.toNat * 3)) S (q_indexAddr rfl (h0).isSl rfl (idx_some e188).1 hlt Tryz.underlying22 Tryz.sizeOf48) fun a S => ?_
     refine lq (pAdd (ePtr p0 (x88.toNat * 3)) 2) S (q_fieldAddr' 2 44 rfl ((hat191 0 _ rfl).isP) Tryz.underlying48 rfl Tryz.sizeOf44) fun a S => ?_
     refine lx_e v192 S trivial (by decide) rfl trivial (q_load1 rfl Tryz.isAgg44 (by rintro _ rfl; exact (At.of_add (m := 2) (j := 0) ((hat191 2 _ rfl).ext H.ext)))) (fun a S => ?_)
     refine lq (.int .i64 (W ((W (x87 + (1 : Int))) + (1 : Int)))) S (q_move rfl) fun a S => ?_
     obtain ⟨x204, e205, hm⟩ := bind_some hm
     refine lx_call (xs := [.tmp 38, .tmp 39]) S trivial (by decide) rfl rfl Tryz.call30 ((laws_heldInt64S_ok (H.arg h193)  e205).mono ?_)
     rintro e w202 ⟨rfl, Hc203⟩
     have H := H.call0 Hc203
     refine ⟨_, rfl, trivial, fun a S => ?_⟩
     refine lq (.int .i64 x204) S (q_assign rfl) fun a S => ?_
     refine lx_nil (thenN ?_)
     refine wp_seq (region_plain ?_)
     refine lq (.int .i64 x204) S (q_move rfl) fun a S => ?_
     refine lq (.bool (decide (x204 < (0 : Int)))) S (q_lss rfl rfl) fun a S => ?_
     refine lx_nil (thenN ?_)
     refine cond_b S rfl (fun hc207 => ?_) (fun hc207 => ?_)
     ·have hm := ite_t hc207 hm
      refine wp_seq (region_plain ?_)
      refine lq (.int .i64 (-1 : Int)) S (q_assign rfl) fun a S => ?_
      refine lx_nil (thenN ?_)
      refine wp_ret (inBlock_ret ?_)
      refine then_ret ?_
      refine then_ret ?_
      refine inBlock_ret ?_
      refine then_ret ?_
      refine then_ret ?_
      obtain rfl := it_brk hm hc153
      have hm := ctl_inr hk150
      obtain rfl := Option.some.inj hm
      exact leave1 S rfl rfl ⟨rfl, H⟩
     ·have hm := ite_f hc207 hm
      refine wp_skip ?_
      refine inBlock_norm ?_
      refine thenN ?_
      refine region_plain ?_
      refine lq (.int .i64 x88) S (q_move rfl) fun a S => ?_
      refine lq (.int .i64 (W (x88 + (1 : Int)))) S (q_add rfl rfl) fun a S => ?_
      refine lq (.int .i64 (W (x88 + (1 : Int)))) S (q_assign rfl) fun a S => ?_
      refine lx_nil ?_
      exact ⟨m151, Nat.lt_succ_self _, x204, (W (x88 + (1 : Int))), S.sub ⟨rfl, rfl, rfl, trivial⟩, H, it_cont hm hc153⟩
  ·have hm := ite_f hc154 hm
   refine wp_exit ?_
   refine then_exit ?_
   refine then_exit ?_
   refine inBlock_exit ?_
   obtain rfl := it_brk hm hc153
   exact ⟨x87, S.sub ⟨rfl, trivial⟩, H, rfl⟩

/-- laws.FnExactReadEquations -/
def laws_FnExactReadEquations_m (fuel : Nat) (a0 : Str) : Option (Bool) :=
  (if (decide ((1048576 : Int) < (a0.length : Int))) = true then some (true) else (spec_ReadEquations_m fuel a0).bind fun x34 => (impl_ReadEquations_m fuel a0).bind fun x41 => (laws_eqEquationS_m fuel x41.1 x34.1).bind fun x48 => (if (!x48) = true then some true else some (x41.2 != x34.2)).bind fun t51 => (if t51 = true then some (false) else (laws_markEquationS_m fuel x41.1 (1 : Int)).bind fun x57 => (laws_heldEquationS_m fuel x57.2 (1 : Int)).bind fun x61 => (if (decide (x61 < (0 : Int))) = true then some (false) else (if (x61 != x57.1) = true then some (false) else (impl_ReadEquations_m fuel a0).bind fun x68 => (laws_eqEquationS_m fuel x68.1 x34.1).bind fun x75 => (if (!x75) = true then some true else some (x68.2 != x34.2)).bind fun t78 => (if t78 = true then some (false) else (laws_heldEquationS_m fuel x57.2 (1 : Int)).bind fun x84 => (if (decide (x84 < (0 : Int))) = true then some (false) else (if (x84 != x57.1) = true then some (false) else some (true))))))))
set_option maxRecDepth 20000 in
theorem laws_FnExactReadEquations_ok {w0 : World} {fuel : Nat} {a0 : Str} {r : Bool} (hG : GlobE Tryz.prog w0) (hm : laws_FnExactReadEquations_m fuel a0 = some r) :
  Calls Tryz.prog 3 #[sv a0] w0 fun e w => e = .returned (.bool r) ∧ Heap w0 [] w := by
 unfold laws_FnExactReadEquations_m at hm
 have H := Heap.start w0
 refine enter (args := [sv a0]) Tryz.func3 rfl 66 rfl (Nat.le_of_ble_eq_true rfl) (fun a S => ?_)
 refine wp_seq (region_plain ?_)
 refine lq (.bool false) S (q_assign rfl) fun a S => ?_
 refine lx_nil (thenN ?_)
 refine wp_seq (wp_seq (region_plain ?_))
 refine lq (sv a0) S (q_move rfl) fun a S => ?_
 refine lq (.int .i64 (a0.length : Int)) S (q_lenStr rfl rfl Tryz.underlying9) fun a S => ?_
 refine lq (.bool (decide ((1048576 : Int) < (a0.length : Int)))) S (q_gtr rfl rfl) fun a S => ?_
 refine lx_nil (thenN ?_)
 refine cond_b S rfl (fun hc31 => ?_) (fun hc31 => ?_)
 ·have hm := ite_t hc31 hm
  refine wp_seq (region_plain ?_)
  refine lq (.bool true) S (q_assign rfl) fun a S => ?_
  refine lx_nil (thenN ?_)
  refine wp_ret (then_ret ?_)
  obtain rfl := Option.some.inj hm
  exact leave1 S rfl rfl ⟨rfl, H⟩
 ·have hm := ite_f hc31 hm
  refine wp_skip (thenN ?_)
  refine wp_seq (region_plain ?_)
  refine lq (sv a0) S (q_move rfl) fun a S => ?_
  obtain ⟨x34, e35, hm⟩ := bind_some hm
  refine lx_call (xs := [.tmp 15]) S trivial (by decide) rfl rfl Tryz.call6 ((spec_ReadEquations_ok  e35).mono ?_)
  rintro e w32 ⟨v36, rfl, Hc33⟩
  have H := H.call1 Hc33
  refine ⟨_, rfl, trivial, fun a S => ?_⟩
  refine lq (.tuple #[v36, (.bool x34.2)]) S (q_move rfl) fun a S => ?_
  refine lq v36 S (q_extract rfl rfl) fun a S => ?_
  refine lq (.bool x34.2) S (q_extract rfl rfl) fun a S => ?_
  refine lq v36 S (q_assign rfl) fun a S => ?_
  refine lq (.bool x34.2) S (q_assign rfl) fun a S => ?_
  refine lx_nil (thenN ?_)
  refine wp_seq (region_plain ?_)
  refine lq (sv a0) S (q_move rfl) fun a S => ?_
  obtain ⟨x41, e42, hm⟩ := bind_some hm
  refine lx_call (xs := [.tmp 20]) S trivial (by decide) rfl rfl Tryz.call7 ((impl_ReadEquations_ok (hG.ext H.ext)  e42).mono ?_)
  rintro e w39 ⟨v43, rfl, Hc40⟩
  have H := H.call1 Hc40
  refine ⟨_, rfl, trivial, fun a S => ?_⟩
  refine lq (.tuple #[v43, (.bool x41.2)]) S (q_move rfl) fun a S => ?_
  refine lq v43 S (q_extract rfl rfl) fun a S => ?_
  refine lq (.bool x41.2) S (q_extract rfl rfl) fun a S => ?_
  refine lq v43 S (q_assign rfl) fun a S => ?_
  refine lq (.bool x41.2) S (q_assign rfl) fun a S => ?_
  refine lx_nil (thenN ?_)
  refine wp_seq (wp_seq (region_plain ?_))
  refine lq v43 S (q_move rfl) fun a S => ?_
  refine lq v36 S (q_move rfl) fun a S => ?_
  obtain ⟨x48, e49, hm⟩ := bind_some hm
  refine lx_call (xs := [.tmp 24, .tmp 25]) S trivial (by decide) rfl rfl Tryz.call8 ((laws_eqEquationS_ok (H.rdAt 0 rfl) (H.rdAt 1 rfl) e49).mono ?_)
  rintro e w46 ⟨rfl, Hc47⟩
  have H := H.call0 Hc47
  refine ⟨_, rfl, trivial, fun a S => ?_⟩
  refine lq (.bool (!x48)) S (q_not rfl) fun a S => ?_
  refine lq (.bool (!x48)) S (q_move rfl) fun a S => ?_
  obtain ⟨t51, e52, hm⟩ := bind_some hm
  refine lx_cut 4 (fun a w => Slots a 66 [(0, (sv a0)), (3, v36), (4, (.bool x34.2)), (5, v43), (32, (.bool t51))] ∧ Heap w0 [oA (rList Rimpl_Equation) v43 x41.1, oA (rList Rimpl_Equation) v36 x34.1] w) ?_ ?_
  ·by_cases hc53 : (!x48) = true
   ·have hm := ite_t hc53 e52
    refine lx_skip S rfl rfl (isB_ne hc53) (by decide) (fun a S => ?_)
    refine lx_skip S rfl rfl (isB_ne hc53) (by decide) (fun a S => ?_)
    refine lx_skip S rfl rfl (isB_ne hc53) (by decide) (fun a S => ?_)
    refine lq (.bool true) S (q_pickT' rfl hc53 rfl) fun a S => ?_
    refine lx_nil ?_
    obtain rfl := Option.some.inj hm
    exact ⟨S.sub ⟨rfl, rfl, rfl, rfl, rfl, trivial⟩, H⟩
   ·have hm := ite_f (eq_false_of_ne_true hc53) e52
    have hc53 : (!x48) = false := eq_false_of_ne_true hc53
    refine lx_q (.bool x41.2) S (want_b rfl rfl hc53) (by decide) (q_move rfl) (fun a S => ?_)
    refine lx_q (.bool x34.2) S (want_b rfl rfl hc53) (by decide) (q_move rfl) (fun a S => ?_)
    refine lx_q (.bool (x41.2 != x34.2)) S (want_b rfl rfl hc53) (by decide) (q_bneq rfl rfl Tryz.underlying4) (fun a S => ?_)
    refine lq (.bool (x41.2 != x34.2)) S (q_pickF' rfl hc53 rfl) fun a S => ?_
    refine lx_nil ?_
    obtain rfl := Option.some.inj hm
    exact ⟨S.sub ⟨rfl, rfl, rfl, rfl, rfl, trivial⟩, H⟩
  ·rintro a w ⟨S, H⟩
   refine lx_nil (thenN ?_)
   refine cond_b S rfl (fun hc54 => ?_) (fun hc54 => ?_)
   ·have hm := ite_t hc54 hm
    refine wp_seq (region_plain ?_)
    refine lq (.bool false) S (q_assign rfl) fun a S => ?_
    refine lx_nil (thenN ?_)
    refine wp_ret (then_ret ?_)
    obtain rfl := Option.some.inj hm
    have H : Heap w0 [] w := H.sel [] (by decide)
    exact leave1 S rfl rfl ⟨rfl, H⟩
   ·have hm := ite_f hc54 hm
    refine wp_skip (thenN ?_)
    refine wp_seq (region_plain ?_)
    refine lq (.int .i64 (1 : Int)) S (q_assign rfl) fun a S => ?_
    refine lx_nil (thenN ?_)
    refine wp_seq (region_plain ?_)
    refine lq v43 S (q_move rfl) fun a S => ?_
    refine lq (.int .i64 (1 : Int)) S (q_move rfl) fun a S => ?_
    obtain ⟨x57, e58, hm⟩ := bind_some hm
    refine lx_call (xs := [.tmp 33, .tmp 34]) S trivial (by decide) rfl rfl Tryz.call9 ((laws_markEquationS_ok H  e58).mono ?_)
    rintro e w55 ⟨rfl, H⟩
    refine ⟨_, rfl, trivial, fun a S => ?_⟩
    refine lq (.int .i64 x57.1) S (q_assign rfl) fun a S => ?_
    refine lx_nil (thenN ?_)
    refine wp_seq (region_plain ?_)
    refine lq (.int .i64 (1 : Int)) S (q_assign rfl) fun a S => ?_
    refine lx_nil (thenN ?_)
    refine wp_seq (region_plain ?_)
    refine lq v43 S (q_move rfl) fun a S => ?_
    refine lq (.int .i64 (1 : Int)) S (q_move rfl) fun a S => ?_
    obtain ⟨x61, e62, hm⟩ := bind_some hm
    refine lx_call (xs := [.tmp 36, .tmp 37]) S trivial (by decide) rfl rfl Tryz.call10 ((laws_heldEquationS_ok (H.rdAt 0 rfl)  e62).mono ?_)
    rintro e w59 ⟨rfl, Hc60⟩
    have H := H.call0 Hc60
    refine ⟨_, rfl, trivial, fun a S => ?_⟩
    refine lq (.int .i64 x61) S (q_assign rfl) fun a S => ?_
    refine lx_nil (thenN ?_)
    refine wp_seq (wp_seq (region_plain ?_))
    refine lq (.int .i64 x61) S (q_move rfl) fun a S => ?_
    refine lq (.bool (decide (x61 < (0 : Int)))) S (q_lss rfl rfl) fun a S => ?_
    refine lx_nil (thenN ?_)
    refine cond_b S rfl (fun hc64 => ?_) (fun hc64 => ?_)
    ·have hm := ite_t hc64 hm
     refine wp_seq (region_plain ?_)
     refine lq (.bool false) S (q_assign rfl) fun a S => ?_
     refine lx_nil (thenN ?_)
     refine wp_ret (then_ret ?_)
     obtain rfl := Option.some.inj hm
     have H : Heap w0 [] w59 := H.sel [] (by decide)
     exact leave1 S rfl rfl ⟨rfl, H⟩
    ·have hm := ite_f hc64 hm
     refine wp_skip (thenN ?_)
     refine wp_seq (wp_seq (region_plain ?_))
     refine lq (.int .i64 x61) S (q_move rfl) fun a S => ?_
     refine lq (.int .i64 x57.1) S (q_move rfl) fun a S => ?_
     refine lq (.bool (x61 != x57.1)) S (q_neq rfl rfl) fun a S => ?_
     refine lx_nil (thenN ?_)
     refine cond_b S rfl (fun hc65 => ?_) (fun hc65 => ?_)
     ·have hm := ite_t hc65 hm
      refine wp_seq (region_plain ?_)
      refine lq (.bool false) S (q_assign rfl) fun a S => ?_
      refine lx_nil (thenN ?_)
      refine wp_ret (then_ret ?_)
      obtain rfl := Option.some.inj hm
      have H : Heap w0 [] w59 := H.sel [] (by decide)
      exact leave1 S rfl rfl ⟨rfl, H⟩
     ·have hm := ite_f hc65 hm
      refine wp_skip (thenN ?_)
      refine wp_seq (region_plain ?_)
      refine lq (sv a0) S (q_move rfl) fun a S => ?_
      obtain ⟨x68, e69, hm⟩ := bind_some hm
      refine lx_call (xs := [.tmp 45]) S trivial (by decide) rfl rfl Tryz.call7 ((impl_ReadEquations_ok (hG.ext H.ext)  e69).mono ?_)
      rintro e w66 ⟨v70, rfl, Hc67⟩
      have H := H.call1 Hc67
      refine ⟨_, rfl, trivial, fun a S => ?_⟩
      refine lq (.tuple #[v70, (.bool x68.2)]) S (q_move rfl) fun a S => ?_
      refine lq v70 S (q_extract rfl rfl) fun a S => ?_
      refine lq (.bool x68.2) S (q_extract rfl rfl) fun a S => ?_
      refine lq v70 S (q_assign rfl) fun a S => ?_
      refine lq (.bool x68.2) S (q_assign rfl) fun a S => ?_
      refine lx_nil (thenN ?_)
      refine wp_seq (wp_seq (region_plain ?_))
      refine lq v70 S (q_move rfl) fun a S => ?_
      refine lq v36 S (q_move rfl) fun a S => ?_
      obtain ⟨x75, e76, hm⟩ := bind_some hm
      refine lx_call (xs := [.tmp 49, .tmp 50]) S trivial (by decide) rfl rfl Tryz.call8 ((laws_eqEquationS_ok (H.rdAt 0 rfl) (H.rdAt 2 rfl) e76).mono ?_)
      rintro e w73 ⟨rfl, Hc74⟩
      have H := H.call0 Hc74
      refine ⟨_, rfl, trivial, fun a S => ?_⟩
      refine lq (.bool (!x75)) S (q_not rfl) fun a S => ?_
      refine lq (.bool (!x75)) S (q_move rfl) fun a S => ?_
      obtain ⟨t78, e79, hm⟩ := bind_some hm
      refine lx_cut 4 (fun a w => Slots a 66 [(5, v43), (7, (.int .i64 x57.1)), (57, (.bool t78))] ∧ Heap w0 [oA (rList Rimpl_Equation) v43 x57.2] w) ?_ ?_
      ·by_cases hc80 : (!x75) = true
       ·have hm := ite_t hc80 e79
        refine lx_skip S rfl rfl (isB_ne hc80) (by decide) (fun a S => ?_)
        refine lx_skip S rfl rfl (isB_ne hc80) (by decide) (fun a S => ?_)
        refine lx_skip S rfl rfl (isB_ne hc80) (by decide) (fun a S => ?_)
        refine lq (.bool true) S (q_pickT' rfl hc80 rfl) fun a S => ?_
        refine lx_nil ?_
        obtain rfl := Option.some.inj hm
        have H := H.sel [1] (by decide)
        exact ⟨S.sub ⟨rfl, rfl, rfl, trivial⟩, H⟩
       ·have hm := ite_f (eq_false_of_ne_true hc80) e79
        have hc80 : (!x75) = false := eq_false_of_ne_true hc80
        refine lx_q (.bool x68.2) S (want_b rfl rfl hc80) (by decide) (q_move rfl) (fun a S => ?_)
        refine lx_q (.bool x34.2) S (want_b rfl rfl hc80) (by decide) (q_move rfl) (fun a S => ?_)
        refine lx_q (.bool (x68.2 != x34.2)) S (want_b rfl rfl hc80) (by decide) (q_bneq rfl rfl Tryz.underlying4) (fun a S => ?_)
        refine lq (.bool (x68.2 != x34.2)) S (q_pickF' rfl hc80 rfl) fun a S => ?_
        refine lx_nil ?_
        obtain rfl := Option.some.inj hm
        have H := H.sel [1] (by decide)
        exact ⟨S.sub ⟨rfl, rfl, rfl, trivial⟩, H⟩
      ·rintro a w ⟨S, H⟩
       refine lx_nil (thenN ?_)
       refine cond_b S rfl (fun hc81 => ?_) (fun hc81 => ?_)
       ·have hm := ite_t hc81 hm
        refine wp_seq (region_plain ?_)
        refine lq (.bool false) S (q_assign rfl) fun a S => ?_
        refine lx_nil (thenN ?_)
        refine wp_ret (then_ret ?_)
        obtain rfl := Option.some.inj hm
        have H : Heap w0 [] w := H.sel [] (by decide)
        exact leave1 S rfl rfl ⟨rfl, H⟩
       ·have hm := ite_f hc81 hm
        refine wp_skip (thenN ?_)
        refine wp_seq (region_plain ?_)
        refine lq (.int .i64 (1 : Int)) S (q_assign rfl) fun a S => ?_
        refine lx_nil (thenN ?_)
        refine wp_seq (region_plain ?_)
        refine lq v43 S (q_move rfl) fun a S => ?_
        refine lq (.int .i64 (1 : Int)) S (q_move rfl) fun a S => ?_
        obtain ⟨x84, e85, hm⟩ := bind_some hm
        refine lx_call (xs := [.tmp 58, .tmp 59]) S trivial (by decide) rfl rfl Tryz.call10 ((laws_heldEquationS_ok (H.rdAt 0 rfl)  e85).mono ?_)
        rintro e w82 ⟨rfl, Hc83⟩
        have H := H.call0 Hc83
        refine ⟨_, rfl, trivial, fun a S => ?_⟩
        refine lq (.int .i64 x84) S (q_assign rfl) fun a S => ?_
        refine lx_nil (thenN ?_)
        refine wp_seq (wp_seq (region_plain ?_))
        refine lq (.int .i64 x84) S (q_move rfl) fun a S => ?_
        refine lq (.bool (decide (x84 < (0 : Int)))) S (q_lss rfl rfl) fun a S => ?_
        refine lx_nil (thenN ?_)
        refine cond_b S rfl (fun hc87 => ?_) (fun hc87 => ?_)
        ·have hm := ite_t hc87 hm
         refine wp_seq (region_plain ?_)
         refine lq (.bool false) S (q_assign rfl) fun a S => ?_
         refine lx_nil (thenN ?_)
         refine wp_ret (then_ret ?_)
         obtain rfl := Option.some.inj hm
         have H : Heap w0 [] w82 := H.sel [] (by decide)
         exact leave1 S rfl rfl ⟨rfl, H⟩
        ·have hm := ite_f hc87 hm
         refine wp_skip (thenN ?_)
         refine wp_seq (wp_seq (region_plain ?_))
         refine lq (.int .i64 x84) S (q_move rfl) fun a S => ?_
         refine lq (.int .i64 x57.1) S (q_move rfl) fun a S => ?_
         refine lq (.bool (x84 != x57.1)) S (q_neq rfl rfl) fun a S => ?_
         refine lx_nil (thenN ?_)
         refine cond_b S rfl (fun hc88 => ?_) (fun hc88 => ?_)
         ·have hm := ite_t hc88 hm
          refine wp_seq (region_plain ?_)
          refine lq (.bool false) S (q_assign rfl) fun a S => ?_
          refine lx_nil (thenN ?_)
          refine wp_ret (then_ret ?_)
          obtain rfl := Option.some.inj hm
          have H : Heap w0 [] w82 := H.sel [] (by decide)
          exact leave1 S rfl rfl ⟨rfl, H⟩
         ·have hm := ite_f hc88 hm
          refine wp_skip (thenN ?_)
          refine wp_seq (region_plain ?_)
          refine lq (.bool true) S (q_assign rfl) fun a S => ?_
          refine lx_nil (thenN ?_)
          refine wp_ret ?_
          obtain rfl := Option.some.inj hm
          have H : Heap w0 [] w82 := H.sel [] (by decide)
          exact leave1 S rfl rfl ⟨rfl, H⟩
end Go.Proofs.YtepcckhcocjgaaaGreatDoor
