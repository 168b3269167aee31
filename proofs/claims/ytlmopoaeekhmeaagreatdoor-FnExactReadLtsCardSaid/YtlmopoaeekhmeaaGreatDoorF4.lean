/- The models of some functions and their walks (printed by a program of this repo). -/
import Derived.Test.YtlmopoaeekhmeaaGreatDoorF0
import Derived.Test.YtlmopoaeekhmeaaGreatDoorF3
import Derived.Test.YtlmopoaeekhmeaaGreatDoorFS
import Derived.Test.YtlmopoaeekhmeaaGreatDoorGxT
import Derived.Test.YtlmopoaeekhmeaaGreatDoorGxY
namespace Go.Proofs.YtlmopoaeekhmeaaGreatDoor
open Go.RowKit Go.Gx

/-- impl.readEdges -/
def impl_readEdges_m (fuel : Nat) (a0 : Str) : Option (((List Timpl_Edge) × Bool)) :=
  (impl_SplitWords_m fuel a0).bind fun x33 => (iter (fun (s : (List Timpl_Edge) × (Int)) => (match s with | (xs84, x86) => (if (decide (x86 < (x33.length : Int))) = true then (idx x33 x86).bind fun x144 => (strings_Split_m fuel x144 ([58] : Str)).bind fun x151 => (impl_readNumbers_m fuel x151).bind fun x158 => (if (!x158.2) = true then some true else some ((x158.1.length : Int) != (3 : Int))).bind fun t163 => (if t163 = true then some (.inr (.inr ([], false))) else (idx x158.1 (0 : Int)).bind fun x170 => (idx x158.1 (1 : Int)).bind fun x172 => (idx x158.1 (2 : Int)).bind fun x174 => (app xs84 [(x170, x172, x174)]).bind fun x179 => some (.inl (x179, (W (x86 + (1 : Int)))))) else some (.inr (.inl (xs84)))) : Option (((List Timpl_Edge) × (Int)) ⊕ (((List Timpl_Edge)) ⊕ (((List Timpl_Edge) × Bool)))))) fuel ([], (0 : Int))).bind fun res134 => ctl (β := (List Timpl_Edge)) (ρ := ((List Timpl_Edge) × Bool)) (τ := ((List Timpl_Edge) × Bool)) res134 (fun (xs132) => some ((xs132, true))) (fun q => some (q))
set_option maxRecDepth 20000 in
theorem impl_readEdges_ok {w0 : World} {fuel : Nat} {a0 : Str} {r : ((List Timpl_Edge) × Bool)} (hG : GlobE Tryz.prog w0) (hm : impl_readEdges_m fuel a0 = some r) :
  Calls Tryz.prog 13 #[sv a0] w0 fun e w => ∃ (v0 : Value), e = .returned (.tuple #[v0, .bool r.2]) ∧ Heap w0 [oA (rList Rimpl_Edge) v0 r.1] w := by
 unfold impl_readEdges_m at hm
 have H := Heap.start w0
 refine enter (args := [sv a0]) Tryz.func13 rfl 44 rfl (Nat.le_of_ble_eq_true rfl) (fun a S => ?_)
 refine wp_seq (region_plain ?_)
 refine lq (.slice none 0 0) S (q_assign rfl) fun a S => ?_
 refine lq (.bool false) S (q_assign rfl) fun a S => ?_
 refine lx_nil (thenN ?_)
 refine wp_seq (region_plain ?_)
 refine lq (.slice none 0 0) S (q_assign rfl) fun a S => ?_
 refine lx_nil (thenN ?_)
 refine wp_seq (wp_seq (region_plain ?_))
 refine lq (sv a0) S (q_move rfl) fun a S => ?_
 obtain ⟨x33, e34, hm⟩ := bind_some hm
 refine lx_call (xs := [.tmp 9]) S trivial (by decide) rfl rfl Tryz.call12 ((impl_SplitWords_ok  e34).mono ?_)
 rintro e w31 ⟨v35, rfl, Hc32⟩
 have H := H.call1 Hc32
 refine ⟨_, rfl, trivial, fun a S => ?_⟩
 refine lq (.int .i64 (x33.length : Int)) S (q_lenSl rfl (H.isSl 0 rfl) rfl Tryz.underlying22) fun a S => ?_
 refine lq (.int .i64 (0 : Int)) S (q_move rfl) fun a S => ?_
 refine lx_nil (thenN ?_)
 obtain ⟨res134, hit135, hk138⟩ := bind_some hm
 obtain ⟨f136, hf137, hit135⟩ := iter_name hit135
 refine block_loop (fun a w => ∃ (xs132 : List Timpl_Edge) (v131 : Value), Slots a 44 [(4, v131)] ∧ Heap w0 [oA (rList Rimpl_Edge) v131 xs132] w ∧ res134 = .inl (xs132)) ?_ ?_
 ·rintro a w ⟨xs132, v131, S, H, rfl⟩
  have hm := ctl_inl hk138
  refine thenN ?_
  refine wp_seq (region_plain ?_)
  refine lq v131 S (q_move rfl) fun a S => ?_
  refine lq v131 S (q_assign rfl) fun a S => ?_
  refine lq (.bool true) S (q_assign rfl) fun a S => ?_
  refine lx_nil (thenN ?_)
  refine wp_ret ?_
  obtain rfl := Option.some.inj hm
  exact leave2 S rfl rfl rfl ⟨v131, rfl, H⟩
 ·skip
  have H : Heap w0 [oA (rList Rimpl_Edge) (.slice none 0 0) ([] : List Timpl_Edge), oA (rList rStr) v35 x33] w31 := H.nilList Rimpl_Edge
  refine loop_ghost (fun n a w => ∃ (xs84 : List Timpl_Edge) (x86 : Int) (v83 : Value), Slots a 44 [(4, v83), (10, v35), (11, (.int .i64 (x33.length : Int))), (12, (.int .i64 x86))] ∧ Heap w0 [oA (rList Rimpl_Edge) v83 xs84, oA (rList rStr) v35 x33] w ∧ iter f136 n (xs84, x86) = some res134) _ ⟨[], (0 : Int), (.slice none 0 0), S.sub ⟨rfl, rfl, rfl, rfl, trivial⟩, H, hit135⟩ ?_
  rintro n a w ⟨xs84, x86, v83, S, H, hit135⟩
  obtain ⟨m140, o141, rfl, hm, hc142⟩ := iter_step hit135
  rw [hf137] at hm
  refine wp_seq (region_plain ?_)
  refine lq (.bool (decide (x86 < (x33.length : Int)))) S (q_lss rfl rfl) fun a S => ?_
  refine lx_nil (thenN ?_)
  refine wp_seq ?_
  refine cond_b S rfl (fun hc143 => ?_) (fun hc143 => ?_)
  ·have hm := ite_t hc143 hm
   refine wp_skip (thenN ?_)
   refine wp_seq ?_
   refine wp_block ?_
   refine wp_seq (region_plain ?_)
   obtain ⟨x144, e145, hm⟩ := bind_some hm
   have hlt := lt_of_idx (idx_some e145).2
   refine lq (ePtr v35 (x86.toNat * 1)) S (q_indexAddr rfl (H.isSl 1 rfl) rfl (idx_some e145).1 hlt Tryz.underlying22 Tryz.sizeOf9) fun a S => ?_
   obtain ⟨c146, h147, hat148⟩ := (H.rdAt 1 rfl).elem (idx_some e145).2
   obtain rfl := h147
   refine lx_e (sv x144) S trivial (by decide) rfl trivial (q_load1 rfl Tryz.isAgg9 (by rintro _ rfl; exact (hat148 0 _ rfl))) (fun a S => ?_)
   refine lq (sv x144) S (q_assign rfl) fun a S => ?_
   refine lx_nil (thenN ?_)
   refine wp_seq (region_plain ?_)
   refine lq (sv x144) S (q_move rfl) fun a S => ?_
   obtain ⟨x151, e152, hm⟩ := bind_some hm
   refine lx_call (xs := [.tmp 17, .const (sv [58])]) S trivial (by decide) rfl rfl Tryz.call10 ((strings_Split_ok (hG.ext H.ext).toGlob   e152).mono ?_)
   rintro e w149 ⟨v153, rfl, Hc150⟩
   have H := H.call1 Hc150
   refine ⟨_, rfl, trivial, fun a S => ?_⟩
   obtain ⟨x158, e159, hm⟩ := bind_some hm
   refine lx_call (xs := [.tmp 18]) S trivial (by decide) rfl rfl Tryz.call11 ((impl_readNumbers_ok (hG.ext H.ext) (H.rdAt 0 rfl) e159).mono ?_)
   rintro e w156 ⟨v160, rfl, Hc157⟩
   have H := H.call1 Hc157
   refine ⟨_, rfl, trivial, fun a S => ?_⟩
   refine lq (.tuple #[v160, (.bool x158.2)]) S (q_move rfl) fun a S => ?_
   refine lq v160 S (q_extract rfl rfl) fun a S => ?_
   refine lq (.bool x158.2) S (q_extract rfl rfl) fun a S => ?_
   refine lq v160 S (q_assign rfl) fun a S => ?_
   refine lq (.bool x158.2) S (q_assign rfl) fun a S => ?_
   refine lx_nil (thenN ?_)
   refine wp_seq (wp_seq (region_plain ?_))
   refine lq (.bool x158.2) S (q_move rfl) fun a S => ?_
   refine lq (.bool (!x158.2)) S (q_not rfl) fun a S => ?_
   refine lq (.bool (!x158.2)) S (q_move rfl) fun a S => ?_
   obtain ⟨t163, e164, hm⟩ := bind_some hm
   refine lx_cut 4 (fun a w => Slots a 44 [(4, v83), (7, v160), (10, v35), (11, (.int .i64 (x33.length : Int))), (12, (.int .i64 x86)), (28, (.bool t163))] ∧ Heap w0 [oA (rList (rInt .i64)) v160 x158.1, oA (rList Rimpl_Edge) v83 xs84, oA (rList rStr) v35 x33] w) ?_ ?_
   ·by_cases hc165 : (!x158.2) = true
    ·have hm := ite_t hc165 e164
     refine lx_skip S rfl rfl (isB_ne hc165) (by decide) (fun a S => ?_)
     refine lx_skip S rfl rfl (isB_ne hc165) (by decide) (fun a S => ?_)
     refine lx_skip S rfl rfl (isB_ne hc165) (by decide) (fun a S => ?_)
     refine lq (.bool true) S (q_pickT' rfl hc165 rfl) fun a S => ?_
     refine lx_nil ?_
     obtain rfl := Option.some.inj hm
     have H := H.sel [0, 2, 3] (by decide)
     exact ⟨S.sub ⟨rfl, rfl, rfl, rfl, rfl, rfl, trivial⟩, H⟩
    ·have hm := ite_f (eq_false_of_ne_true hc165) e164
     have hc165 : (!x158.2) = false := eq_false_of_ne_true hc165
     refine lx_q v160 S (want_b rfl rfl hc165) (by decide) (q_move rfl) (fun a S => ?_)
     refine lx_q (.int .i64 (x158.1.length : Int)) S (want_b rfl rfl hc165) (by decide) (q_lenSl rfl (H.isSl 0 rfl) rfl Tryz.underlying32) (fun a S => ?_)
     refine lx_q (.bool ((x158.1.length : Int) != (3 : Int))) S (want_b rfl rfl hc165) (by decide) (q_neq rfl rfl) (fun a S => ?_)
     refine lq (.bool ((x158.1.length : Int) != (3 : Int))) S (q_pickF' rfl hc165 rfl) fun a S => ?_
     refine lx_nil ?_
     obtain rfl := Option.some.inj hm
     have H := H.sel [0, 2, 3] (by decide)
     exact ⟨S.sub ⟨rfl, rfl, rfl, rfl, rfl, rfl, trivial⟩, H⟩
   ·rintro a w ⟨S, H⟩
    refine lx_nil (thenN ?_)
    refine cond_b S rfl (fun hc166 => ?_) (fun hc166 => ?_)
    ·have hm := ite_t hc166 hm
     refine wp_seq (region_plain ?_)
     refine lq (.slice none 0 0) S (q_assign rfl) fun a S => ?_
     refine lq (.bool false) S (q_assign rfl) fun a S => ?_
     refine lx_nil (thenN ?_)
     refine wp_ret (then_ret ?_)
     refine inBlock_ret ?_
     refine then_ret ?_
     refine then_ret ?_
     refine inBlock_ret ?_
     refine then_ret ?_
     refine then_ret ?_
     obtain rfl := it_brk hm hc142
     have hm := ctl_inr hk138
     obtain rfl := Option.some.inj hm
     have H : Heap w0 [oA (rList Rimpl_Edge) (.slice none 0 0) ([] : List Timpl_Edge), oA (rList (rInt .i64)) v160 x158.1, oA (rList Rimpl_Edge) v83 xs84, oA (rList rStr) v35 x33] w := H.nilList Rimpl_Edge
     have H : Heap w0 [oA (rList Rimpl_Edge) (.slice none 0 0) ([] : List Timpl_Edge)] w := H.sel [0] (by decide)
     exact leave2 S rfl rfl rfl ⟨(.slice none 0 0), rfl, H⟩
    ·have hm := ite_f hc166 hm
     refine wp_skip (thenN ?_)
     refine region_drawG (fun w1 => Heap w0 [oA (rList (rInt .i64)) v160 x158.1] w1) (fun i => [11, 12].contains i) mixed (by kernel_rfl) (fun w169 he168 => ?_)
     have H := H.later he168
     refine ⟨H.sel [0] (by decide), ?_⟩
     refine lq v83 S (q_move rfl) fun a S => ?_
     refine lq v160 S (q_move rfl) fun a S => ?_
     obtain ⟨x170, e171, hm⟩ := bind_some hm
     have hlt := lt_of_idx (idx_some e171).2
     refine lq (ePtr v160 ((0 : Int).toNat * 1)) S (q_indexAddr rfl (H.isSl 0 rfl) rfl (idx_some e171).1 hlt Tryz.underlying32 Tryz.sizeOf2) fun a S => ?_
     refine lq (.int .i64 x170) S (q_load1 rfl Tryz.isAgg2 (fun w1 hC => ((hC.rdAt 0 rfl).elemAt (j := 0) (idx_some e171).2 (by intro B w cs h; obtain rfl := h; rfl)))) fun a S => ?_
     refine lq v160 S (q_move rfl) fun a S => ?_
     obtain ⟨x172, e173, hm⟩ := bind_some hm
     have hlt := lt_of_idx (idx_some e173).2
     refine lq (ePtr v160 ((1 : Int).toNat * 1)) S (q_indexAddr rfl (H.isSl 0 rfl) rfl (idx_some e173).1 hlt Tryz.underlying32 Tryz.sizeOf2) fun a S => ?_
     refine lq (.int .i64 x172) S (q_load1 rfl Tryz.isAgg2 (fun w1 hC => ((hC.rdAt 0 rfl).elemAt (j := 0) (idx_some e173).2 (by intro B w cs h; obtain rfl := h; rfl)))) fun a S => ?_
     refine lq v160 S (q_move rfl) fun a S => ?_
     obtain ⟨x174, e175, hm⟩ := bind_some hm
     have hlt := lt_of_idx (idx_some e175).2
     refine lq (ePtr v160 ((2 : Int).toNat * 1)) S (q_indexAddr rfl (H.isSl 0 rfl) rfl (idx_some e175).1 hlt Tryz.underlying32 Tryz.sizeOf2) fun a S => ?_
     refine lq (.int .i64 x174) S (q_load1 rfl Tryz.isAgg2 (fun w1 hC => ((hC.rdAt 0 rfl).elemAt (j := 0) (idx_some e175).2 (by intro B w cs h; obtain rfl := h; rfl)))) fun a S => ?_
     refine lq (.agg #[(.int .i64 x170), (.int .i64 x172), (.int .i64 x174)]) S (q_build (zs := [(.int .i64 (0 : Int)), (.int .i64 (0 : Int)), (.int .i64 (0 : Int))]) (szs := [1, 1, 1]) (ps := [(0, [(.int .i64 x170)]), (1, [(.int .i64 x172)]), (2, [(.int .i64 x174)])]) (parts := [(0, .tmp 32), (1, .tmp 35), (2, .tmp 38)]) rfl Tryz.underlying48 Tryz.zeroValue48 (fun w => by simp [Tryz.sizeOf2]) ⟨rfl, rfl, Nat.le_of_ble_eq_true rfl, ⟨rfl, rfl, Nat.le_of_ble_eq_true rfl, ⟨rfl, rfl, Nat.le_of_ble_eq_true rfl, trivial⟩⟩⟩ rfl) fun a S => ?_
     refine lx_buildSlice (r := Rimpl_Edge) (xs := [(x170, x172, x174)]) (ps := [(0, [(.int .i64 x170), (.int .i64 x172), (.int .i64 x174)])]) (cs := [(.int .i64 x170), (.int .i64 x172), (.int .i64 x174)]) (parts := [(0, .tmp 39)]) S trivial (by decide) rfl (H.put0 (A := eA) rfl) rfl Tryz.underlying23 Tryz.sizeOf48 Tryz.zeroValue48 (by decide) ⟨rfl, rfl, Nat.le_of_ble_eq_true rfl, trivial⟩ (by intro zs hz; exact fill_dense hz ⟨rfl, trivial⟩ rfl rfl) rfl (by decide) (fun w F hA => by cases (show F = [] from hA); exact ⟨_, _, [(.int .i64 x170), (.int .i64 x172), (.int .i64 x174)], _, rfl, rfl, ⟨_, _, [(.int .i64 x170)], [(.int .i64 x172), (.int .i64 x174)], rfl, rfl, ⟨rfl, rfl⟩, ⟨_, _, [(.int .i64 x172)], [(.int .i64 x174)], rfl, rfl, ⟨rfl, rfl⟩, ⟨rfl, rfl⟩⟩⟩, ⟨rfl, rfl⟩⟩) (fun v176 w177 H => ⟨H.sel [1] (by decide), fun a S => ?_⟩)
     obtain ⟨x179, e180, hm⟩ := bind_some hm
     obtain ⟨hle, hap⟩ := app_some e180
     replace hap := hap.symm
     subst hap
     have H : Heap w0 [oA (rList Rimpl_Edge) v176 [(x170, x172, x174)], oA (rList (rInt .i64)) v160 x158.1, oA (rList Rimpl_Edge) v83 xs84, oA (rList rStr) v35 x33] w177 := H.front 0 rfl
     have H : Heap w0 [oA (rList Rimpl_Edge) v83 xs84, oA (rList Rimpl_Edge) v176 [(x170, x172, x174)], oA (rList (rInt .i64)) v160 x158.1, oA (rList rStr) v35 x33] w177 := H.front 2 rfl
     refine lx_appendOwn (r := Rimpl_Edge) S trivial (by decide) rfl H rfl rfl Tryz.underlying23 Tryz.ti48 rfl rfl rfl (Nat.le_of_ble_eq_true rfl) (by decide) hle (fun v181 w182 H => ⟨H.sel [1] (by decide), fun a S => ?_⟩)
     refine lq v181 S (q_assign rfl) fun a S => ?_
     refine lx_nil ?_
     refine inBlock_norm ?_
     refine thenN ?_
     refine region_plain ?_
     refine lq (.int .i64 (W (x86 + (1 : Int)))) S (q_add rfl rfl) fun a S => ?_
     refine lq (.int .i64 (W (x86 + (1 : Int)))) S (q_move rfl) fun a S => ?_
     refine lx_nil ?_
     have H : Heap w0 [oA (rList Rimpl_Edge) v181 (xs84 ++ [(x170, x172, x174)]), oA (rList rStr) v35 x33] w182 := H.sel [0, 2] (by decide)
     exact ⟨m140, Nat.lt_succ_self _, (xs84 ++ [(x170, x172, x174)]), (W (x86 + (1 : Int))), v181, S.sub ⟨rfl, rfl, rfl, rfl, trivial⟩, H, it_cont hm hc142⟩
  ·have hm := ite_f hc143 hm
   refine wp_exit ?_
   refine then_exit ?_
   refine then_exit ?_
   refine inBlock_exit ?_
   obtain rfl := it_brk hm hc142
   have H : Heap w0 [oA (rList Rimpl_Edge) v83 xs84] w := H.sel [0] (by decide)
   exact ⟨xs84, v83, S.sub ⟨rfl, trivial⟩, H, rfl⟩

/-- impl.within -/
def impl_within_m (_ : Nat) (a0 : Int) (a1 : Int) (a2 : Int) : Option (Bool) :=
  (if (decide (a1 ≤ a0)) = true then some (decide (a0 ≤ a2)) else some false).bind fun t31 => some (t31)
set_option maxRecDepth 20000 in
theorem impl_within_ok [dr : Dr] {w0 : World} {fuel : Nat} {a0 : Int} {a1 : Int} {a2 : Int} {r : Bool} (hm : impl_within_m fuel a0 a1 a2 = some r) :
  Calls Tryz.prog 29 #[.int .i64 a0, .int .i64 a1, .int .i64 a2] w0 fun e w => e = .returned (.bool r) ∧ Heap w0 [] w := by
 unfold impl_within_m at hm
 have H := Heap.start w0
 refine enter (args := [.int .i64 a0, .int .i64 a1, .int .i64 a2]) Tryz.func29 rfl 15 rfl (Nat.le_of_ble_eq_true rfl) (fun a S => ?_)
 refine wp_seq (region_plain ?_)
 refine lq (.bool false) S (q_assign rfl) fun a S => ?_
 refine lx_nil (thenN ?_)
 refine wp_seq (region_plain ?_)
 refine lq (.int .i64 a0) S (q_move rfl) fun a S => ?_
 refine lq (.int .i64 a1) S (q_move rfl) fun a S => ?_
 refine lq (.bool (decide (a1 ≤ a0))) S (q_geq rfl rfl) fun a S => ?_
 refine lq (.bool (decide (a1 ≤ a0))) S (q_move rfl) fun a S => ?_
 obtain ⟨t31, e32, hm⟩ := bind_some hm
 refine lx_cut 4 (fun a w => Slots a 15 [(14, (.bool t31))] ∧ Heap w0 [] w) ?_ ?_
 ·by_cases hc33 : (decide (a1 ≤ a0)) = true
  ·have hm := ite_t hc33 e32
   refine lx_q (.int .i64 a0) S (want_b rfl rfl hc33) (by decide) (q_move rfl) (fun a S => ?_)
   refine lx_q (.int .i64 a2) S (want_b rfl rfl hc33) (by decide) (q_move rfl) (fun a S => ?_)
   refine lx_q (.bool (decide (a0 ≤ a2))) S (want_b rfl rfl hc33) (by decide) (q_leq rfl rfl) (fun a S => ?_)
   refine lq (.bool (decide (a0 ≤ a2))) S (q_pickT' rfl hc33 rfl) fun a S => ?_
   refine lx_nil ?_
   obtain rfl := Option.some.inj hm
   exact ⟨S.sub ⟨rfl, trivial⟩, H⟩
  ·have hm := ite_f (eq_false_of_ne_true hc33) e32
   have hc33 : (decide (a1 ≤ a0)) = false := eq_false_of_ne_true hc33
   refine lx_skip S rfl rfl (isB_ne hc33) (by decide) (fun a S => ?_)
   refine lx_skip S rfl rfl (isB_ne hc33) (by decide) (fun a S => ?_)
   refine lx_skip S rfl rfl (isB_ne hc33) (by decide) (fun a S => ?_)
   refine lq (.bool false) S (q_pickF' rfl hc33 rfl) fun a S => ?_
   refine lx_nil ?_
   obtain rfl := Option.some.inj hm
   exact ⟨S.sub ⟨rfl, trivial⟩, H⟩
 ·rintro a w ⟨S, H⟩
  refine lq (.bool t31) S (q_assign rfl) fun a S => ?_
  refine lx_nil (thenN ?_)
  refine wp_ret ?_
  obtain rfl := Option.some.inj hm
  exact leave1 S rfl rfl ⟨rfl, H⟩

/-- (impl.Lts).isState -/
def impl_Lts_isState_m (fuel : Nat) (a0 : Timpl_Lts) (a1 : Int) : Option (Bool) :=
  (impl_within_m fuel a1 (0 : Int) (W (a0.1 - (1 : Int)))).bind fun x54 => some (x54)
set_option maxRecDepth 20000 in
theorem impl_Lts_isState_ok [dr : Dr] {w0 : World} {fuel : Nat} {p0 : Value} {a0 : Timpl_Lts} {a1 : Int} {r : Bool} (h0 : Rd Rimpl_Lts w0 p0 a0) (hm : impl_Lts_isState_m fuel a0 a1 = some r) :
  Calls Tryz.prog 30 #[p0, .int .i64 a1] w0 fun e w => e = .returned (.bool r) ∧ Heap w0 [] w := by
 unfold impl_Lts_isState_m at hm
 have H := Heap.start w0
 obtain ⟨c31, rfl, h32⟩ := h0
 obtain ⟨c37, c38, rfl, h39, h40⟩ := h32
 obtain rfl := h39
 obtain ⟨c41, c42, rfl, h43, h44⟩ := h40
 obtain rfl := h43
 obtain ⟨c45, c46, rfl, h47, h48⟩ := h44
 obtain ⟨v33, rfl, h34⟩ := rd_list h47
 obtain ⟨v35, rfl, h36⟩ := rd_list h48
 refine enter (args := [(.agg #[(.int .i64 a0.1), (.int .i64 a0.2.1), v33, v35]), .int .i64 a1]) Tryz.func30 rfl 10 rfl (Nat.le_of_ble_eq_true rfl) (fun a S => ?_)
 refine wp_seq (region_plain ?_)
 refine lx_box S trivial (by decide) rfl H rfl rfl (fun b49 w50 H => ⟨trivial, fun a S => ?_⟩)
 refine lq (.bool false) S (q_assign rfl) fun a S => ?_
 refine lx_nil (thenN ?_)
 refine wp_seq (region_plain ?_)
 refine lq (.int .i64 a1) S (q_move rfl) fun a S => ?_
 refine lq (pAdd (bp b49) 0) S (q_fieldAddr' 0 2 rfl (isP_bp _) Tryz.underlying25 rfl Tryz.sizeOf2) fun a S => ?_
 refine lx_e (.int .i64 a0.1) S trivial (by decide) rfl trivial (q_load1 rfl Tryz.isAgg2 (by rintro _ rfl; exact (At.of_add (m := 0) (j := 0) (boxAt (i := 0) H rfl (j := 0) rfl)))) (fun a S => ?_)
 refine lq (.int .i64 (W (a0.1 - (1 : Int)))) S (q_sub rfl rfl) fun a S => ?_
 obtain ⟨x54, e55, hm⟩ := bind_some hm
 refine lx_call (xs := [.tmp 5, .const (.int .i64 (0)), .tmp 8]) S trivial (by decide) rfl rfl Tryz.call29 ((impl_within_ok    e55).mono ?_)
 rintro e w52 ⟨rfl, Hc53⟩
 have H := H.call0 Hc53
 refine ⟨_, rfl, trivial, fun a S => ?_⟩
 refine lq (.bool x54) S (q_assign rfl) fun a S => ?_
 refine lx_nil (thenN ?_)
 refine wp_ret ?_
 obtain rfl := Option.some.inj hm
 have H : Heap w0 [] w52 := H.sel [] (by decide)
 exact leave1 S rfl rfl ⟨rfl, H⟩

/-- impl.isDigit -/
def impl_isDigit_m (_ : Nat) (a0 : Int) : Option (Bool) :=
  (if (decide ((48 : Int) ≤ a0)) = true then some (decide (a0 ≤ (57 : Int))) else some false).bind fun t31 => some (t31)
set_option maxRecDepth 20000 in
theorem impl_isDigit_ok [dr : Dr] {w0 : World} {fuel : Nat} {a0 : Int} {r : Bool} (hm : impl_isDigit_m fuel a0 = some r) :
  Calls Tryz.prog 115 #[.int .u8 a0] w0 fun e w => e = .returned (.bool r) ∧ Heap w0 [] w := by
 unfold impl_isDigit_m at hm
 have H := Heap.start w0
 refine enter (args := [.int .u8 a0]) Tryz.func115 rfl 9 rfl (Nat.le_of_ble_eq_true rfl) (fun a S => ?_)
 refine wp_seq (region_plain ?_)
 refine lq (.bool false) S (q_assign rfl) fun a S => ?_
 refine lx_nil (thenN ?_)
 refine wp_seq (region_plain ?_)
 refine lq (.int .u8 a0) S (q_move rfl) fun a S => ?_
 refine lq (.bool (decide ((48 : Int) ≤ a0))) S (q_geq rfl rfl) fun a S => ?_
 refine lq (.bool (decide ((48 : Int) ≤ a0))) S (q_move rfl) fun a S => ?_
 obtain ⟨t31, e32, hm⟩ := bind_some hm
 refine lx_cut 3 (fun a w => Slots a 9 [(8, (.bool t31))] ∧ Heap w0 [] w) ?_ ?_
 ·by_cases hc33 : (decide ((48 : Int) ≤ a0)) = true
  ·have hm := ite_t hc33 e32
   refine lx_q (.int .u8 a0) S (want_b rfl rfl hc33) (by decide) (q_move rfl) (fun a S => ?_)
   refine lx_q (.bool (decide (a0 ≤ (57 : Int)))) S (want_b rfl rfl hc33) (by decide) (q_leq rfl rfl) (fun a S => ?_)
   refine lq (.bool (decide (a0 ≤ (57 : Int)))) S (q_pickT' rfl hc33 rfl) fun a S => ?_
   refine lx_nil ?_
   obtain rfl := Option.some.inj hm
   exact ⟨S.sub ⟨rfl, trivial⟩, H⟩
  ·have hm := ite_f (eq_false_of_ne_true hc33) e32
   have hc33 : (decide ((48 : Int) ≤ a0)) = false := eq_false_of_ne_true hc33
   refine lx_skip S rfl rfl (isB_ne hc33) (by decide) (fun a S => ?_)
   refine lx_skip S rfl rfl (isB_ne hc33) (by decide) (fun a S => ?_)
   refine lq (.bool false) S (q_pickF' rfl hc33 rfl) fun a S => ?_
   refine lx_nil ?_
   obtain rfl := Option.some.inj hm
   exact ⟨S.sub ⟨rfl, trivial⟩, H⟩
 ·rintro a w ⟨S, H⟩
  refine lq (.bool t31) S (q_assign rfl) fun a S => ?_
  refine lx_nil (thenN ?_)
  refine wp_ret ?_
  obtain rfl := Option.some.inj hm
  exact leave1 S rfl rfl ⟨rfl, H⟩

/-- impl.IsName -/
def impl_IsName_m (fuel : Nat) (a0 : Str) : Option (Bool) :=
  (iter (fun (s : (Int)) => (match s with | (x54) => (if (decide (x54 < (a0.length : Int))) = true then (idx a0 x54).bind fun b90 => (if (decide ((97 : Int) ≤ (b90.toNat : Int))) = true then (idx a0 x54).bind fun b95 => some (decide ((b95.toNat : Int) ≤ (122 : Int))) else some false).bind fun t92 => (if (!t92) = true then (if (x54 == (0 : Int)) = true then some true else (idx a0 x54).bind fun b103 => (impl_isDigit_m fuel (b103.toNat : Int)).bind fun x107 => some (!x107)).bind fun t100 => some t100 else some false).bind fun t97 => (if t97 = true then some (.inr (.inr false)) else some (.inl ((W (x54 + (1 : Int)))))) else some (.inr (.inl ()))) : Option (((Int)) ⊕ ((Unit) ⊕ (Bool))))) fuel ((0 : Int))).bind fun res78 => ctl (β := Unit) (ρ := Bool) (τ := Bool) res78 (fun _ => (if (decide ((1 : Int) ≤ (a0.length : Int))) = true then some (decide ((a0.length : Int) ≤ (10 : Int))) else some false).bind fun t83 => some (t83)) (fun q => some (q))
set_option maxRecDepth 20000 in
theorem impl_IsName_ok [dr : Dr] {w0 : World} {fuel : Nat} {a0 : Str} {r : Bool} (hm : impl_IsName_m fuel a0 = some r) :
  Calls Tryz.prog 102 #[sv a0] w0 fun e w => e = .returned (.bool r) ∧ Heap w0 [] w := by
 unfold impl_IsName_m at hm
 have H := Heap.start w0
 refine enter (args := [sv a0]) Tryz.func102 rfl 42 rfl (Nat.le_of_ble_eq_true rfl) (fun a S => ?_)
 refine wp_seq (region_plain ?_)
 refine lq (.bool false) S (q_assign rfl) fun a S => ?_
 refine lx_nil (thenN ?_)
 refine wp_seq (wp_seq (region_plain ?_))
 refine lq (sv a0) S (q_move rfl) fun a S => ?_
 refine lq (.int .i64 (a0.length : Int)) S (q_lenStr rfl rfl Tryz.underlying9) fun a S => ?_
 refine lq (.int .i64 (0 : Int)) S (q_move rfl) fun a S => ?_
 refine lx_nil (thenN ?_)
 obtain ⟨res78, hit79, hk82⟩ := bind_some hm
 obtain ⟨f80, hf81, hit79⟩ := iter_name hit79
 refine block_loop (fun a w => Slots a 42 [(0, (sv a0))] ∧ Heap w0 [] w ∧ res78 = .inl ()) ?_ ?_
 ·rintro a w ⟨S, H, rfl⟩
  have hm := ctl_inl hk82
  refine thenN ?_
  refine wp_seq (region_plain ?_)
  refine lq (sv a0) S (q_move rfl) fun a S => ?_
  refine lq (.int .i64 (a0.length : Int)) S (q_lenStr rfl rfl Tryz.underlying9) fun a S => ?_
  refine lq (.bool (decide ((1 : Int) ≤ (a0.length : Int)))) S (q_geq rfl rfl) fun a S => ?_
  refine lq (.bool (decide ((1 : Int) ≤ (a0.length : Int)))) S (q_move rfl) fun a S => ?_
  obtain ⟨t83, e84, hm⟩ := bind_some hm
  refine lx_cut 4 (fun a w => Slots a 42 [(41, (.bool t83))] ∧ Heap w0 [] w) ?_ ?_
  ·by_cases hc85 : (decide ((1 : Int) ≤ (a0.length : Int))) = true
   ·have hm := ite_t hc85 e84
    refine lx_q (sv a0) S (want_b rfl rfl hc85) (by decide) (q_move rfl) (fun a S => ?_)
    refine lx_q (.int .i64 (a0.length : Int)) S (want_b rfl rfl hc85) (by decide) (q_lenStr rfl rfl Tryz.underlying9) (fun a S => ?_)
    refine lx_q (.bool (decide ((a0.length : Int) ≤ (10 : Int)))) S (want_b rfl rfl hc85) (by decide) (q_leq rfl rfl) (fun a S => ?_)
    refine lq (.bool (decide ((a0.length : Int) ≤ (10 : Int)))) S (q_pickT' rfl hc85 rfl) fun a S => ?_
    refine lx_nil ?_
    obtain rfl := Option.some.inj hm
    exact ⟨S.sub ⟨rfl, trivial⟩, H⟩
   ·have hm := ite_f (eq_false_of_ne_true hc85) e84
    have hc85 : (decide ((1 : Int) ≤ (a0.length : Int))) = false := eq_false_of_ne_true hc85
    refine lx_skip S rfl rfl (isB_ne hc85) (by decide) (fun a S => ?_)
    refine lx_skip S rfl rfl (isB_ne hc85) (by decide) (fun a S => ?_)
    refine lx_skip S rfl rfl (isB_ne hc85) (by decide) (fun a S => ?_)
    refine lq (.bool false) S (q_pickF' rfl hc85 rfl) fun a S => ?_
    refine lx_nil ?_
    obtain rfl := Option.some.inj hm
    exact ⟨S.sub ⟨rfl, trivial⟩, H⟩
  ·rintro a w ⟨S, H⟩
   refine lq (.bool t83) S (q_assign rfl) fun a S => ?_
   refine lx_nil (thenN ?_)
   refine wp_ret ?_
   obtain rfl := Option.some.inj hm
   exact leave1 S rfl rfl ⟨rfl, H⟩
 ·skip
  refine loop_ghost (fun n a w => ∃ (x54 : Int), Slots a 42 [(0, (sv a0)), (6, (.int .i64 (a0.length : Int))), (7, (.int .i64 x54))] ∧ Heap w0 [] w ∧ iter f80 n (x54) = some res78) _ ⟨(0 : Int), S.sub ⟨rfl, rfl, rfl, trivial⟩, H, hit79⟩ ?_
  rintro n a w ⟨x54, S, H, hit79⟩
  obtain ⟨m86, o87, rfl, hm, hc88⟩ := iter_step hit79
  rw [hf81] at hm
  refine wp_seq (region_plain ?_)
  refine lq (.bool (decide (x54 < (a0.length : Int)))) S (q_lss rfl rfl) fun a S => ?_
  refine lx_nil (thenN ?_)
  refine wp_seq ?_
  refine cond_b S rfl (fun hc89 => ?_) (fun hc89 => ?_)
  ·have hm := ite_t hc89 hm
   refine wp_skip (thenN ?_)
   refine wp_seq ?_
   refine wp_block ?_
   refine wp_seq (region_plain ?_)
   refine lq (.int .i64 x54) S (q_move rfl) fun a S => ?_
   refine lq (.int .i64 x54) S (q_assign rfl) fun a S => ?_
   refine lx_nil (thenN ?_)
   refine wp_seq (region_plain ?_)
   refine lq (sv a0) S (q_move rfl) fun a S => ?_
   refine lq (.int .i64 x54) S (q_move rfl) fun a S => ?_
   obtain ⟨b90, e91, hm⟩ := bind_some hm
   refine lq (.int .u8 (b90.toNat : Int)) S (q_sidx rfl rfl Tryz.underlying9 e91) fun a S => ?_
   refine lq (.bool (decide ((97 : Int) ≤ (b90.toNat : Int)))) S (q_geq rfl rfl) fun a S => ?_
   refine lq (.bool (decide ((97 : Int) ≤ (b90.toNat : Int)))) S (q_move rfl) fun a S => ?_
   obtain ⟨t92, e93, hm⟩ := bind_some hm
   refine lx_cut 5 (fun a w => Slots a 42 [(0, (sv a0)), (3, (.int .i64 x54)), (6, (.int .i64 (a0.length : Int))), (7, (.int .i64 x54)), (19, (.bool t92))] ∧ Heap w0 [] w) ?_ ?_
   ·by_cases hc94 : (decide ((97 : Int) ≤ (b90.toNat : Int))) = true
    ·have hm := ite_t hc94 e93
     refine lx_q (sv a0) S (want_b rfl rfl hc94) (by decide) (q_move rfl) (fun a S => ?_)
     refine lx_q (.int .i64 x54) S (want_b rfl rfl hc94) (by decide) (q_move rfl) (fun a S => ?_)
     obtain ⟨b95, e96, hm⟩ := bind_some hm
     refine lx_q (.int .u8 (b95.toNat : Int)) S (want_b rfl rfl hc94) (by decide) (q_sidx rfl rfl Tryz.underlying9 e96) (fun a S => ?_)
     refine lx_q (.bool (decide ((b95.toNat : Int) ≤ (122 : Int)))) S (want_b rfl rfl hc94) (by decide) (q_leq rfl rfl) (fun a S => ?_)
     refine lq (.bool (decide ((b95.toNat : Int) ≤ (122 : Int)))) S (q_pickT' rfl hc94 rfl) fun a S => ?_
     refine lx_nil ?_
     obtain rfl := Option.some.inj hm
     exact ⟨S.sub ⟨rfl, rfl, rfl, rfl, rfl, trivial⟩, H⟩
    ·have hm := ite_f (eq_false_of_ne_true hc94) e93
     have hc94 : (decide ((97 : Int) ≤ (b90.toNat : Int))) = false := eq_false_of_ne_true hc94
     refine lx_skip S rfl rfl (isB_ne hc94) (by decide) (fun a S => ?_)
     refine lx_skip S rfl rfl (isB_ne hc94) (by decide) (fun a S => ?_)
     refine lx_skip S rfl rfl (isB_ne hc94) (by decide) (fun a S => ?_)
     refine lx_skip S rfl rfl (isB_ne hc94) (by decide) (fun a S => ?_)
     refine lq (.bool false) S (q_pickF' rfl hc94 rfl) fun a S => ?_
     refine lx_nil ?_
     obtain rfl := Option.some.inj hm
     exact ⟨S.sub ⟨rfl, rfl, rfl, rfl, rfl, trivial⟩, H⟩
   ·rintro a w ⟨S, H⟩
    refine lq (.bool t92) S (q_assign rfl) fun a S => ?_
    refine lx_nil (thenN ?_)
    refine wp_seq (region_plain ?_)
    refine lq (.bool t92) S (q_move rfl) fun a S => ?_
    refine lq (.bool (!t92)) S (q_not rfl) fun a S => ?_
    refine lq (.bool (!t92)) S (q_move rfl) fun a S => ?_
    obtain ⟨t97, e98, hm⟩ := bind_some hm
    refine lx_cut 10 (fun a w => Slots a 42 [(0, (sv a0)), (6, (.int .i64 (a0.length : Int))), (7, (.int .i64 x54)), (32, (.bool t97))] ∧ Heap w0 [] w) ?_ ?_
    ·by_cases hc99 : (!t92) = true
     ·have hm := ite_t hc99 e98
      refine lx_q (.int .i64 x54) S (want_b rfl rfl hc99) (by decide) (q_move rfl) (fun a S => ?_)
      refine lx_q (.bool (x54 == (0 : Int))) S (want_b rfl rfl hc99) (by decide) (q_eql rfl rfl) (fun a S => ?_)
      refine lx_q (.bool (x54 == (0 : Int))) S (want_b rfl rfl hc99) (by decide) (q_move rfl) (fun a S => ?_)
      obtain ⟨t100, e101, hm⟩ := bind_some hm
      refine lx_cut 6 (fun a w => Slots a 42 [(0, (sv a0)), (6, (.int .i64 (a0.length : Int))), (7, (.int .i64 x54)), (22, (.bool (!t92))), (31, (.bool t100))] ∧ Heap w0 [] w) ?_ ?_
      ·by_cases hc102 : (x54 == (0 : Int)) = true
       ·have hm := ite_t hc102 e101
        refine lx_skip S rfl rfl (isB_ne hc102) (by decide) (fun a S => ?_)
        refine lx_skip S rfl rfl (isB_ne hc102) (by decide) (fun a S => ?_)
        refine lx_skip S rfl rfl (isB_ne hc102) (by decide) (fun a S => ?_)
        refine lx_skip S rfl rfl (isB_ne hc102) (by decide) (fun a S => ?_)
        refine lx_skip S rfl rfl (isB_ne hc102) (by decide) (fun a S => ?_)
        refine lx_q (.bool true) S (want_b rfl rfl hc99) (by decide) (q_pickT' rfl hc102 rfl) (fun a S => ?_)
        refine lx_nil ?_
        obtain rfl := Option.some.inj hm
        exact ⟨S.sub ⟨rfl, rfl, rfl, rfl, rfl, trivial⟩, H⟩
       ·have hm := ite_f (eq_false_of_ne_true hc102) e101
        have hc102 : (x54 == (0 : Int)) = false := eq_false_of_ne_true hc102
        refine lx_q (sv a0) S (want_b rfl rfl hc102) (by decide) (q_move rfl) (fun a S => ?_)
        refine lx_q (.int .i64 x54) S (want_b rfl rfl hc102) (by decide) (q_move rfl) (fun a S => ?_)
        obtain ⟨b103, e104, hm⟩ := bind_some hm
        refine lx_q (.int .u8 (b103.toNat : Int)) S (want_b rfl rfl hc102) (by decide) (q_sidx rfl rfl Tryz.underlying9 e104) (fun a S => ?_)
        obtain ⟨x107, e108, hm⟩ := bind_some hm
        refine lx_call (xs := [.tmp 28]) S (want_b rfl rfl hc102) (by decide) rfl rfl Tryz.call115 ((impl_isDigit_ok  e108).mono ?_)
        rintro e w105 ⟨rfl, Hc106⟩
        have H := H.call0 Hc106
        refine ⟨_, rfl, trivial, fun a S => ?_⟩
        refine lx_q (.bool (!x107)) S (want_b rfl rfl hc102) (by decide) (q_not rfl) (fun a S => ?_)
        refine lx_q (.bool (!x107)) S (want_b rfl rfl hc99) (by decide) (q_pickF' rfl hc102 rfl) (fun a S => ?_)
        refine lx_nil ?_
        obtain rfl := Option.some.inj hm
        exact ⟨S.sub ⟨rfl, rfl, rfl, rfl, rfl, trivial⟩, H⟩
      ·rintro a w ⟨S, H⟩
       refine lq (.bool t100) S (q_pickT' rfl hc99 rfl) fun a S => ?_
       refine lx_nil ?_
       obtain rfl := Option.some.inj hm
       exact ⟨S.sub ⟨rfl, rfl, rfl, rfl, trivial⟩, H⟩
     ·have hm := ite_f (eq_false_of_ne_true hc99) e98
      have hc99 : (!t92) = false := eq_false_of_ne_true hc99
      refine lx_skip S rfl rfl (isB_ne hc99) (by decide) (fun a S => ?_)
      refine lx_skip S rfl rfl (isB_ne hc99) (by decide) (fun a S => ?_)
      refine lx_skip S rfl rfl (isB_ne hc99) (by decide) (fun a S => ?_)
      refine lx_skip S rfl rfl rfl (by decide) (fun a S => ?_)
      refine lx_skip S rfl rfl rfl (by decide) (fun a S => ?_)
      refine lx_skip S rfl rfl rfl (by decide) (fun a S => ?_)
      refine lx_skip S rfl rfl rfl (by decide) (fun a S => ?_)
      refine lx_skip S rfl rfl rfl (by decide) (fun a S => ?_)
      refine lx_skip S rfl rfl (isB_ne hc99) (by decide) (fun a S => ?_)
      refine lq (.bool false) S (q_pickF' rfl hc99 rfl) fun a S => ?_
      refine lx_nil ?_
      obtain rfl := Option.some.inj hm
      exact ⟨S.sub ⟨rfl, rfl, rfl, rfl, trivial⟩, H⟩
    ·rintro a w ⟨S, H⟩
     refine lx_nil (thenN ?_)
     refine cond_b S rfl (fun hc110 => ?_) (fun hc110 => ?_)
     ·have hm := ite_t hc110 hm
      refine wp_seq (region_plain ?_)
      refine lq (.bool false) S (q_assign rfl) fun a S => ?_
      refine lx_nil (thenN ?_)
      refine wp_ret (inBlock_ret ?_)
      refine then_ret ?_
      refine then_ret ?_
      refine inBlock_ret ?_
      refine then_ret ?_
      refine then_ret ?_
      obtain rfl := it_brk hm hc88
      have hm := ctl_inr hk82
      obtain rfl := Option.some.inj hm
      exact leave1 S rfl rfl ⟨rfl, H⟩
     ·have hm := ite_f hc110 hm
      refine wp_skip ?_
      refine inBlock_norm ?_
      refine thenN ?_
      refine region_plain ?_
      refine lq (.int .i64 (W (x54 + (1 : Int)))) S (q_add rfl rfl) fun a S => ?_
      refine lq (.int .i64 (W (x54 + (1 : Int)))) S (q_move rfl) fun a S => ?_
      refine lx_nil ?_
      exact ⟨m86, Nat.lt_succ_self _, (W (x54 + (1 : Int))), S.sub ⟨rfl, rfl, rfl, trivial⟩, H, it_cont hm hc88⟩
  ·have hm := ite_f hc89 hm
   refine wp_exit ?_
   refine then_exit ?_
   refine then_exit ?_
   refine inBlock_exit ?_
   obtain rfl := it_brk hm hc88
   exact ⟨S.sub ⟨rfl, trivial⟩, H, rfl⟩

/-- impl.IsAction -/
def impl_IsAction_m (fuel : Nat) (a0 : Str) : Option (Bool) :=
  (impl_IsName_m fuel a0).bind fun x33 => (if x33 = true then some (a0 != ([116, 97, 117] : Str)) else some false).bind fun t36 => some (t36)
set_option maxRecDepth 20000 in
theorem impl_IsAction_ok [dr : Dr] {w0 : World} {fuel : Nat} {a0 : Str} {r : Bool} (hm : impl_IsAction_m fuel a0 = some r) :
  Calls Tryz.prog 83 #[sv a0] w0 fun e w => e = .returned (.bool r) ∧ Heap w0 [] w := by
 unfold impl_IsAction_m at hm
 have H := Heap.start w0
 refine enter (args := [sv a0]) Tryz.func83 rfl 9 rfl (Nat.le_of_ble_eq_true rfl) (fun a S => ?_)
 refine wp_seq (region_plain ?_)
 refine lq (.bool false) S (q_assign rfl) fun a S => ?_
 refine lx_nil (thenN ?_)
 refine wp_seq (region_plain ?_)
 refine lq (sv a0) S (q_move rfl) fun a S => ?_
 obtain ⟨x33, e34, hm⟩ := bind_some hm
 refine lx_call (xs := [.tmp 3]) S trivial (by decide) rfl rfl Tryz.call102 ((impl_IsName_ok  e34).mono ?_)
 rintro e w31 ⟨rfl, Hc32⟩
 have H := H.call0 Hc32
 refine ⟨_, rfl, trivial, fun a S => ?_⟩
 refine lq (.bool x33) S (q_move rfl) fun a S => ?_
 obtain ⟨t36, e37, hm⟩ := bind_some hm
 refine lx_cut 3 (fun a w => Slots a 9 [(8, (.bool t36))] ∧ Heap w0 [] w) ?_ ?_
 ·by_cases hc38 : x33 = true
  ·have hm := ite_t hc38 e37
   refine lx_q (sv a0) S (want_b rfl rfl hc38) (by decide) (q_move rfl) (fun a S => ?_)
   refine lx_q (.bool (a0 != ([116, 97, 117] : Str))) S (want_b rfl rfl hc38) (by decide) (q_sneq rfl rfl) (fun a S => ?_)
   refine lq (.bool (a0 != ([116, 97, 117] : Str))) S (q_pickT' rfl hc38 rfl) fun a S => ?_
   refine lx_nil ?_
   obtain rfl := Option.some.inj hm
   exact ⟨S.sub ⟨rfl, trivial⟩, H⟩
  ·have hm := ite_f (eq_false_of_ne_true hc38) e37
   have hc38 : x33 = false := eq_false_of_ne_true hc38
   refine lx_skip S rfl rfl (isB_ne hc38) (by decide) (fun a S => ?_)
   refine lx_skip S rfl rfl (isB_ne hc38) (by decide) (fun a S => ?_)
   refine lq (.bool false) S (q_pickF' rfl hc38 rfl) fun a S => ?_
   refine lx_nil ?_
   obtain rfl := Option.some.inj hm
   exact ⟨S.sub ⟨rfl, trivial⟩, H⟩
 ·rintro a w ⟨S, H⟩
  refine lq (.bool t36) S (q_assign rfl) fun a S => ?_
  refine lx_nil (thenN ?_)
  refine wp_ret ?_
  obtain rfl := Option.some.inj hm
  exact leave1 S rfl rfl ⟨rfl, H⟩

/-- slices.IndexFunc[[]int64,int64] -/
def slices_IndexFunc__int64_int64_m (fuel : Nat) (a0 : (List Int)) (a1 : (Int → Option Bool)) : Option (Int) :=
  (iter (fun (s : (Int)) => (match s with | (x46) => (if (decide (x46 < (a0.length : Int))) = true then (idx a0 x46).bind fun x71 => (a1 x71).bind fun x80 => (if x80 = true then some (.inr (.inr x46)) else some (.inl ((W (x46 + (1 : Int)))))) else some (.inr (.inl ()))) : Option (((Int)) ⊕ ((Unit) ⊕ (Int))))) fuel ((0 : Int))).bind fun res62 => ctl (β := Unit) (ρ := Int) (τ := Int) res62 (fun _ => some ((-1 : Int))) (fun q => some (q))
set_option maxRecDepth 20000 in
theorem slices_IndexFunc__int64_int64_ok [dr : Dr] {w0 : World} {fuel : Nat} {p0 : Value} {a0 : (List Int)} {a1 : (Int → Option Bool)} {f1 : Nat} {fs1 cp1 : List Value} {r : Int} (h0 : Rd (rList (rInt .i64)) w0 p0 a0) (hcf1 : ∀ args w, (callFunc f1 args).run Tryz.prog w = .ok (.enter f1 args) w) (hf1 : ∀ {w : World} {x0_ : Int} {y : Bool}, Ext w0 w → a1 x0_ = some y → Calls Tryz.prog f1 (fs1 ++ ([.int .i64 x0_] : List Value) ++ cp1).toArray w fun e w' => e = .returned (.bool y) ∧ Heap w [] w') (hm : slices_IndexFunc__int64_int64_m fuel a0 a1 = some r) :
  Calls Tryz.prog 116 #[p0, .func (.func f1) fs1.toArray cp1.toArray] w0 fun e w => e = .returned (.int .i64 r) ∧ Heap w0 [] w := by
 unfold slices_IndexFunc__int64_int64_m at hm
 have H := Heap.start w0
 refine enter (args := [p0, .func (.func f1) fs1.toArray cp1.toArray]) Tryz.func116 rfl 19 rfl (Nat.le_of_ble_eq_true rfl) (fun a S => ?_)
 refine wp_seq (region_plain ?_)
 refine lq (.int .i64 (0 : Int)) S (q_assign rfl) fun a S => ?_
 refine lx_nil (thenN ?_)
 refine wp_seq (wp_seq (region_plain ?_))
 refine lq p0 S (q_move rfl) fun a S => ?_
 refine lq (.int .i64 (a0.length : Int)) S (q_lenSl rfl (h0).isSl rfl Tryz.underlying32) fun a S => ?_
 refine lq (.int .i64 (0 : Int)) S (q_move rfl) fun a S => ?_
 refine lx_nil (thenN ?_)
 obtain ⟨res62, hit63, hk66⟩ := bind_some hm
 obtain ⟨f64, hf65, hit63⟩ := iter_name hit63
 refine block_loop (fun a w => Slots a 19 [] ∧ Heap w0 [] w ∧ res62 = .inl ()) ?_ ?_
 ·rintro a w ⟨S, H, rfl⟩
  have hm := ctl_inl hk66
  refine thenN ?_
  refine wp_seq (region_plain ?_)
  refine lq (.int .i64 (-1 : Int)) S (q_assign rfl) fun a S => ?_
  refine lx_nil (thenN ?_)
  refine wp_ret ?_
  obtain rfl := Option.some.inj hm
  exact leave1 S rfl rfl ⟨rfl, H⟩
 ·skip
  refine loop_ghost (fun n a w => ∃ (x46 : Int), Slots a 19 [(0, p0), (1, (.func (.func f1) fs1.toArray cp1.toArray)), (7, (.int .i64 (a0.length : Int))), (8, (.int .i64 x46))] ∧ Heap w0 [] w ∧ iter f64 n (x46) = some res62) _ ⟨(0 : Int), S.sub ⟨rfl, rfl, rfl, rfl, trivial⟩, H, hit63⟩ ?_
  rintro n a w ⟨x46, S, H, hit63⟩
  obtain ⟨m67, o68, rfl, hm, hc69⟩ := iter_step hit63
  rw [hf65] at hm
  refine wp_seq (region_plain ?_)
  refine lq (.bool (decide (x46 < (a0.length : Int)))) S (q_lss rfl rfl) fun a S => ?_
  refine lx_nil (thenN ?_)
  refine wp_seq ?_
  refine cond_b S rfl (fun hc70 => ?_) (fun hc70 => ?_)
  ·have hm := ite_t hc70 hm
   refine wp_skip (thenN ?_)
   refine wp_seq ?_
   refine wp_block ?_
   refine wp_seq (region_plain ?_)
   refine lq (.int .i64 x46) S (q_move rfl) fun a S => ?_
   refine lq (.int .i64 x46) S (q_assign rfl) fun a S => ?_
   refine lx_nil (thenN ?_)
   refine wp_seq (region_plain ?_)
   refine lq (.func (.func f1) fs1.toArray cp1.toArray) S (q_move rfl) fun a S => ?_
   refine lq p0 S (q_move rfl) fun a S => ?_
   refine lq (.int .i64 x46) S (q_move rfl) fun a S => ?_
   obtain ⟨x71, e72, hm⟩ := bind_some hm
   obtain ⟨c73, h74, hat75⟩ := (h0).elem (idx_some e72).2
   obtain rfl := h74
   have hlt := lt_of_idx (idx_some e72).2
   refine lq (ePtr p0 (x46.toNat * 1)) S (q_indexAddr rfl (h0).isSl rfl (idx_some e72).1 hlt Tryz.underlying32 Tryz.sizeOf2) fun a S => ?_
   refine lx_e (.int .i64 x71) S trivial (by decide) rfl trivial (q_load1 rfl Tryz.isAgg2 (by rintro _ rfl; exact ((hat75 0 _ rfl).ext H.ext))) (fun a S => ?_)
   obtain ⟨x80, e81, hm⟩ := bind_some hm
   refine lx_callV (f := f1) (first := fs1) (cap := cp1) (xs := [.tmp 15]) S trivial (by decide) rfl rfl rfl hcf1 ((hf1 H.ext  e81).mono ?_)
   rintro e w78 ⟨rfl, Hc79⟩
   have H := H.call0 Hc79
   refine ⟨_, rfl, trivial, fun a S => ?_⟩
   refine lx_nil (thenN ?_)
   refine cond_b S rfl (fun hc83 => ?_) (fun hc83 => ?_)
   ·have hm := ite_t hc83 hm
    refine wp_seq (region_plain ?_)
    refine lq (.int .i64 x46) S (q_move rfl) fun a S => ?_
    refine lq (.int .i64 x46) S (q_assign rfl) fun a S => ?_
    refine lx_nil (thenN ?_)
    refine wp_ret (inBlock_ret ?_)
    refine then_ret ?_
    refine then_ret ?_
    refine inBlock_ret ?_
    refine then_ret ?_
    refine then_ret ?_
    obtain rfl := it_brk hm hc69
    have hm := ctl_inr hk66
    obtain rfl := Option.some.inj hm
    exact leave1 S rfl rfl ⟨rfl, H⟩
   ·have hm := ite_f hc83 hm
    refine wp_skip ?_
    refine inBlock_norm ?_
    refine thenN ?_
    refine region_plain ?_
    refine lq (.int .i64 (W (x46 + (1 : Int)))) S (q_add rfl rfl) fun a S => ?_
    refine lq (.int .i64 (W (x46 + (1 : Int)))) S (q_move rfl) fun a S => ?_
    refine lx_nil ?_
    exact ⟨m67, Nat.lt_succ_self _, (W (x46 + (1 : Int))), S.sub ⟨rfl, rfl, rfl, rfl, trivial⟩, H, it_cont hm hc69⟩
  ·have hm := ite_f hc70 hm
   refine wp_exit ?_
   refine then_exit ?_
   refine then_exit ?_
   refine inBlock_exit ?_
   obtain rfl := it_brk hm hc69
   exact ⟨S.sub trivial, H, rfl⟩

/-- slices.ContainsFunc[[]int64,int64] -/
def slices_ContainsFunc__int64_int64_m (fuel : Nat) (a0 : (List Int)) (a1 : (Int → Option Bool)) : Option (Bool) :=
  (slices_IndexFunc__int64_int64_m fuel a0 a1).bind fun x33 => some ((decide ((0 : Int) ≤ x33)))
set_option maxRecDepth 20000 in
theorem slices_ContainsFunc__int64_int64_ok [dr : Dr] {w0 : World} {fuel : Nat} {p0 : Value} {a0 : (List Int)} {a1 : (Int → Option Bool)} {f1 : Nat} {fs1 cp1 : List Value} {r : Bool} (h0 : Rd (rList (rInt .i64)) w0 p0 a0) (hcf1 : ∀ args w, (callFunc f1 args).run Tryz.prog w = .ok (.enter f1 args) w) (hf1 : ∀ {w : World} {x0_ : Int} {y : Bool}, Ext w0 w → a1 x0_ = some y → Calls Tryz.prog f1 (fs1 ++ ([.int .i64 x0_] : List Value) ++ cp1).toArray w fun e w' => e = .returned (.bool y) ∧ Heap w [] w') (hm : slices_ContainsFunc__int64_int64_m fuel a0 a1 = some r) :
  Calls Tryz.prog 103 #[p0, .func (.func f1) fs1.toArray cp1.toArray] w0 fun e w => e = .returned (.bool r) ∧ Heap w0 [] w := by
 unfold slices_ContainsFunc__int64_int64_m at hm
 have H := Heap.start w0
 refine enter (args := [p0, .func (.func f1) fs1.toArray cp1.toArray]) Tryz.func103 rfl 9 rfl (Nat.le_of_ble_eq_true rfl) (fun a S => ?_)
 refine wp_seq (region_plain ?_)
 refine lq (.bool false) S (q_assign rfl) fun a S => ?_
 refine lx_nil (thenN ?_)
 refine wp_seq (region_plain ?_)
 refine lq p0 S (q_move rfl) fun a S => ?_
 refine lq (.func (.func f1) fs1.toArray cp1.toArray) S (q_move rfl) fun a S => ?_
 obtain ⟨x33, e34, hm⟩ := bind_some hm
 refine lx_call (xs := [.tmp 5, .tmp 6]) S trivial (by decide) rfl rfl Tryz.call116 ((slices_IndexFunc__int64_int64_ok (f1 := f1) (fs1 := fs1) (cp1 := cp1) (a1 := a1) (H.arg h0) hcf1 (fun he  hm => hf1 ((H.ext).trans he)  hm) e34).mono ?_)
 rintro e w31 ⟨rfl, Hc32⟩
 have H := H.call0 Hc32
 refine ⟨_, rfl, trivial, fun a S => ?_⟩
 refine lq (.bool (decide ((0 : Int) ≤ x33))) S (q_geq rfl rfl) fun a S => ?_
 refine lq (.bool (decide ((0 : Int) ≤ x33))) S (q_assign rfl) fun a S => ?_
 refine lx_nil (thenN ?_)
 refine wp_ret ?_
 obtain rfl := Option.some.inj hm
 exact leave1 S rfl rfl ⟨rfl, H⟩

/-- impl.isValue -/
def impl_isValue_m (fuel : Nat) (a0 : Int) : Option (Bool) :=
  (impl_within_m fuel a0 (0 : Int) (63 : Int)).bind fun x33 => some (x33)
set_option maxRecDepth 20000 in
theorem impl_isValue_ok [dr : Dr] {w0 : World} {fuel : Nat} {a0 : Int} {r : Bool} (hm : impl_isValue_m fuel a0 = some r) :
  Calls Tryz.prog 105 #[.int .i64 a0] w0 fun e w => e = .returned (.bool r) ∧ Heap w0 [] w := by
 unfold impl_isValue_m at hm
 have H := Heap.start w0
 refine enter (args := [.int .i64 a0]) Tryz.func105 rfl 5 rfl (Nat.le_of_ble_eq_true rfl) (fun a S => ?_)
 refine wp_seq (region_plain ?_)
 refine lq (.bool false) S (q_assign rfl) fun a S => ?_
 refine lx_nil (thenN ?_)
 refine wp_seq (region_plain ?_)
 refine lq (.int .i64 a0) S (q_move rfl) fun a S => ?_
 obtain ⟨x33, e34, hm⟩ := bind_some hm
 refine lx_call (xs := [.tmp 3, .const (.int .i64 (0)), .const (.int .i64 (63))]) S trivial (by decide) rfl rfl Tryz.call29 ((impl_within_ok    e34).mono ?_)
 rintro e w31 ⟨rfl, Hc32⟩
 have H := H.call0 Hc32
 refine ⟨_, rfl, trivial, fun a S => ?_⟩
 refine lq (.bool x33) S (q_assign rfl) fun a S => ?_
 refine lx_nil (thenN ?_)
 refine wp_ret ?_
 obtain rfl := Option.some.inj hm
 exact leave1 S rfl rfl ⟨rfl, H⟩

/-- impl.areValues$1 -/
def impl_areValues_1_m (fuel : Nat) (a0 : Int) : Option (Bool) :=
  (impl_isValue_m fuel a0).bind fun x33 => some ((!x33))
set_option maxRecDepth 20000 in
theorem impl_areValues_1_ok [dr : Dr] {w0 : World} {fuel : Nat} {a0 : Int} {r : Bool} (hm : impl_areValues_1_m fuel a0 = some r) :
  Calls Tryz.prog 104 #[.int .i64 a0] w0 fun e w => e = .returned (.bool r) ∧ Heap w0 [] w := by
 unfold impl_areValues_1_m at hm
 have H := Heap.start w0
 refine enter (args := [.int .i64 a0]) Tryz.func104 rfl 6 rfl (Nat.le_of_ble_eq_true rfl) (fun a S => ?_)
 refine wp_seq (region_plain ?_)
 refine lq (.bool false) S (q_assign rfl) fun a S => ?_
 refine lx_nil (thenN ?_)
 refine wp_seq (region_plain ?_)
 refine lq (.int .i64 a0) S (q_move rfl) fun a S => ?_
 obtain ⟨x33, e34, hm⟩ := bind_some hm
 refine lx_call (xs := [.tmp 3]) S trivial (by decide) rfl rfl Tryz.call105 ((impl_isValue_ok  e34).mono ?_)
 rintro e w31 ⟨rfl, Hc32⟩
 have H := H.call0 Hc32
 refine ⟨_, rfl, trivial, fun a S => ?_⟩
 refine lq (.bool (!x33)) S (q_not rfl) fun a S => ?_
 refine lq (.bool (!x33)) S (q_assign rfl) fun a S => ?_
 refine lx_nil (thenN ?_)
 refine wp_ret ?_
 obtain rfl := Option.some.inj hm
 exact leave1 S rfl rfl ⟨rfl, H⟩

/-- impl.areValues -/
def impl_areValues_m (fuel : Nat) (a0 : (List Int)) : Option (Bool) :=
  (slices_ContainsFunc__int64_int64_m fuel a0 (fun (z0 : Int) => impl_areValues_1_m fuel z0)).bind fun x33 => some ((!x33))
set_option maxRecDepth 20000 in
theorem impl_areValues_ok [dr : Dr] {w0 : World} {fuel : Nat} {p0 : Value} {a0 : (List Int)} {r : Bool} (h0 : Rd (rList (rInt .i64)) w0 p0 a0) (hm : impl_areValues_m fuel a0 = some r) :
  Calls Tryz.prog 84 #[p0] w0 fun e w => e = .returned (.bool r) ∧ Heap w0 [] w := by
 unfold impl_areValues_m at hm
 have H := Heap.start w0
 refine enter (args := [p0]) Tryz.func84 rfl 6 rfl (Nat.le_of_ble_eq_true rfl) (fun a S => ?_)
 refine wp_seq (region_plain ?_)
 refine lq (.bool false) S (q_assign rfl) fun a S => ?_
 refine lx_nil (thenN ?_)
 refine wp_seq (region_plain ?_)
 refine lq p0 S (q_move rfl) fun a S => ?_
 obtain ⟨x33, e34, hm⟩ := bind_some hm
 refine lx_call (xs := [.tmp 3, .func 104]) S trivial (by decide) rfl rfl Tryz.call103 ((slices_ContainsFunc__int64_int64_ok (f1 := 104) (fs1 := ([] : List Value)) (cp1 := ([] : List Value)) (a1 := (fun (z0 : Int) => impl_areValues_1_m fuel z0)) (H.arg h0) Tryz.call104 (fun he  hm => impl_areValues_1_ok    hm) e34).mono ?_)
 rintro e w31 ⟨rfl, Hc32⟩
 have H := H.call0 Hc32
 refine ⟨_, rfl, trivial, fun a S => ?_⟩
 refine lq (.bool (!x33)) S (q_not rfl) fun a S => ?_
 refine lq (.bool (!x33)) S (q_assign rfl) fun a S => ?_
 refine lx_nil (thenN ?_)
 refine wp_ret ?_
 obtain rfl := Option.some.inj hm
 exact leave1 S rfl rfl ⟨rfl, H⟩

/-- impl.joined -/
def impl_joined_m (fuel : Nat) (a0 : (List Int)) (a1 : Str) : Option (Str) :=
  (mks (a0.length : Int) ([] : Str)).bind fun x31 => (iter (fun (s : (List Str) × (Int)) => (match s with | (xs53, x54) => (if (decide (x54 < (a0.length : Int))) = true then (idx a0 x54).bind fun x86 => (impl_Decimal_m fuel x86).bind fun x93 => (idx xs53 x54).bind fun _ => some (.inl ((xs53.set x54.toNat x93), (W (x54 + (1 : Int))))) else some (.inr (.inl (xs53)))) : Option (((List Str) × (Int)) ⊕ (((List Str)) ⊕ (Str))))) fuel (x31, (0 : Int))).bind fun res72 => ctl (β := (List Str)) (ρ := Str) (τ := Str) res72 (fun (xs71) => (strings_Join_m fuel xs71 a1).bind fun x79 => some (x79)) (fun q => some (q))
set_option maxRecDepth 20000 in
theorem impl_joined_ok {w0 : World} {fuel : Nat} {p0 : Value} {a0 : (List Int)} {a1 : Str} {r : Str} (hG : Glob Tryz.prog w0) (h0 : Rd (rList (rInt .i64)) w0 p0 a0) (hm : impl_joined_m fuel a0 a1 = some r) :
  Calls Tryz.prog 34 #[p0, sv a1] w0 fun e w => e = .returned (sv r) ∧ Heap w0 [] w := by
 unfold impl_joined_m at hm
 have H := Heap.start w0
 refine enter (args := [p0, sv a1]) Tryz.func34 rfl 27 rfl (Nat.le_of_ble_eq_true rfl) (fun a S => ?_)
 refine wp_seq (region_plain ?_)
 refine lq (sv ([] : Str)) S (q_assign rfl) fun a S => ?_
 refine lx_nil (thenN ?_)
 refine wp_seq (region_plain ?_)
 refine lq p0 S (q_move rfl) fun a S => ?_
 refine lq (.int .i64 (a0.length : Int)) S (q_lenSl rfl (h0).isSl rfl Tryz.underlying32) fun a S => ?_
 obtain ⟨x31, e32, hm⟩ := bind_some hm
 obtain ⟨m33, hn, hn2, rfl⟩ := mks_some e32
 refine lx_make (r := rStr) (z0 := ([] : Str)) (n := m33) S trivial (by decide) rfl H (by rw [← hn]; rfl) (by rw [← hn]; rfl) Tryz.underlying22 (Tryz.ti9) rfl rfl (Nat.le_of_ble_eq_true rfl) (fun w => ⟨rfl, rfl⟩) hn2 (by decide) (fun v34 w35 H => ⟨trivial, fun a S => ?_⟩)
 refine lq v34 S (q_assign rfl) fun a S => ?_
 refine lx_nil (thenN ?_)
 refine wp_seq (wp_seq (region_plain ?_))
 refine lq p0 S (q_move rfl) fun a S => ?_
 refine lq (.int .i64 (a0.length : Int)) S (q_lenSl rfl (h0).isSl rfl Tryz.underlying32) fun a S => ?_
 refine lq (.int .i64 (0 : Int)) S (q_move rfl) fun a S => ?_
 refine lx_nil (thenN ?_)
 obtain ⟨res72, hit73, hk76⟩ := bind_some hm
 obtain ⟨f74, hf75, hit73⟩ := iter_name hit73
 refine block_loop (fun a w => ∃ (xs71 : List Str), Slots a 27 [(1, (sv a1)), (5, v34)] ∧ Heap w0 [oA (rList rStr) v34 xs71] w ∧ res72 = .inl (xs71)) ?_ ?_
 ·rintro a w ⟨xs71, S, H, rfl⟩
  have hm := ctl_inl hk76
  refine thenN ?_
  refine wp_seq (region_plain ?_)
  refine lq v34 S (q_move rfl) fun a S => ?_
  refine lq (sv a1) S (q_move rfl) fun a S => ?_
  obtain ⟨x79, e80, hm⟩ := bind_some hm
  refine lx_call (xs := [.tmp 24, .tmp 25]) S trivial (by decide) rfl rfl Tryz.call51 ((strings_Join_ok (H.rdAt 0 rfl)  e80).mono ?_)
  rintro e w77 ⟨rfl, Hc78⟩
  have H := H.call0 Hc78
  refine ⟨_, rfl, trivial, fun a S => ?_⟩
  refine lq (sv x79) S (q_assign rfl) fun a S => ?_
  refine lx_nil (thenN ?_)
  refine wp_ret ?_
  obtain rfl := Option.some.inj hm
  have H : Heap w0 [] w77 := H.sel [] (by decide)
  exact leave1 S rfl rfl ⟨rfl, H⟩
 ·skip
  refine loop_ghost (fun n a w => ∃ (xs53 : List Str) (x54 : Int), Slots a 27 [(1, (sv a1)), (5, v34), (11, p0), (12, (.int .i64 (a0.length : Int))), (13, (.int .i64 x54))] ∧ Heap w0 [oA (rList rStr) v34 xs53] w ∧ iter f74 n (xs53, x54) = some res72) _ ⟨(List.replicate m33 ([] : Str)), (0 : Int), S.sub ⟨rfl, rfl, rfl, rfl, rfl, trivial⟩, H, hit73⟩ ?_
  rintro n a w ⟨xs53, x54, S, H, hit73⟩
  obtain ⟨m82, o83, rfl, hm, hc84⟩ := iter_step hit73
  rw [hf75] at hm
  refine wp_seq (region_plain ?_)
  refine lq (.bool (decide (x54 < (a0.length : Int)))) S (q_lss rfl rfl) fun a S => ?_
  refine lx_nil (thenN ?_)
  refine wp_seq ?_
  refine cond_b S rfl (fun hc85 => ?_) (fun hc85 => ?_)
  ·have hm := ite_t hc85 hm
   refine wp_skip (thenN ?_)
   refine wp_seq ?_
   refine wp_block ?_
   refine wp_seq (region_plain ?_)
   refine lq (.int .i64 x54) S (q_move rfl) fun a S => ?_
   obtain ⟨x86, e87, hm⟩ := bind_some hm
   obtain ⟨c88, h89, hat90⟩ := (h0).elem (idx_some e87).2
   obtain rfl := h89
   have hlt := lt_of_idx (idx_some e87).2
   refine lq (ePtr p0 (x54.toNat * 1)) S (q_indexAddr rfl (h0).isSl rfl (idx_some e87).1 hlt Tryz.underlying32 Tryz.sizeOf2) fun a S => ?_
   refine lx_e (.int .i64 x86) S trivial (by decide) rfl trivial (q_load1 rfl Tryz.isAgg2 (by rintro _ rfl; exact ((hat90 0 _ rfl).ext H.ext))) (fun a S => ?_)
   refine lq (.int .i64 x54) S (q_assign rfl) fun a S => ?_
   refine lq (.int .i64 x86) S (q_assign rfl) fun a S => ?_
   refine lx_nil (thenN ?_)
   refine region_plain ?_
   refine lq v34 S (q_move rfl) fun a S => ?_
   refine lq (.int .i64 x54) S (q_move rfl) fun a S => ?_
   refine lq (.int .i64 x86) S (q_move rfl) fun a S => ?_
   obtain ⟨x93, e94, hm⟩ := bind_some hm
   refine lx_call (xs := [.tmp 20]) S trivial (by decide) rfl rfl Tryz.call35 ((impl_Decimal_ok (hG.ext H.ext)  e94).mono ?_)
   rintro e w91 ⟨rfl, Hc92⟩
   have H := H.call0 Hc92
   refine ⟨_, rfl, trivial, fun a S => ?_⟩
   obtain ⟨x96, e97, hm⟩ := bind_some hm
   have hlt := lt_of_idx (idx_some e97).2
   refine lq (ePtr v34 (x54.toNat * 1)) S (q_indexAddr rfl (H.isSl 0 rfl) rfl (idx_some e97).1 hlt Tryz.underlying22 Tryz.sizeOf9) fun a S => ?_
   refine lx_storeElem (r := rStr) (us := [(sv x93)]) (off := 0) (e' := x93) S trivial rfl H.putE (ev_zero rfl) rfl (idx_some e97).2 rfl Tryz.sizeOf9 (Nat.le_of_ble_eq_true rfl) (List.forall_mem_cons.2 ⟨rfl, (List.forall_mem_nil _)⟩) (Upd.full rfl (fun w G hG => by cases (show G = [] from hG); exact ⟨rfl, rfl⟩)) (fun w98 H => ⟨trivial, fun a S => ?_⟩)
   refine lx_nil ?_
   refine inBlock_norm ?_
   refine thenN ?_
   refine region_plain ?_
   refine lq (.int .i64 (W (x54 + (1 : Int)))) S (q_add rfl rfl) fun a S => ?_
   refine lq (.int .i64 (W (x54 + (1 : Int)))) S (q_move rfl) fun a S => ?_
   refine lx_nil ?_
   exact ⟨m82, Nat.lt_succ_self _, (xs53.set x54.toNat x93), (W (x54 + (1 : Int))), S.sub ⟨rfl, rfl, rfl, rfl, rfl, trivial⟩, H, it_cont hm hc84⟩
  ·have hm := ite_f hc85 hm
   refine wp_exit ?_
   refine then_exit ?_
   refine then_exit ?_
   refine inBlock_exit ?_
   obtain rfl := it_brk hm hc84
   exact ⟨xs53, S.sub ⟨rfl, rfl, trivial⟩, H, rfl⟩

/-- impl.labelOf -/
def impl_labelOf_m (fuel : Nat) (a0 : Str) (a1 : (List Int)) : Option ((Str × Bool)) :=
  (if (a0 == ([116, 97, 117] : Str)) = true then some ((([116, 97, 117] : Str), ((a1.length : Int) == (0 : Int)))) else (impl_IsAction_m fuel a0).bind fun x34 => (if (!x34) = true then some true else some (decide ((2 : Int) < (a1.length : Int)))).bind fun t37 => (if t37 = true then some true else (impl_areValues_m fuel a1).bind fun x45 => some (!x45)).bind fun t40 => (if t40 = true then some ((([] : Str), false)) else (if ((a1.length : Int) == (0 : Int)) = true then some ((a0, true)) else (cat a0 ([40] : Str)).bind fun x50 => (impl_joined_m fuel a1 ([44] : Str)).bind fun x54 => (cat x50 x54).bind fun x57 => (cat x57 ([41] : Str)).bind fun x59 => some ((x59, true)))))
set_option maxRecDepth 20000 in
theorem impl_labelOf_ok {w0 : World} {fuel : Nat} {p1 : Value} {a0 : Str} {a1 : (List Int)} {r : (Str × Bool)} (hG : Glob Tryz.prog w0) (h1 : Rd (rList (rInt .i64)) w0 p1 a1) (hm : impl_labelOf_m fuel a0 a1 = some r) :
  Calls Tryz.prog 63 #[sv a0, p1] w0 fun e w => e = .returned (.tuple #[sv r.1, .bool r.2]) ∧ Heap w0 [] w := by
 unfold impl_labelOf_m at hm
 have H := Heap.start w0
 refine enter (args := [sv a0, p1]) Tryz.func63 rfl 37 rfl (Nat.le_of_ble_eq_true rfl) (fun a S => ?_)
 refine wp_seq (region_plain ?_)
 refine lq (sv ([] : Str)) S (q_assign rfl) fun a S => ?_
 refine lq (.bool false) S (q_assign rfl) fun a S => ?_
 refine lx_nil (thenN ?_)
 refine wp_seq ?_
 refine wp_block ?_
 refine wp_seq (region_plain ?_)
 refine lq (sv a0) S (q_move rfl) fun a S => ?_
 refine lq (.bool (a0 == ([116, 97, 117] : Str))) S (q_seql rfl rfl) fun a S => ?_
 refine lq (.bool (a0 == ([116, 97, 117] : Str))) S (q_assign rfl) fun a S => ?_
 refine lx_nil (thenN ?_)
 refine cond_b S rfl (fun hc31 => ?_) (fun hc31 => ?_)
 ·have hm := ite_t hc31 hm
  refine wp_seq (region_plain ?_)
  refine lq p1 S (q_move rfl) fun a S => ?_
  refine lq (.int .i64 (a1.length : Int)) S (q_lenSl rfl (h1).isSl rfl Tryz.underlying32) fun a S => ?_
  refine lq (.bool ((a1.length : Int) == (0 : Int))) S (q_eql rfl rfl) fun a S => ?_
  refine lq (sv ([116, 97, 117] : Str)) S (q_assign rfl) fun a S => ?_
  refine lq (.bool ((a1.length : Int) == (0 : Int))) S (q_assign rfl) fun a S => ?_
  refine lx_nil (thenN ?_)
  refine wp_ret (inBlock_ret ?_)
  refine then_ret ?_
  obtain rfl := Option.some.inj hm
  exact leave2 S rfl rfl rfl ⟨rfl, H⟩
 ·have hm := ite_f hc31 hm
  refine wp_seq (region_plain ?_)
  refine lq (sv a0) S (q_move rfl) fun a S => ?_
  obtain ⟨x34, e35, hm⟩ := bind_some hm
  refine lx_call (xs := [.tmp 13]) S trivial (by decide) rfl rfl Tryz.call83 ((impl_IsAction_ok  e35).mono ?_)
  rintro e w32 ⟨rfl, Hc33⟩
  have H := H.call0 Hc33
  refine ⟨_, rfl, trivial, fun a S => ?_⟩
  refine lq (.bool (!x34)) S (q_not rfl) fun a S => ?_
  refine lq (.bool (!x34)) S (q_move rfl) fun a S => ?_
  obtain ⟨t37, e38, hm⟩ := bind_some hm
  refine lx_cut 4 (fun a w => Slots a 37 [(0, (sv a0)), (1, p1), (20, (.bool t37))] ∧ Heap w0 [] w) ?_ ?_
  ·by_cases hc39 : (!x34) = true
   ·have hm := ite_t hc39 e38
    refine lx_skip S rfl rfl (isB_ne hc39) (by decide) (fun a S => ?_)
    refine lx_skip S rfl rfl (isB_ne hc39) (by decide) (fun a S => ?_)
    refine lx_skip S rfl rfl (isB_ne hc39) (by decide) (fun a S => ?_)
    refine lq (.bool true) S (q_pickT' rfl hc39 rfl) fun a S => ?_
    refine lx_nil ?_
    obtain rfl := Option.some.inj hm
    exact ⟨S.sub ⟨rfl, rfl, rfl, trivial⟩, H⟩
   ·have hm := ite_f (eq_false_of_ne_true hc39) e38
    have hc39 : (!x34) = false := eq_false_of_ne_true hc39
    refine lx_q p1 S (want_b rfl rfl hc39) (by decide) (q_move rfl) (fun a S => ?_)
    refine lx_q (.int .i64 (a1.length : Int)) S (want_b rfl rfl hc39) (by decide) (q_lenSl rfl (h1).isSl rfl Tryz.underlying32) (fun a S => ?_)
    refine lx_q (.bool (decide ((2 : Int) < (a1.length : Int)))) S (want_b rfl rfl hc39) (by decide) (q_gtr rfl rfl) (fun a S => ?_)
    refine lq (.bool (decide ((2 : Int) < (a1.length : Int)))) S (q_pickF' rfl hc39 rfl) fun a S => ?_
    refine lx_nil ?_
    obtain rfl := Option.some.inj hm
    exact ⟨S.sub ⟨rfl, rfl, rfl, trivial⟩, H⟩
  ·rintro a w ⟨S, H⟩
   refine lq (.bool t37) S (q_move rfl) fun a S => ?_
   obtain ⟨t40, e41, hm⟩ := bind_some hm
   refine lx_cut 4 (fun a w => Slots a 37 [(0, (sv a0)), (1, p1), (25, (.bool t40))] ∧ Heap w0 [] w) ?_ ?_
   ·by_cases hc42 : t37 = true
    ·have hm := ite_t hc42 e41
     refine lx_skip S rfl rfl (isB_ne hc42) (by decide) (fun a S => ?_)
     refine lx_skip S rfl rfl (isB_ne hc42) (by decide) (fun a S => ?_)
     refine lx_skip S rfl rfl (isB_ne hc42) (by decide) (fun a S => ?_)
     refine lq (.bool true) S (q_pickT' rfl hc42 rfl) fun a S => ?_
     refine lx_nil ?_
     obtain rfl := Option.some.inj hm
     exact ⟨S.sub ⟨rfl, rfl, rfl, trivial⟩, H⟩
    ·have hm := ite_f (eq_false_of_ne_true hc42) e41
     have hc42 : t37 = false := eq_false_of_ne_true hc42
     refine lx_q p1 S (want_b rfl rfl hc42) (by decide) (q_move rfl) (fun a S => ?_)
     obtain ⟨x45, e46, hm⟩ := bind_some hm
     refine lx_call (xs := [.tmp 22]) S (want_b rfl rfl hc42) (by decide) rfl rfl Tryz.call84 ((impl_areValues_ok (H.arg h1) e46).mono ?_)
     rintro e w43 ⟨rfl, Hc44⟩
     have H := H.call0 Hc44
     refine ⟨_, rfl, trivial, fun a S => ?_⟩
     refine lx_q (.bool (!x45)) S (want_b rfl rfl hc42) (by decide) (q_not rfl) (fun a S => ?_)
     refine lq (.bool (!x45)) S (q_pickF' rfl hc42 rfl) fun a S => ?_
     refine lx_nil ?_
     obtain rfl := Option.some.inj hm
     exact ⟨S.sub ⟨rfl, rfl, rfl, trivial⟩, H⟩
   ·rintro a w ⟨S, H⟩
    refine lq (.bool t40) S (q_assign rfl) fun a S => ?_
    refine lx_nil (thenN ?_)
    refine cond_b S rfl (fun hc48 => ?_) (fun hc48 => ?_)
    ·have hm := ite_t hc48 hm
     refine wp_seq (region_plain ?_)
     refine lq (sv ([] : Str)) S (q_assign rfl) fun a S => ?_
     refine lq (.bool false) S (q_assign rfl) fun a S => ?_
     refine lx_nil (thenN ?_)
     refine wp_ret (inBlock_ret ?_)
     refine then_ret ?_
     obtain rfl := Option.some.inj hm
     exact leave2 S rfl rfl rfl ⟨rfl, H⟩
    ·have hm := ite_f hc48 hm
     refine wp_seq (region_plain ?_)
     refine lq p1 S (q_move rfl) fun a S => ?_
     refine lq (.int .i64 (a1.length : Int)) S (q_lenSl rfl (h1).isSl rfl Tryz.underlying32) fun a S => ?_
     refine lq (.bool ((a1.length : Int) == (0 : Int))) S (q_eql rfl rfl) fun a S => ?_
     refine lq (.bool ((a1.length : Int) == (0 : Int))) S (q_assign rfl) fun a S => ?_
     refine lx_nil (thenN ?_)
     refine cond_b S rfl (fun hc49 => ?_) (fun hc49 => ?_)
     ·have hm := ite_t hc49 hm
      refine wp_seq (region_plain ?_)
      refine lq (sv a0) S (q_move rfl) fun a S => ?_
      refine lq (sv a0) S (q_assign rfl) fun a S => ?_
      refine lq (.bool true) S (q_assign rfl) fun a S => ?_
      refine lx_nil (thenN ?_)
      refine wp_ret (inBlock_ret ?_)
      refine then_ret ?_
      obtain rfl := Option.some.inj hm
      exact leave2 S rfl rfl rfl ⟨rfl, H⟩
     ·have hm := ite_f hc49 hm
      refine wp_skip ?_
      refine inBlock_norm ?_
      refine thenN ?_
      refine wp_seq (region_plain ?_)
      refine lq (sv a0) S (q_move rfl) fun a S => ?_
      obtain ⟨x50, e51, hm⟩ := bind_some hm
      obtain ⟨hle, hcat⟩ := cat_some e51
      subst hcat
      refine lq (sv (a0 ++ ([40] : Str))) S (q_cat rfl rfl hle) fun a S => ?_
      refine lq p1 S (q_move rfl) fun a S => ?_
      obtain ⟨x54, e55, hm⟩ := bind_some hm
      refine lx_call (xs := [.tmp 33, .const (sv [44])]) S trivial (by decide) rfl rfl Tryz.call34 ((impl_joined_ok (hG.ext H.ext) (H.arg h1)  e55).mono ?_)
      rintro e w52 ⟨rfl, Hc53⟩
      have H := H.call0 Hc53
      refine ⟨_, rfl, trivial, fun a S => ?_⟩
      obtain ⟨x57, e58, hm⟩ := bind_some hm
      obtain ⟨hle, hcat⟩ := cat_some e58
      subst hcat
      refine lq (sv ((a0 ++ ([40] : Str)) ++ x54)) S (q_cat rfl rfl hle) fun a S => ?_
      obtain ⟨x59, e60, hm⟩ := bind_some hm
      obtain ⟨hle, hcat⟩ := cat_some e60
      subst hcat
      refine lq (sv (((a0 ++ ([40] : Str)) ++ x54) ++ ([41] : Str))) S (q_cat rfl rfl hle) fun a S => ?_
      refine lq (sv (((a0 ++ ([40] : Str)) ++ x54) ++ ([41] : Str))) S (q_assign rfl) fun a S => ?_
      refine lq (.bool true) S (q_assign rfl) fun a S => ?_
      refine lx_nil (thenN ?_)
      refine wp_ret ?_
      obtain rfl := Option.some.inj hm
      exact leave2 S rfl rfl rfl ⟨rfl, H⟩

/-- impl.readLabel -/
def impl_readLabel_m (fuel : Nat) (a0 : Str) : Option ((Str × (List Int) × Bool)) :=
  (strings_Cut_m fuel a0 ([40] : Str)).bind fun x33 => join (κ := List Int → Option (Str × (List Int) × Bool)) (fun (xs37 : List Int) => (impl_labelOf_m fuel x33.1 xs37).bind fun x43 => (if (!x43.2) = true then some true else some (x43.1 != a0)).bind fun t46 => (if t46 = true then some ((([] : Str), [], false)) else some ((x33.1, xs37, true)))) (fun K39 => (if x33.2.2 = true then (strings_TrimSuffix_m fuel x33.2.1 ([41] : Str)).bind fun x54 => (strings_Split_m fuel x54 ([44] : Str)).bind fun x59 => (impl_readNumbers_m fuel x59).bind fun x66 => (if (!x66.2) = true then some ((([] : Str), [], false)) else (K39 x66.1)) else (K39 [])))
set_option maxRecDepth 20000 in
theorem impl_readLabel_ok {w0 : World} {fuel : Nat} {a0 : Str} {r : (Str × (List Int) × Bool)} (hG : GlobE Tryz.prog w0) (hm : impl_readLabel_m fuel a0 = some r) :
  Calls Tryz.prog 48 #[sv a0] w0 fun e w => ∃ (v0 : Value), e = .returned (.tuple #[sv r.1, v0, .bool r.2.2]) ∧ Heap w0 [oA (rList (rInt .i64)) v0 r.2.1] w := by
 unfold impl_readLabel_m at hm
 have H := Heap.start w0
 refine enter (args := [sv a0]) Tryz.func48 rfl 43 rfl (Nat.le_of_ble_eq_true rfl) (fun a S => ?_)
 refine wp_seq (region_plain ?_)
 refine lq (sv ([] : Str)) S (q_assign rfl) fun a S => ?_
 refine lq (.slice none 0 0) S (q_assign rfl) fun a S => ?_
 refine lq (.bool false) S (q_assign rfl) fun a S => ?_
 refine lx_nil (thenN ?_)
 refine wp_seq (region_plain ?_)
 refine lq (sv a0) S (q_move rfl) fun a S => ?_
 obtain ⟨x33, e34, hm⟩ := bind_some hm
 refine lx_call (xs := [.tmp 13, .const (sv [40])]) S trivial (by decide) rfl rfl Tryz.call61 ((strings_Cut_ok (hG.ext H.ext).toGlob   e34).mono ?_)
 rintro e w31 ⟨rfl, Hc32⟩
 have H := H.call0 Hc32
 refine ⟨_, rfl, trivial, fun a S => ?_⟩
 refine lq (.tuple #[(sv x33.1), (sv x33.2.1), (.bool x33.2.2)]) S (q_move rfl) fun a S => ?_
 refine lq (sv x33.1) S (q_extract rfl rfl) fun a S => ?_
 refine lq (sv x33.2.1) S (q_extract rfl rfl) fun a S => ?_
 refine lq (.bool x33.2.2) S (q_extract rfl rfl) fun a S => ?_
 refine lq (sv x33.1) S (q_assign rfl) fun a S => ?_
 refine lq (sv x33.2.1) S (q_assign rfl) fun a S => ?_
 refine lq (.bool x33.2.2) S (q_assign rfl) fun a S => ?_
 refine lx_nil (thenN ?_)
 refine wp_seq (region_plain ?_)
 refine lq (.slice none 0 0) S (q_assign rfl) fun a S => ?_
 refine lx_nil (thenN ?_)
 obtain ⟨K39, hK40, hm⟩ := join_elim hm
 refine seq_cut (fun a w => ∃ (xs37 : List Int) (v36 : Value), Slots a 43 [(0, (sv a0)), (5, (sv x33.1)), (8, v36)] ∧ Heap w0 [oA (rList (rInt .i64)) v36 xs37] w ∧ K39 xs37 = some r) ?_ ?_
 ·rintro a w ⟨xs37, v36, S, H, hm⟩
  subst hK40
  refine wp_seq (wp_seq (region_plain ?_))
  refine lq (sv x33.1) S (q_move rfl) fun a S => ?_
  refine lq v36 S (q_move rfl) fun a S => ?_
  obtain ⟨x43, e44, hm⟩ := bind_some hm
  refine lx_call (xs := [.tmp 29, .tmp 30]) S trivial (by decide) rfl rfl Tryz.call63 ((impl_labelOf_ok (hG.ext H.ext).toGlob  (H.rdAt 0 rfl) e44).mono ?_)
  rintro e w41 ⟨rfl, Hc42⟩
  have H := H.call0 Hc42
  refine ⟨_, rfl, trivial, fun a S => ?_⟩
  refine lq (.tuple #[(sv x43.1), (.bool x43.2)]) S (q_move rfl) fun a S => ?_
  refine lq (sv x43.1) S (q_extract rfl rfl) fun a S => ?_
  refine lq (.bool x43.2) S (q_extract rfl rfl) fun a S => ?_
  refine lq (sv x43.1) S (q_assign rfl) fun a S => ?_
  refine lq (.bool x43.2) S (q_assign rfl) fun a S => ?_
  refine lx_nil (thenN ?_)
  refine wp_seq (region_plain ?_)
  refine lq (.bool x43.2) S (q_move rfl) fun a S => ?_
  refine lq (.bool (!x43.2)) S (q_not rfl) fun a S => ?_
  refine lq (.bool (!x43.2)) S (q_move rfl) fun a S => ?_
  obtain ⟨t46, e47, hm⟩ := bind_some hm
  refine lx_cut 4 (fun a w => Slots a 43 [(5, (sv x33.1)), (8, v36), (40, (.bool t46))] ∧ Heap w0 [oA (rList (rInt .i64)) v36 xs37] w) ?_ ?_
  ·by_cases hc48 : (!x43.2) = true
   ·have hm := ite_t hc48 e47
    refine lx_skip S rfl rfl (isB_ne hc48) (by decide) (fun a S => ?_)
    refine lx_skip S rfl rfl (isB_ne hc48) (by decide) (fun a S => ?_)
    refine lx_skip S rfl rfl (isB_ne hc48) (by decide) (fun a S => ?_)
    refine lq (.bool true) S (q_pickT' rfl hc48 rfl) fun a S => ?_
    refine lx_nil ?_
    obtain rfl := Option.some.inj hm
    exact ⟨S.sub ⟨rfl, rfl, rfl, trivial⟩, H⟩
   ·have hm := ite_f (eq_false_of_ne_true hc48) e47
    have hc48 : (!x43.2) = false := eq_false_of_ne_true hc48
    refine lx_q (sv x43.1) S (want_b rfl rfl hc48) (by decide) (q_move rfl) (fun a S => ?_)
    refine lx_q (sv a0) S (want_b rfl rfl hc48) (by decide) (q_move rfl) (fun a S => ?_)
    refine lx_q (.bool (x43.1 != a0)) S (want_b rfl rfl hc48) (by decide) (q_sneq rfl rfl) (fun a S => ?_)
    refine lq (.bool (x43.1 != a0)) S (q_pickF' rfl hc48 rfl) fun a S => ?_
    refine lx_nil ?_
    obtain rfl := Option.some.inj hm
    exact ⟨S.sub ⟨rfl, rfl, rfl, trivial⟩, H⟩
  ·rintro a w ⟨S, H⟩
   refine lx_nil (thenN ?_)
   refine cond_b S rfl (fun hc49 => ?_) (fun hc49 => ?_)
   ·have hm := ite_t hc49 hm
    refine wp_seq (region_plain ?_)
    refine lq (sv ([] : Str)) S (q_assign rfl) fun a S => ?_
    refine lq (.slice none 0 0) S (q_assign rfl) fun a S => ?_
    refine lq (.bool false) S (q_assign rfl) fun a S => ?_
    refine lx_nil (thenN ?_)
    refine wp_ret (then_ret ?_)
    obtain rfl := Option.some.inj hm
    have H : Heap w0 [oA (rList (rInt .i64)) (.slice none 0 0) ([] : List Int), oA (rList (rInt .i64)) v36 xs37] w := H.nilList (rInt .i64)
    have H : Heap w0 [oA (rList (rInt .i64)) (.slice none 0 0) ([] : List Int)] w := H.sel [0] (by decide)
    exact leave3 S rfl rfl rfl rfl ⟨(.slice none 0 0), rfl, H⟩
   ·have hm := ite_f hc49 hm
    refine wp_skip (thenN ?_)
    refine wp_seq (region_plain ?_)
    refine lq (sv x33.1) S (q_move rfl) fun a S => ?_
    refine lq v36 S (q_move rfl) fun a S => ?_
    refine lq (sv x33.1) S (q_assign rfl) fun a S => ?_
    refine lq v36 S (q_assign rfl) fun a S => ?_
    refine lq (.bool true) S (q_assign rfl) fun a S => ?_
    refine lx_nil (thenN ?_)
    refine wp_ret ?_
    obtain rfl := Option.some.inj hm
    exact leave3 S rfl rfl rfl rfl ⟨v36, rfl, H⟩
 ·skip
  refine wp_seq (region_plain ?_)
  refine lq (.bool x33.2.2) S (q_move rfl) fun a S => ?_
  refine lx_nil (thenN ?_)
  refine cond_b S rfl (fun hc51 => ?_) (fun hc51 => ?_)
  ·have hm := ite_t hc51 hm
   refine wp_seq (region_plain ?_)
   refine lq (.bool false) S (q_assign rfl) fun a S => ?_
   refine lx_nil (thenN ?_)
   refine wp_seq (region_plain ?_)
   refine lq (sv x33.2.1) S (q_move rfl) fun a S => ?_
   obtain ⟨x54, e55, hm⟩ := bind_some hm
   refine lx_call (xs := [.tmp 20, .const (sv [41])]) S trivial (by decide) rfl rfl Tryz.call62 ((strings_TrimSuffix_ok   e55).mono ?_)
   rintro e w52 ⟨rfl, Hc53⟩
   have H := H.call0 Hc53
   refine ⟨_, rfl, trivial, fun a S => ?_⟩
   obtain ⟨x59, e60, hm⟩ := bind_some hm
   refine lx_call (xs := [.tmp 21, .const (sv [44])]) S trivial (by decide) rfl rfl Tryz.call10 ((strings_Split_ok (hG.ext H.ext).toGlob   e60).mono ?_)
   rintro e w57 ⟨v61, rfl, Hc58⟩
   have H := H.call1 Hc58
   refine ⟨_, rfl, trivial, fun a S => ?_⟩
   obtain ⟨x66, e67, hm⟩ := bind_some hm
   refine lx_call (xs := [.tmp 22]) S trivial (by decide) rfl rfl Tryz.call11 ((impl_readNumbers_ok (hG.ext H.ext) (H.rdAt 0 rfl) e67).mono ?_)
   rintro e w64 ⟨v68, rfl, Hc65⟩
   have H := H.call1 Hc65
   refine ⟨_, rfl, trivial, fun a S => ?_⟩
   refine lq (.tuple #[v68, (.bool x66.2)]) S (q_move rfl) fun a S => ?_
   refine lq v68 S (q_extract rfl rfl) fun a S => ?_
   refine lq (.bool x66.2) S (q_extract rfl rfl) fun a S => ?_
   refine lq v68 S (q_assign rfl) fun a S => ?_
   refine lq (.bool x66.2) S (q_assign rfl) fun a S => ?_
   refine lx_nil (thenN ?_)
   refine wp_seq (region_plain ?_)
   refine lq (.bool x66.2) S (q_move rfl) fun a S => ?_
   refine lq (.bool (!x66.2)) S (q_not rfl) fun a S => ?_
   refine lx_nil (thenN ?_)
   refine cond_b S rfl (fun hc71 => ?_) (fun hc71 => ?_)
   ·have hm := ite_t hc71 hm
    refine wp_seq (region_plain ?_)
    refine lq (sv ([] : Str)) S (q_assign rfl) fun a S => ?_
    refine lq (.slice none 0 0) S (q_assign rfl) fun a S => ?_
    refine lq (.bool false) S (q_assign rfl) fun a S => ?_
    refine lx_nil (thenN ?_)
    refine wp_ret (then_ret ?_)
    obtain rfl := Option.some.inj hm
    have H : Heap w0 [oA (rList (rInt .i64)) (.slice none 0 0) ([] : List Int), oA (rList (rInt .i64)) v68 x66.1, oA (rList rStr) v61 x59] w64 := H.nilList (rInt .i64)
    have H : Heap w0 [oA (rList (rInt .i64)) (.slice none 0 0) ([] : List Int)] w64 := H.sel [0] (by decide)
    exact leave3 S rfl rfl rfl rfl ⟨(.slice none 0 0), rfl, H⟩
   ·have hm := ite_f hc71 hm
    refine wp_skip ?_
    have H : Heap w0 [oA (rList (rInt .i64)) v68 x66.1] w64 := H.sel [0] (by decide)
    exact ⟨x66.1, v68, S.sub ⟨rfl, rfl, rfl, trivial⟩, H, hm⟩
  ·have hm := ite_f hc51 hm
   refine wp_skip ?_
   have H : Heap w0 [oA (rList (rInt .i64)) (.slice none 0 0) ([] : List Int)] w31 := H.nilList (rInt .i64)
   exact ⟨[], (.slice none 0 0), S.sub ⟨rfl, rfl, rfl, trivial⟩, H, hm⟩

/-- impl.IsLabel -/
def impl_IsLabel_m (fuel : Nat) (a0 : Str) : Option (Bool) :=
  (impl_readLabel_m fuel a0).bind fun x33 => some (x33.2.2)
set_option maxRecDepth 20000 in
theorem impl_IsLabel_ok {w0 : World} {fuel : Nat} {a0 : Str} {r : Bool} (hG : GlobE Tryz.prog w0) (hm : impl_IsLabel_m fuel a0 = some r) :
  Calls Tryz.prog 31 #[sv a0] w0 fun e w => e = .returned (.bool r) ∧ Heap w0 [] w := by
 unfold impl_IsLabel_m at hm
 have H := Heap.start w0
 refine enter (args := [sv a0]) Tryz.func31 rfl 13 rfl (Nat.le_of_ble_eq_true rfl) (fun a S => ?_)
 refine wp_seq (region_plain ?_)
 refine lq (.bool false) S (q_assign rfl) fun a S => ?_
 refine lx_nil (thenN ?_)
 refine wp_seq (region_plain ?_)
 refine lq (sv a0) S (q_move rfl) fun a S => ?_
 obtain ⟨x33, e34, hm⟩ := bind_some hm
 refine lx_call (xs := [.tmp 7]) S trivial (by decide) rfl rfl Tryz.call48 ((impl_readLabel_ok (hG.ext H.ext)  e34).mono ?_)
 rintro e w31 ⟨v35, rfl, Hc32⟩
 have H := H.call1 Hc32
 refine ⟨_, rfl, trivial, fun a S => ?_⟩
 refine lq (.tuple #[(sv x33.1), v35, (.bool x33.2.2)]) S (q_move rfl) fun a S => ?_
 refine lq (sv x33.1) S (q_extract rfl rfl) fun a S => ?_
 refine lq v35 S (q_extract rfl rfl) fun a S => ?_
 refine lq (.bool x33.2.2) S (q_extract rfl rfl) fun a S => ?_
 refine lq (sv x33.1) S (q_assign rfl) fun a S => ?_
 refine lq v35 S (q_assign rfl) fun a S => ?_
 refine lq (.bool x33.2.2) S (q_assign rfl) fun a S => ?_
 refine lx_nil (thenN ?_)
 refine wp_seq (region_plain ?_)
 refine lq (.bool x33.2.2) S (q_move rfl) fun a S => ?_
 refine lq (.bool x33.2.2) S (q_assign rfl) fun a S => ?_
 refine lx_nil (thenN ?_)
 refine wp_ret ?_
 obtain rfl := Option.some.inj hm
 have H : Heap w0 [] w31 := H.sel [] (by decide)
 exact leave1 S rfl rfl ⟨rfl, H⟩

/-- impl.index -/
def impl_index_m (fuel : Nat) (a0 : Int) (a1 : Int) : Option (Bool) :=
  (impl_within_m fuel a0 (0 : Int) (W (a1 - (1 : Int)))).bind fun x33 => some (x33)
set_option maxRecDepth 20000 in
theorem impl_index_ok [dr : Dr] {w0 : World} {fuel : Nat} {a0 : Int} {a1 : Int} {r : Bool} (hm : impl_index_m fuel a0 a1 = some r) :
  Calls Tryz.prog 32 #[.int .i64 a0, .int .i64 a1] w0 fun e w => e = .returned (.bool r) ∧ Heap w0 [] w := by
 unfold impl_index_m at hm
 have H := Heap.start w0
 refine enter (args := [.int .i64 a0, .int .i64 a1]) Tryz.func32 rfl 9 rfl (Nat.le_of_ble_eq_true rfl) (fun a S => ?_)
 refine wp_seq (region_plain ?_)
 refine lq (.bool false) S (q_assign rfl) fun a S => ?_
 refine lx_nil (thenN ?_)
 refine wp_seq (region_plain ?_)
 refine lq (.int .i64 a0) S (q_move rfl) fun a S => ?_
 refine lq (.int .i64 a1) S (q_move rfl) fun a S => ?_
 refine lq (.int .i64 (W (a1 - (1 : Int)))) S (q_sub rfl rfl) fun a S => ?_
 obtain ⟨x33, e34, hm⟩ := bind_some hm
 refine lx_call (xs := [.tmp 5, .const (.int .i64 (0)), .tmp 7]) S trivial (by decide) rfl rfl Tryz.call29 ((impl_within_ok    e34).mono ?_)
 rintro e w31 ⟨rfl, Hc32⟩
 have H := H.call0 Hc32
 refine ⟨_, rfl, trivial, fun a S => ?_⟩
 refine lq (.bool x33) S (q_assign rfl) fun a S => ?_
 refine lx_nil (thenN ?_)
 refine wp_ret ?_
 obtain rfl := Option.some.inj hm
 exact leave1 S rfl rfl ⟨rfl, H⟩

/-- cmp.isNaN[int64] -/
def cmp_isNaN_int64_m (_ : Nat) (a0 : Int) : Option (Bool) :=
  some ((a0 != a0))
set_option maxRecDepth 20000 in
theorem cmp_isNaN_int64_ok [dr : Dr] {w0 : World} {fuel : Nat} {a0 : Int} {r : Bool} (hm : cmp_isNaN_int64_m fuel a0 = some r) :
  Calls Tryz.prog 64 #[.int .i64 a0] w0 fun e w => e = .returned (.bool r) ∧ Heap w0 [] w := by
 unfold cmp_isNaN_int64_m at hm
 have H := Heap.start w0
 refine enter (args := [.int .i64 a0]) Tryz.func64 rfl 6 rfl (Nat.le_of_ble_eq_true rfl) (fun a S => ?_)
 refine wp_seq (region_plain ?_)
 refine lq (.bool false) S (q_assign rfl) fun a S => ?_
 refine lx_nil (thenN ?_)
 refine wp_seq (region_plain ?_)
 refine lq (.int .i64 a0) S (q_move rfl) fun a S => ?_
 refine lq (.int .i64 a0) S (q_move rfl) fun a S => ?_
 refine lq (.bool (a0 != a0)) S (q_neq rfl rfl) fun a S => ?_
 refine lq (.bool (a0 != a0)) S (q_assign rfl) fun a S => ?_
 refine lx_nil (thenN ?_)
 refine wp_ret ?_
 obtain rfl := Option.some.inj hm
 exact leave1 S rfl rfl ⟨rfl, H⟩

/-- cmp.Compare[int64] -/
def cmp_Compare_int64_m (fuel : Nat) (a0 : Int) (a1 : Int) : Option (Int) :=
  (cmp_isNaN_int64_m fuel a0).bind fun x33 => (cmp_isNaN_int64_m fuel a1).bind fun x38 => (if x33 = true then (if x38 = true then some ((0 : Int)) else some ((-1 : Int))) else (if x38 = true then some ((1 : Int)) else (if (decide (a0 < a1)) = true then some ((-1 : Int)) else (if (decide (a1 < a0)) = true then some ((1 : Int)) else some ((0 : Int))))))
set_option maxRecDepth 20000 in
theorem cmp_Compare_int64_ok [dr : Dr] {w0 : World} {fuel : Nat} {a0 : Int} {a1 : Int} {r : Int} (hm : cmp_Compare_int64_m fuel a0 a1 = some r) :
  Calls Tryz.prog 50 #[.int .i64 a0, .int .i64 a1] w0 fun e w => e = .returned (.int .i64 r) ∧ Heap w0 [] w := by
 unfold cmp_Compare_int64_m at hm
 have H := Heap.start w0
 refine enter (args := [.int .i64 a0, .int .i64 a1]) Tryz.func50 rfl 20 rfl (Nat.le_of_ble_eq_true rfl) (fun a S => ?_)
 refine wp_seq (region_plain ?_)
 refine lq (.int .i64 (0 : Int)) S (q_assign rfl) fun a S => ?_
 refine lx_nil (thenN ?_)
 refine wp_seq (region_plain ?_)
 refine lq (.int .i64 a0) S (q_move rfl) fun a S => ?_
 obtain ⟨x33, e34, hm⟩ := bind_some hm
 refine lx_call (xs := [.tmp 7]) S trivial (by decide) rfl rfl Tryz.call64 ((cmp_isNaN_int64_ok  e34).mono ?_)
 rintro e w31 ⟨rfl, Hc32⟩
 have H := H.call0 Hc32
 refine ⟨_, rfl, trivial, fun a S => ?_⟩
 refine lq (.bool x33) S (q_assign rfl) fun a S => ?_
 refine lx_nil (thenN ?_)
 refine wp_seq (region_plain ?_)
 refine lq (.int .i64 a1) S (q_move rfl) fun a S => ?_
 obtain ⟨x38, e39, hm⟩ := bind_some hm
 refine lx_call (xs := [.tmp 9]) S trivial (by decide) rfl rfl Tryz.call64 ((cmp_isNaN_int64_ok  e39).mono ?_)
 rintro e w36 ⟨rfl, Hc37⟩
 have H := H.call0 Hc37
 refine ⟨_, rfl, trivial, fun a S => ?_⟩
 refine lq (.bool x38) S (q_assign rfl) fun a S => ?_
 refine lx_nil (thenN ?_)
 refine wp_seq (wp_seq (region_plain ?_))
 refine lq (.bool x33) S (q_move rfl) fun a S => ?_
 refine lx_nil (thenN ?_)
 refine cond_b S rfl (fun hc41 => ?_) (fun hc41 => ?_)
 ·have hm := ite_t hc41 hm
  refine wp_seq (wp_seq (region_plain ?_))
  refine lq (.bool x38) S (q_move rfl) fun a S => ?_
  refine lx_nil (thenN ?_)
  refine cond_b S rfl (fun hc42 => ?_) (fun hc42 => ?_)
  ·have hm := ite_t hc42 hm
   refine wp_seq (region_plain ?_)
   refine lq (.int .i64 (0 : Int)) S (q_assign rfl) fun a S => ?_
   refine lx_nil (thenN ?_)
   refine wp_ret (then_ret ?_)
   refine then_ret ?_
   obtain rfl := Option.some.inj hm
   exact leave1 S rfl rfl ⟨rfl, H⟩
  ·have hm := ite_f hc42 hm
   refine wp_skip (thenN ?_)
   refine wp_seq (region_plain ?_)
   refine lq (.int .i64 (-1 : Int)) S (q_assign rfl) fun a S => ?_
   refine lx_nil (thenN ?_)
   refine wp_ret (then_ret ?_)
   obtain rfl := Option.some.inj hm
   exact leave1 S rfl rfl ⟨rfl, H⟩
 ·have hm := ite_f hc41 hm
  refine wp_skip (thenN ?_)
  refine wp_seq (wp_seq (region_plain ?_))
  refine lq (.bool x38) S (q_move rfl) fun a S => ?_
  refine lx_nil (thenN ?_)
  refine cond_b S rfl (fun hc43 => ?_) (fun hc43 => ?_)
  ·have hm := ite_t hc43 hm
   refine wp_seq (region_plain ?_)
   refine lq (.int .i64 (1 : Int)) S (q_assign rfl) fun a S => ?_
   refine lx_nil (thenN ?_)
   refine wp_ret (then_ret ?_)
   obtain rfl := Option.some.inj hm
   exact leave1 S rfl rfl ⟨rfl, H⟩
  ·have hm := ite_f hc43 hm
   refine wp_skip (thenN ?_)
   refine wp_seq (wp_seq (region_plain ?_))
   refine lq (.int .i64 a0) S (q_move rfl) fun a S => ?_
   refine lq (.int .i64 a1) S (q_move rfl) fun a S => ?_
   refine lq (.bool (decide (a0 < a1))) S (q_lss rfl rfl) fun a S => ?_
   refine lx_nil (thenN ?_)
   refine cond_b S rfl (fun hc44 => ?_) (fun hc44 => ?_)
   ·have hm := ite_t hc44 hm
    refine wp_seq (region_plain ?_)
    refine lq (.int .i64 (-1 : Int)) S (q_assign rfl) fun a S => ?_
    refine lx_nil (thenN ?_)
    refine wp_ret (then_ret ?_)
    obtain rfl := Option.some.inj hm
    exact leave1 S rfl rfl ⟨rfl, H⟩
   ·have hm := ite_f hc44 hm
    refine wp_skip (thenN ?_)
    refine wp_seq (wp_seq (region_plain ?_))
    refine lq (.int .i64 a0) S (q_move rfl) fun a S => ?_
    refine lq (.int .i64 a1) S (q_move rfl) fun a S => ?_
    refine lq (.bool (decide (a1 < a0))) S (q_gtr rfl rfl) fun a S => ?_
    refine lx_nil (thenN ?_)
    refine cond_b S rfl (fun hc45 => ?_) (fun hc45 => ?_)
    ·have hm := ite_t hc45 hm
     refine wp_seq (region_plain ?_)
     refine lq (.int .i64 (1 : Int)) S (q_assign rfl) fun a S => ?_
     refine lx_nil (thenN ?_)
     refine wp_ret (then_ret ?_)
     obtain rfl := Option.some.inj hm
     exact leave1 S rfl rfl ⟨rfl, H⟩
    ·have hm := ite_f hc45 hm
     refine wp_skip (thenN ?_)
     refine wp_seq (region_plain ?_)
     refine lq (.int .i64 (0 : Int)) S (q_assign rfl) fun a S => ?_
     refine lx_nil (thenN ?_)
     refine wp_ret ?_
     obtain rfl := Option.some.inj hm
     exact leave1 S rfl rfl ⟨rfl, H⟩

/-- cmp.Or[int] -/
def cmp_Or_int_m (fuel : Nat) (a0 : (List Int)) : Option (Int) :=
  (iter (fun (s : (Int)) => (match s with | (x39) => (if (decide (x39 < (a0.length : Int))) = true then (idx a0 x39).bind fun x57 => (if (x57 != (0 : Int)) = true then some (.inr (.inr x57)) else some (.inl ((W (x39 + (1 : Int)))))) else some (.inr (.inl ()))) : Option (((Int)) ⊕ ((Unit) ⊕ (Int))))) fuel ((0 : Int))).bind fun res48 => ctl (β := Unit) (ρ := Int) (τ := Int) res48 (fun _ => some ((0 : Int))) (fun q => some (q))
set_option maxRecDepth 20000 in
theorem cmp_Or_int_ok [dr : Dr] {w0 : World} {fuel : Nat} {p0 : Value} {a0 : (List Int)} {r : Int} (h0 : Rd (rList (rInt .i64)) w0 p0 a0) (hm : cmp_Or_int_m fuel a0 = some r) :
  Calls Tryz.prog 49 #[p0] w0 fun e w => e = .returned (.int .i64 r) ∧ Heap w0 [] w := by
 unfold cmp_Or_int_m at hm
 have H := Heap.start w0
 refine enter (args := [p0]) Tryz.func49 rfl 18 rfl (Nat.le_of_ble_eq_true rfl) (fun a S => ?_)
 refine wp_seq (region_plain ?_)
 refine lq (.int .i64 (0 : Int)) S (q_assign rfl) fun a S => ?_
 refine lx_nil (thenN ?_)
 refine wp_seq (region_plain ?_)
 refine lq (.int .i64 (0 : Int)) S (q_assign rfl) fun a S => ?_
 refine lx_nil (thenN ?_)
 refine wp_seq (wp_seq (region_plain ?_))
 refine lq p0 S (q_move rfl) fun a S => ?_
 refine lq (.int .i64 (a0.length : Int)) S (q_lenSl rfl (h0).isSl rfl Tryz.underlying93) fun a S => ?_
 refine lq (.int .i64 (0 : Int)) S (q_move rfl) fun a S => ?_
 refine lx_nil (thenN ?_)
 obtain ⟨res48, hit49, hk52⟩ := bind_some hm
 obtain ⟨f50, hf51, hit49⟩ := iter_name hit49
 refine block_loop (fun a w => Slots a 18 [(3, (.int .i64 (0 : Int)))] ∧ Heap w0 [] w ∧ res48 = .inl ()) ?_ ?_
 ·rintro a w ⟨S, H, rfl⟩
  have hm := ctl_inl hk52
  refine thenN ?_
  refine wp_seq (region_plain ?_)
  refine lq (.int .i64 (0 : Int)) S (q_move rfl) fun a S => ?_
  refine lq (.int .i64 (0 : Int)) S (q_assign rfl) fun a S => ?_
  refine lx_nil (thenN ?_)
  refine wp_ret ?_
  obtain rfl := Option.some.inj hm
  exact leave1 S rfl rfl ⟨rfl, H⟩
 ·skip
  refine loop_ghost (fun n a w => ∃ (x39 : Int), Slots a 18 [(3, (.int .i64 (0 : Int))), (6, p0), (7, (.int .i64 (a0.length : Int))), (8, (.int .i64 x39))] ∧ Heap w0 [] w ∧ iter f50 n (x39) = some res48) _ ⟨(0 : Int), S.sub ⟨rfl, rfl, rfl, rfl, trivial⟩, H, hit49⟩ ?_
  rintro n a w ⟨x39, S, H, hit49⟩
  obtain ⟨m53, o54, rfl, hm, hc55⟩ := iter_step hit49
  rw [hf51] at hm
  refine wp_seq (region_plain ?_)
  refine lq (.bool (decide (x39 < (a0.length : Int)))) S (q_lss rfl rfl) fun a S => ?_
  refine lx_nil (thenN ?_)
  refine wp_seq ?_
  refine cond_b S rfl (fun hc56 => ?_) (fun hc56 => ?_)
  ·have hm := ite_t hc56 hm
   refine wp_skip (thenN ?_)
   refine wp_seq ?_
   refine wp_block ?_
   refine wp_seq (region_plain ?_)
   obtain ⟨x57, e58, hm⟩ := bind_some hm
   obtain ⟨c59, h60, hat61⟩ := (h0).elem (idx_some e58).2
   obtain rfl := h60
   have hlt := lt_of_idx (idx_some e58).2
   refine lq (ePtr p0 (x39.toNat * 1)) S (q_indexAddr rfl (h0).isSl rfl (idx_some e58).1 hlt Tryz.underlying93 Tryz.sizeOf3) fun a S => ?_
   refine lx_e (.int .i64 x57) S trivial (by decide) rfl trivial (q_load1 rfl Tryz.isAgg3 (by rintro _ rfl; exact ((hat61 0 _ rfl).ext H.ext))) (fun a S => ?_)
   refine lq (.int .i64 x57) S (q_assign rfl) fun a S => ?_
   refine lx_nil (thenN ?_)
   refine wp_seq (region_plain ?_)
   refine lq (.int .i64 x57) S (q_move rfl) fun a S => ?_
   refine lq (.int .i64 (0 : Int)) S (q_move rfl) fun a S => ?_
   refine lq (.bool (x57 != (0 : Int))) S (q_neq rfl rfl) fun a S => ?_
   refine lx_nil (thenN ?_)
   refine cond_b S rfl (fun hc62 => ?_) (fun hc62 => ?_)
   ·have hm := ite_t hc62 hm
    refine wp_seq (region_plain ?_)
    refine lq (.int .i64 x57) S (q_move rfl) fun a S => ?_
    refine lq (.int .i64 x57) S (q_assign rfl) fun a S => ?_
    refine lx_nil (thenN ?_)
    refine wp_ret (inBlock_ret ?_)
    refine then_ret ?_
    refine then_ret ?_
    refine inBlock_ret ?_
    refine then_ret ?_
    refine then_ret ?_
    obtain rfl := it_brk hm hc55
    have hm := ctl_inr hk52
    obtain rfl := Option.some.inj hm
    exact leave1 S rfl rfl ⟨rfl, H⟩
   ·have hm := ite_f hc62 hm
    refine wp_skip ?_
    refine inBlock_norm ?_
    refine thenN ?_
    refine region_plain ?_
    refine lq (.int .i64 (W (x39 + (1 : Int)))) S (q_add rfl rfl) fun a S => ?_
    refine lq (.int .i64 (W (x39 + (1 : Int)))) S (q_move rfl) fun a S => ?_
    refine lx_nil ?_
    exact ⟨m53, Nat.lt_succ_self _, (W (x39 + (1 : Int))), S.sub ⟨rfl, rfl, rfl, rfl, trivial⟩, H, it_cont hm hc55⟩
  ·have hm := ite_f hc56 hm
   refine wp_exit ?_
   refine then_exit ?_
   refine then_exit ?_
   refine inBlock_exit ?_
   obtain rfl := it_brk hm hc55
   exact ⟨S.sub ⟨rfl, trivial⟩, H, rfl⟩

/-- impl.compareEdges -/
def impl_compareEdges_m (fuel : Nat) (a0 : Timpl_Edge) (a1 : Timpl_Edge) : Option (Int) :=
  (cmp_Compare_int64_m fuel a0.1 a1.1).bind fun x61 => (cmp_Compare_int64_m fuel a0.2.1 a1.2.1).bind fun x66 => (cmp_Compare_int64_m fuel a0.2.2 a1.2.2).bind fun x71 => (cmp_Or_int_m fuel [x61, x66, x71]).bind fun x79 => some (x79)
set_option maxRecDepth 20000 in
theorem impl_compareEdges_ok [dr : Dr] {w0 : World} {fuel : Nat} {p0 p1 : Value} {a0 : Timpl_Edge} {a1 : Timpl_Edge} {r : Int} (h0 : Rd Rimpl_Edge w0 p0 a0) (h1 : Rd Rimpl_Edge w0 p1 a1) (hm : impl_compareEdges_m fuel a0 a1 = some r) :
  Calls Tryz.prog 33 #[p0, p1] w0 fun e w => e = .returned (.int .i64 r) ∧ Heap w0 [] w := by
 unfold impl_compareEdges_m at hm
 have H := Heap.start w0
 obtain ⟨c31, rfl, h32⟩ := h0
 obtain ⟨c33, c34, rfl, h35, h36⟩ := h32
 obtain rfl := h35
 obtain ⟨c37, c38, rfl, h39, h40⟩ := h36
 obtain rfl := h39
 obtain rfl := h40
 obtain ⟨c41, rfl, h42⟩ := h1
 obtain ⟨c43, c44, rfl, h45, h46⟩ := h42
 obtain rfl := h45
 obtain ⟨c47, c48, rfl, h49, h50⟩ := h46
 obtain rfl := h49
 obtain rfl := h50
 refine enter (args := [(.agg #[(.int .i64 a0.1), (.int .i64 a0.2.1), (.int .i64 a0.2.2)]), (.agg #[(.int .i64 a1.1), (.int .i64 a1.2.1), (.int .i64 a1.2.2)])]) Tryz.func33 rfl 22 rfl (Nat.le_of_ble_eq_true rfl) (fun a S => ?_)
 refine wp_seq (region_plain ?_)
 refine lx_box S trivial (by decide) rfl H rfl rfl (fun b51 w52 H => ⟨trivial, fun a S => ?_⟩)
 refine lx_box S trivial (by decide) rfl H rfl rfl (fun b54 w55 H => ⟨trivial, fun a S => ?_⟩)
 refine lq (.int .i64 (0 : Int)) S (q_assign rfl) fun a S => ?_
 refine lx_nil (thenN ?_)
 refine wp_seq ?_
 refine region_drawG (fun w1 => Heap w0 [bA b54 [(.int .i64 a1.1), (.int .i64 a1.2.1), (.int .i64 a1.2.2)] 48, bA b51 [(.int .i64 a0.1), (.int .i64 a0.2.1), (.int .i64 a0.2.2)] 48] w1) (fun i => [4, 9, 14, 15, 16].contains i) mixed (by kernel_rfl) (fun w58 he57 => ?_)
 have H := H.later he57
 refine ⟨H.sel [0, 1] (by decide), ?_⟩
 refine lq (pAdd (bp b51) 0) S (q_fieldAddr' 0 2 rfl (isP_bp _) Tryz.underlying48 rfl Tryz.sizeOf2) fun a S => ?_
 refine lq (.int .i64 a0.1) S (q_load1 rfl Tryz.isAgg2 (fun w1 hC => (At.of_add (m := 0) (j := 0) (boxAt (i := 1) hC rfl (j := 0) rfl)))) fun a S => ?_
 refine lq (pAdd (bp b54) 0) S (q_fieldAddr' 0 2 rfl (isP_bp _) Tryz.underlying48 rfl Tryz.sizeOf2) fun a S => ?_
 refine lq (.int .i64 a1.1) S (q_load1 rfl Tryz.isAgg2 (fun w1 hC => (At.of_add (m := 0) (j := 0) (boxAt (i := 0) hC rfl (j := 0) rfl)))) fun a S => ?_
 obtain ⟨x61, e62, hm⟩ := bind_some hm
 refine lx_call (xs := [.tmp 6, .tmp 8]) S trivial (by decide) rfl rfl Tryz.call50 ((cmp_Compare_int64_ok   e62).mono ?_)
 rintro e w59 ⟨rfl, Hc60⟩
 have H := H.call0 Hc60
 refine ⟨_, rfl, H.sel [0, 1] (by decide), fun a S => ?_⟩
 refine lq (pAdd (bp b51) 1) S (q_fieldAddr' 1 2 rfl (isP_bp _) Tryz.underlying48 rfl Tryz.sizeOf2) fun a S => ?_
 refine lq (.int .i64 a0.2.1) S (q_load1 rfl Tryz.isAgg2 (fun w1 hC => (At.of_add (m := 1) (j := 0) (boxAt (i := 1) hC rfl (j := 1) rfl)))) fun a S => ?_
 refine lq (pAdd (bp b54) 1) S (q_fieldAddr' 1 2 rfl (isP_bp _) Tryz.underlying48 rfl Tryz.sizeOf2) fun a S => ?_
 refine lq (.int .i64 a1.2.1) S (q_load1 rfl Tryz.isAgg2 (fun w1 hC => (At.of_add (m := 1) (j := 0) (boxAt (i := 0) hC rfl (j := 1) rfl)))) fun a S => ?_
 obtain ⟨x66, e67, hm⟩ := bind_some hm
 refine lx_call (xs := [.tmp 11, .tmp 13]) S trivial (by decide) rfl rfl Tryz.call50 ((cmp_Compare_int64_ok   e67).mono ?_)
 rintro e w64 ⟨rfl, Hc65⟩
 have H := H.call0 Hc65
 refine ⟨_, rfl, H.sel [0, 1] (by decide), fun a S => ?_⟩
 refine lq (pAdd (bp b51) 2) S (q_fieldAddr' 2 2 rfl (isP_bp _) Tryz.underlying48 rfl Tryz.sizeOf2) fun a S => ?_
 refine lq (.int .i64 a0.2.2) S (q_load1 rfl Tryz.isAgg2 (fun w1 hC => (At.of_add (m := 2) (j := 0) (boxAt (i := 1) hC rfl (j := 2) rfl)))) fun a S => ?_
 refine lq (pAdd (bp b54) 2) S (q_fieldAddr' 2 2 rfl (isP_bp _) Tryz.underlying48 rfl Tryz.sizeOf2) fun a S => ?_
 refine lq (.int .i64 a1.2.2) S (q_load1 rfl Tryz.isAgg2 (fun w1 hC => (At.of_add (m := 2) (j := 0) (boxAt (i := 0) hC rfl (j := 2) rfl)))) fun a S => ?_
 obtain ⟨x71, e72, hm⟩ := bind_some hm
 refine lx_call (xs := [.tmp 16, .tmp 18]) S trivial (by decide) rfl rfl Tryz.call50 ((cmp_Compare_int64_ok   e72).mono ?_)
 rintro e w69 ⟨rfl, Hc70⟩
 have H := H.call0 Hc70
 refine ⟨_, rfl, H.sel [0, 1] (by decide), fun a S => ?_⟩
 refine lx_buildSlice (r := (rInt .i64)) (xs := [x61, x66, x71]) (ps := [(0, [(.int .i64 x61)]), (1, [(.int .i64 x66)]), (2, [(.int .i64 x71)])]) (cs := [(.int .i64 x61), (.int .i64 x66), (.int .i64 x71)]) (parts := [(0, .tmp 9), (1, .tmp 14), (2, .tmp 19)]) S trivial (by decide) rfl (H.put0 (A := eA) rfl) rfl Tryz.underlying93 Tryz.sizeOf3 Tryz.zeroValue3 (by decide) ⟨rfl, rfl, Nat.le_of_ble_eq_true rfl, ⟨rfl, rfl, Nat.le_of_ble_eq_true rfl, ⟨rfl, rfl, Nat.le_of_ble_eq_true rfl, trivial⟩⟩⟩ (by intro zs hz; exact fill_dense hz ⟨rfl, ⟨rfl, ⟨rfl, trivial⟩⟩⟩ rfl rfl) rfl (by decide) (fun w F hA => by cases (show F = [] from hA); exact ⟨_, _, [(.int .i64 x61)], _, rfl, rfl, ⟨rfl, rfl⟩, ⟨_, _, [(.int .i64 x66)], _, rfl, rfl, ⟨rfl, rfl⟩, ⟨_, _, [(.int .i64 x71)], _, rfl, rfl, ⟨rfl, rfl⟩, ⟨rfl, rfl⟩⟩⟩⟩) (fun v74 w75 H => ⟨H.sel [1, 2] (by decide), fun a S => ?_⟩)
 obtain ⟨x79, e80, hm⟩ := bind_some hm
 refine lx_call (xs := [.tmp 20]) S trivial (by decide) rfl rfl Tryz.call49 ((cmp_Or_int_ok (H.rdAt 0 rfl) e80).mono ?_)
 rintro e w77 ⟨rfl, Hc78⟩
 have H := H.call0 Hc78
 refine ⟨_, rfl, H.sel [1, 2] (by decide), fun a S => ?_⟩
 refine lq (.int .i64 x79) S (q_assign rfl) fun a S => ?_
 refine lx_nil (thenN ?_)
 refine wp_ret ?_
 obtain rfl := Option.some.inj hm
 have H : Heap w0 [] w77 := H.sel [] (by decide)
 exact leave1 S rfl rfl ⟨rfl, H⟩
end Go.Proofs.YtlmopoaeekhmeaaGreatDoor
