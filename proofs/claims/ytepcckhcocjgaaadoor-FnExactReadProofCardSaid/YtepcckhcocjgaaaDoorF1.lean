/- The models of some functions and their walks (printed by a program of this repo). -/
import Derived.Test.YtepcckhcocjgaaaDoorF0
import Derived.Test.YtepcckhcocjgaaaDoorFS
import Derived.Test.YtepcckhcocjgaaaDoorGxT
import Derived.Test.YtepcckhcocjgaaaDoorGxY
namespace Go.Proofs.YtepcckhcocjgaaaDoor
open Go.RowKit Go.Gx

/-- spec.l00In -/
def spec_l00In_m (_ : Nat) (a0 : Int) (a1 : Int) (a2 : Int) : Option (Bool) :=
  (if (decide (a1 ≤ a0)) = true then some (decide (a0 ≤ a2)) else some false).bind fun t31 => some (t31)
set_option maxRecDepth 20000 in
theorem spec_l00In_ok {w0 : World} {fuel : Nat} {a0 : Int} {a1 : Int} {a2 : Int} {r : Bool} (hm : spec_l00In_m fuel a0 a1 a2 = some r) :
  Calls Tryd.prog 46 #[.int .i64 a0, .int .i64 a1, .int .i64 a2] w0 fun e w => e = .returned (.bool r) ∧ Heap w0 [] w := by
 unfold spec_l00In_m at hm
 have H := Heap.start w0
 refine enter (args := [.int .i64 a0, .int .i64 a1, .int .i64 a2]) Tryd.func46 rfl 15 rfl (Nat.le_of_ble_eq_true rfl) (fun a S => ?_)
 refine wp_seq (region_plain ?_)
 refine lq (.bool false) S (q_assign rfl) fun a S => ?_
 refine lx_nil (thenN ?_)
 refine wp_seq (region_plain ?_)
 refine lq (.int .i64 a0) S (q_move rfl) fun a S => ?_
 refine lq (.int .i64 a1) S (q_move rfl) fun a S => ?_
 refine lq (.bool (decide (a1 ≤ a0))) S (q_geq rfl rfl) fun a S => ?_
 refine lq (.bool (decide (a1 ≤ a0))) S (q_move rfl) fun a S => ?_
 obtain ⟨t31, e32, hm⟩ := bind_some hm
 refine lx_cut 4 (fun a w => Slots a 15 [(14, (.bool t31))] ∧ Heap w0 [] w) ?_ ?_
 ·by_cases hc33 : (decide (a1 ≤ a0)) = true
  ·have hm := ite_t hc33 e32
   refine lx_q (.int .i64 a0) S (want_b rfl rfl hc33) (by decide) (q_move rfl) (fun a S => ?_)
   refine lx_q (.int .i64 a2) S (want_b rfl rfl hc33) (by decide) (q_move rfl) (fun a S => ?_)
   refine lx_q (.bool (decide (a0 ≤ a2))) S (want_b rfl rfl hc33) (by decide) (q_leq rfl rfl) (fun a S => ?_)
   refine lq (.bool (decide (a0 ≤ a2))) S (q_pickT' rfl hc33 rfl) fun a S => ?_
   refine lx_nil ?_
   obtain rfl := Option.some.inj hm
   exact ⟨S.sub ⟨rfl, trivial⟩, H⟩
  ·have hm := ite_f (eq_false_of_ne_true hc33) e32
   have hc33 : (decide (a1 ≤ a0)) = false := eq_false_of_ne_true hc33
   refine lx_skip S rfl rfl (isB_ne hc33) (by decide) (fun a S => ?_)
   refine lx_skip S rfl rfl (isB_ne hc33) (by decide) (fun a S => ?_)
   refine lx_skip S rfl rfl (isB_ne hc33) (by decide) (fun a S => ?_)
   refine lq (.bool false) S (q_pickF' rfl hc33 rfl) fun a S => ?_
   refine lx_nil ?_
   obtain rfl := Option.some.inj hm
   exact ⟨S.sub ⟨rfl, trivial⟩, H⟩
 ·rintro a w ⟨S, H⟩
  refine lq (.bool t31) S (q_assign rfl) fun a S => ?_
  refine lx_nil (thenN ?_)
  refine wp_ret ?_
  obtain rfl := Option.some.inj hm
  exact leave1 S rfl rfl ⟨rfl, H⟩

/-- spec.l01Dec -/
def spec_l01Dec_m (fuel : Nat) (a0 : Int) : Option (Str) :=
  (if (a0 == (0 : Int)) = true then some (([48] : Str)) else (iter (fun (s : (List Int) × (Int)) => (match s with | (xs53, x55) => (if (x55 != (0 : Int)) = true then join (κ := Int → Option (((List Int) × (Int)) ⊕ (((List Int)) ⊕ (Str)))) (fun (x167 : Int) => (app xs53 [(IntKind.u8.wrap (W ((48 : Int) + x167)))]).bind fun x173 => some (.inl (x173, (W (x55.tdiv (10 : Int)))))) (fun K168 => (if (decide ((x55.tmod (10 : Int)) < (0 : Int))) = true then (K168 (W (0 - (x55.tmod (10 : Int))))) else (K168 (x55.tmod (10 : Int))))) else some (.inr (.inl (xs53)))) : Option (((List Int) × (Int)) ⊕ (((List Int)) ⊕ (Str))))) fuel (([] : List Int), a0)).bind fun res76 => ctl (β := (List Int)) (ρ := Str) (τ := Str) res76 (fun (xs74) => join (κ := List Int → Option Str) (fun (xs82 : List Int) => (iter (fun (s : (List Int) × (Int)) => (match s with | (xs108, x110) => (if (decide ((0 : Int) ≤ x110)) = true then (idx xs82 x110).bind fun x141 => (app xs108 [x141]).bind fun x149 => some (.inl (x149, (W (x110 - (1 : Int))))) else some (.inr (.inl (xs108)))) : Option (((List Int) × (Int)) ⊕ (((List Int)) ⊕ (Str))))) fuel (([] : List Int), (W ((xs82.length : Int) - (1 : Int))))).bind fun res132 => ctl (β := (List Int)) (ρ := Str) (τ := Str) res132 (fun (xs130) => some ((bstr xs130))) (fun q => some (q))) (fun K84 => (if (decide (a0 < (0 : Int))) = true then (app xs74 [(45 : Int)]).bind fun x158 => (K84 x158) else (K84 xs74)))) (fun q => some (q)))
set_option maxRecDepth 20000 in
theorem spec_l01Dec_ok {w0 : World} {fuel : Nat} {a0 : Int} {r : Str} (hm : spec_l01Dec_m fuel a0 = some r) :
  Calls Tryd.prog 67 #[.int .i64 a0] w0 fun e w => e = .returned (sv r) ∧ Heap w0 [] w := by
 unfold spec_l01Dec_m at hm
 have H := Heap.start w0
 refine enter (args := [.int .i64 a0]) Tryd.func67 rfl 50 rfl (Nat.le_of_ble_eq_true rfl) (fun a S => ?_)
 refine wp_seq (region_plain ?_)
 refine lq (sv ([] : Str)) S (q_assign rfl) fun a S => ?_
 refine lx_nil (thenN ?_)
 refine wp_seq (wp_seq (region_plain ?_))
 refine lq (.int .i64 a0) S (q_move rfl) fun a S => ?_
 refine lq (.bool (a0 == (0 : Int))) S (q_eql rfl rfl) fun a S => ?_
 refine lx_nil (thenN ?_)
 refine cond_b S rfl (fun hc31 => ?_) (fun hc31 => ?_)
 ·have hm := ite_t hc31 hm
  refine wp_seq (region_plain ?_)
  refine lq (sv ([48] : Str)) S (q_assign rfl) fun a S => ?_
  refine lx_nil (thenN ?_)
  refine wp_ret (then_ret ?_)
  obtain rfl := Option.some.inj hm
  exact leave1 S rfl rfl ⟨rfl, H⟩
 ·have hm := ite_f hc31 hm
  refine wp_skip (thenN ?_)
  refine wp_seq (region_plain ?_)
  refine lx_buildSlice0 (r := (rInt .u8)) S trivial (by decide) rfl H Tryd.underlying74 Tryd.sizeOf5 (fun v32 w33 H => ⟨trivial, fun a S => ?_⟩)
  refine lq v32 S (q_assign rfl) fun a S => ?_
  refine lx_nil (thenN ?_)
  refine wp_seq (wp_seq (region_plain ?_))
  refine lq (.int .i64 a0) S (q_move rfl) fun a S => ?_
  refine lq (.int .i64 a0) S (q_assign rfl) fun a S => ?_
  refine lx_nil (thenN ?_)
  obtain ⟨res76, hit77, hk80⟩ := bind_some hm
  obtain ⟨f78, hf79, hit77⟩ := iter_name hit77
  refine block_loop (fun a w => ∃ (xs74 : List Int) (v73 : Value), Slots a 50 [(0, (.int .i64 a0)), (3, v73)] ∧ Heap w0 [oA (rList (rInt .u8)) v73 xs74] w ∧ res76 = .inl (xs74)) ?_ ?_
  ·rintro a w ⟨xs74, v73, S, H, rfl⟩
   have hm := ctl_inl hk80
   refine thenN ?_
   obtain ⟨K84, hK85, hm⟩ := join_elim hm
   refine seq_cut (fun a w => ∃ (xs82 : List Int) (v81 : Value), Slots a 50 [(3, v81)] ∧ Heap w0 [oA (rList (rInt .u8)) v81 xs82] w ∧ K84 xs82 = some r) ?_ ?_
   ·rintro a w ⟨xs82, v81, S, H, hm⟩
    subst hK85
    refine wp_seq (region_plain ?_)
    refine lx_buildSlice0 (r := (rInt .u8)) S trivial (by decide) rfl H Tryd.underlying74 Tryd.sizeOf5 (fun v86 w87 H => ⟨trivial, fun a S => ?_⟩)
    refine lq v86 S (q_assign rfl) fun a S => ?_
    refine lx_nil (thenN ?_)
    refine wp_seq (wp_seq (region_plain ?_))
    refine lq v81 S (q_move rfl) fun a S => ?_
    refine lq (.int .i64 (xs82.length : Int)) S (q_lenSl rfl (H.isSl 1 rfl) rfl Tryd.underlying74) fun a S => ?_
    refine lq (.int .i64 (W ((xs82.length : Int) - (1 : Int)))) S (q_sub rfl rfl) fun a S => ?_
    refine lq (.int .i64 (W ((xs82.length : Int) - (1 : Int)))) S (q_assign rfl) fun a S => ?_
    refine lx_nil (thenN ?_)
    obtain ⟨res132, hit133, hk136⟩ := bind_some hm
    obtain ⟨f134, hf135, hit133⟩ := iter_name hit133
    refine block_loop (fun a w => ∃ (xs130 : List Int) (v129 : Value), Slots a 50 [(6, v129)] ∧ Heap w0 [oA (rList (rInt .u8)) v129 xs130] w ∧ res132 = .inl (xs130)) ?_ ?_
    ·rintro a w ⟨xs130, v129, S, H, rfl⟩
     have hm := ctl_inl hk136
     refine thenN ?_
     refine wp_seq (region_plain ?_)
     refine lq v129 S (q_move rfl) fun a S => ?_
     refine lx_e (sv (bstr xs130)) S trivial (by decide) rfl trivial (q_bstr rfl Tryd.underlying74 Tryd.underlying9 Tryd.underlying5 (by rintro _ rfl; exact (H.rdAt 0 rfl))) (fun a S => ?_)
     refine lq (sv (bstr xs130)) S (q_assign rfl) fun a S => ?_
     refine lx_nil (thenN ?_)
     refine wp_ret ?_
     obtain rfl := Option.some.inj hm
     have H : Heap w0 [] w := H.sel [] (by decide)
     exact leave1 S rfl rfl ⟨rfl, H⟩
    ·skip
     have H : Heap w0 [oA (rList (rInt .u8)) v81 xs82, oA (rList (rInt .u8)) v86 ([] : List Int)] w87 := H.front 1 rfl
     refine loop_ghost (fun n a w => ∃ (xs108 : List Int) (x110 : Int) (v107 : Value), Slots a 50 [(3, v81), (6, v107), (7, (.int .i64 x110))] ∧ Heap w0 [oA (rList (rInt .u8)) v81 xs82, oA (rList (rInt .u8)) v107 xs108] w ∧ iter f134 n (xs108, x110) = some res132) _ ⟨([] : List Int), (W ((xs82.length : Int) - (1 : Int))), v86, S.sub ⟨rfl, rfl, rfl, trivial⟩, H, hit133⟩ ?_
     rintro n a w ⟨xs108, x110, v107, S, H, hit133⟩
     obtain ⟨m137, o138, rfl, hm, hc139⟩ := iter_step hit133
     rw [hf135] at hm
     refine wp_seq (wp_seq (region_plain ?_))
     refine lq (.int .i64 x110) S (q_move rfl) fun a S => ?_
     refine lq (.bool (decide ((0 : Int) ≤ x110))) S (q_geq rfl rfl) fun a S => ?_
     refine lx_nil (thenN ?_)
     refine cond_b S rfl (fun hc140 => ?_) (fun hc140 => ?_)
     ·have hm := ite_t hc140 hm
      refine wp_skip (thenN ?_)
      refine wp_seq ?_
      refine wp_block ?_
      refine region_plain ?_
      refine lq v107 S (q_move rfl) fun a S => ?_
      refine lq v81 S (q_move rfl) fun a S => ?_
      refine lq (.int .i64 x110) S (q_move rfl) fun a S => ?_
      obtain ⟨x141, e142, hm⟩ := bind_some hm
      have hlt := lt_of_idx (idx_some e142).2
      refine lq (ePtr v81 (x110.toNat * 1)) S (q_indexAddr rfl (H.isSl 0 rfl) rfl (idx_some e142).1 hlt Tryd.underlying74 Tryd.sizeOf5) fun a S => ?_
      obtain ⟨c143, h144, hat145⟩ := (H.rdAt 0 rfl).elem (idx_some e142).2
      obtain rfl := h144
      refine lx_e (.int .u8 x141) S trivial (by decide) rfl trivial (q_load1 rfl Tryd.isAgg5 (by rintro _ rfl; exact (hat145 0 _ rfl))) (fun a S => ?_)
      refine lx_buildSlice (r := (rInt .u8)) (xs := [x141]) (ps := [(0, [(.int .u8 x141)])]) (cs := [(.int .u8 x141)]) (parts := [(0, .tmp 45)]) S trivial (by decide) rfl (H.put0 (A := eA) rfl) rfl Tryd.underlying74 Tryd.sizeOf5 Tryd.zeroValue5 (by decide) ⟨rfl, rfl, Nat.le_of_ble_eq_true rfl, trivial⟩ (by intro zs hz; exact fill_dense hz ⟨rfl, trivial⟩ rfl rfl) rfl (by decide) (fun w F hA => by cases (show F = [] from hA); exact ⟨_, _, [(.int .u8 x141)], _, rfl, rfl, ⟨rfl, rfl⟩, ⟨rfl, rfl⟩⟩) (fun v146 w147 H => ⟨trivial, fun a S => ?_⟩)
      obtain ⟨x149, e150, hm⟩ := bind_some hm
      obtain ⟨hle, hap⟩ := app_some e150
      replace hap := hap.symm
      subst hap
      have H : Heap w0 [oA (rList (rInt .u8)) v146 [x141], oA (rList (rInt .u8)) v81 xs82, oA (rList (rInt .u8)) v107 xs108] w147 := H.front 0 rfl
      have H : Heap w0 [oA (rList (rInt .u8)) v107 xs108, oA (rList (rInt .u8)) v146 [x141], oA (rList (rInt .u8)) v81 xs82] w147 := H.front 2 rfl
      refine lx_appendOwn (r := (rInt .u8)) S trivial (by decide) rfl H rfl rfl Tryd.underlying74 Tryd.ti5 rfl rfl rfl (Nat.le_of_ble_eq_true rfl) (by decide) hle (fun v151 w152 H => ⟨trivial, fun a S => ?_⟩)
      refine lq v151 S (q_assign rfl) fun a S => ?_
      refine lx_nil ?_
      refine inBlock_norm ?_
      refine thenN ?_
      refine region_plain ?_
      refine lq (.int .i64 x110) S (q_move rfl) fun a S => ?_
      refine lq (.int .i64 (W (x110 - (1 : Int)))) S (q_sub rfl rfl) fun a S => ?_
      refine lq (.int .i64 (W (x110 - (1 : Int)))) S (q_assign rfl) fun a S => ?_
      refine lx_nil ?_
      have H : Heap w0 [oA (rList (rInt .u8)) v81 xs82, oA (rList (rInt .u8)) v151 (xs108 ++ [x141])] w152 := H.front 1 rfl
      exact ⟨m137, Nat.lt_succ_self _, (xs108 ++ [x141]), (W (x110 - (1 : Int))), v151, S.sub ⟨rfl, rfl, rfl, trivial⟩, H, it_cont hm hc139⟩
     ·have hm := ite_f hc140 hm
      refine wp_exit ?_
      refine then_exit ?_
      refine then_exit ?_
      refine inBlock_exit ?_
      obtain rfl := it_brk hm hc139
      have H : Heap w0 [oA (rList (rInt .u8)) v107 xs108] w := H.sel [1] (by decide)
      exact ⟨xs108, v107, S.sub ⟨rfl, trivial⟩, H, rfl⟩
   ·skip
    refine wp_seq (region_plain ?_)
    refine lq (.int .i64 a0) S (q_move rfl) fun a S => ?_
    refine lq (.bool (decide (a0 < (0 : Int)))) S (q_lss rfl rfl) fun a S => ?_
    refine lx_nil (thenN ?_)
    refine cond_b S rfl (fun hc154 => ?_) (fun hc154 => ?_)
    ·have hm := ite_t hc154 hm
     refine region_plain ?_
     refine lq v73 S (q_move rfl) fun a S => ?_
     refine lx_buildSlice (r := (rInt .u8)) (xs := [(45 : Int)]) (ps := [(0, [(.int .u8 (45 : Int))])]) (cs := [(.int .u8 (45 : Int))]) (parts := [(0, .const (.int .u8 (45)))]) S trivial (by decide) rfl (H.put0 (A := eA) rfl) rfl Tryd.underlying74 Tryd.sizeOf5 Tryd.zeroValue5 (by decide) ⟨rfl, rfl, Nat.le_of_ble_eq_true rfl, trivial⟩ (by intro zs hz; exact fill_dense hz ⟨rfl, trivial⟩ rfl rfl) rfl (by decide) (fun w F hA => by cases (show F = [] from hA); exact ⟨_, _, [(.int .u8 (45 : Int))], _, rfl, rfl, ⟨rfl, rfl⟩, ⟨rfl, rfl⟩⟩) (fun v155 w156 H => ⟨trivial, fun a S => ?_⟩)
     obtain ⟨x158, e159, hm⟩ := bind_some hm
     obtain ⟨hle, hap⟩ := app_some e159
     replace hap := hap.symm
     subst hap
     have H : Heap w0 [oA (rList (rInt .u8)) v155 [(45 : Int)], oA (rList (rInt .u8)) v73 xs74] w156 := H.front 0 rfl
     have H : Heap w0 [oA (rList (rInt .u8)) v73 xs74, oA (rList (rInt .u8)) v155 [(45 : Int)]] w156 := H.front 1 rfl
     refine lx_appendOwn (r := (rInt .u8)) S trivial (by decide) rfl H rfl rfl Tryd.underlying74 Tryd.ti5 rfl rfl rfl (Nat.le_of_ble_eq_true rfl) (by decide) hle (fun v160 w161 H => ⟨trivial, fun a S => ?_⟩)
     refine lq v160 S (q_assign rfl) fun a S => ?_
     refine lx_nil ?_
     exact ⟨(xs74 ++ [(45 : Int)]), v160, S.sub ⟨rfl, trivial⟩, H, hm⟩
    ·have hm := ite_f hc154 hm
     refine wp_skip ?_
     exact ⟨xs74, v73, S.sub ⟨rfl, trivial⟩, H, hm⟩
  ·skip
   refine loop_ghost (fun n a w => ∃ (xs53 : List Int) (x55 : Int) (v52 : Value), Slots a 50 [(0, (.int .i64 a0)), (3, v52), (4, (.int .i64 x55))] ∧ Heap w0 [oA (rList (rInt .u8)) v52 xs53] w ∧ iter f78 n (xs53, x55) = some res76) _ ⟨([] : List Int), a0, v32, S.sub ⟨rfl, rfl, rfl, trivial⟩, H, hit77⟩ ?_
   rintro n a w ⟨xs53, x55, v52, S, H, hit77⟩
   obtain ⟨m163, o164, rfl, hm, hc165⟩ := iter_step hit77
   rw [hf79] at hm
   refine wp_seq (wp_seq (region_plain ?_))
   refine lq (.int .i64 x55) S (q_move rfl) fun a S => ?_
   refine lq (.bool (x55 != (0 : Int))) S (q_neq rfl rfl) fun a S => ?_
   refine lx_nil (thenN ?_)
   refine cond_b S rfl (fun hc166 => ?_) (fun hc166 => ?_)
   ·have hm := ite_t hc166 hm
    refine wp_skip (thenN ?_)
    refine wp_seq ?_
    refine wp_block ?_
    refine wp_seq (region_plain ?_)
    refine lq (.int .i64 x55) S (q_move rfl) fun a S => ?_
    refine lq (.int .i64 (x55.tmod (10 : Int))) S (q_rem rfl rfl (show (10 : Int) ≠ 0 from by decide)) fun a S => ?_
    refine lq (.int .i64 (x55.tmod (10 : Int))) S (q_assign rfl) fun a S => ?_
    refine lx_nil (thenN ?_)
    obtain ⟨K168, hK169, hm⟩ := join_elim hm
    refine seq_cut (fun a w => ∃ (x167 : Int), Slots a 50 [(0, (.int .i64 a0)), (3, v52), (4, (.int .i64 x55)), (5, (.int .i64 x167))] ∧ Heap w0 [oA (rList (rInt .u8)) v52 xs53] w ∧ K168 x167 = some o164) ?_ ?_
    ·rintro a w ⟨x167, S, H, hm⟩
     subst hK169
     refine region_plain ?_
     refine lq v52 S (q_move rfl) fun a S => ?_
     refine lq (.int .i64 x167) S (q_move rfl) fun a S => ?_
     refine lq (.int .i64 (W ((48 : Int) + x167))) S (q_add rfl rfl) fun a S => ?_
     refine lq (.int .u8 (IntKind.u8.wrap (W ((48 : Int) + x167)))) S (q_convInt rfl Tryd.underlying2 Tryd.underlying5) fun a S => ?_
     refine lx_buildSlice (r := (rInt .u8)) (xs := [(IntKind.u8.wrap (W ((48 : Int) + x167)))]) (ps := [(0, [(.int .u8 (IntKind.u8.wrap (W ((48 : Int) + x167))))])]) (cs := [(.int .u8 (IntKind.u8.wrap (W ((48 : Int) + x167))))]) (parts := [(0, .tmp 25)]) S trivial (by decide) rfl (H.put0 (A := eA) rfl) rfl Tryd.underlying74 Tryd.sizeOf5 Tryd.zeroValue5 (by decide) ⟨rfl, rfl, Nat.le_of_ble_eq_true rfl, trivial⟩ (by intro zs hz; exact fill_dense hz ⟨rfl, trivial⟩ rfl rfl) rfl (by decide) (fun w F hA => by cases (show F = [] from hA); exact ⟨_, _, [(.int .u8 (IntKind.u8.wrap (W ((48 : Int) + x167))))], _, rfl, rfl, ⟨rfl, rfl⟩, ⟨rfl, rfl⟩⟩) (fun v170 w171 H => ⟨trivial, fun a S => ?_⟩)
     obtain ⟨x173, e174, hm⟩ := bind_some hm
     obtain ⟨hle, hap⟩ := app_some e174
     replace hap := hap.symm
     subst hap
     have H : Heap w0 [oA (rList (rInt .u8)) v170 [(IntKind.u8.wrap (W ((48 : Int) + x167)))], oA (rList (rInt .u8)) v52 xs53] w171 := H.front 0 rfl
     have H : Heap w0 [oA (rList (rInt .u8)) v52 xs53, oA (rList (rInt .u8)) v170 [(IntKind.u8.wrap (W ((48 : Int) + x167)))]] w171 := H.front 1 rfl
     refine lx_appendOwn (r := (rInt .u8)) S trivial (by decide) rfl H rfl rfl Tryd.underlying74 Tryd.ti5 rfl rfl rfl (Nat.le_of_ble_eq_true rfl) (by decide) hle (fun v175 w176 H => ⟨trivial, fun a S => ?_⟩)
     refine lq v175 S (q_assign rfl) fun a S => ?_
     refine lx_nil ?_
     refine inBlock_norm ?_
     refine thenN ?_
     refine region_plain ?_
     refine lq (.int .i64 x55) S (q_move rfl) fun a S => ?_
     refine lq (.int .i64 (W (x55.tdiv (10 : Int)))) S (q_quo rfl rfl (show (10 : Int) ≠ 0 from by decide)) fun a S => ?_
     refine lq (.int .i64 (W (x55.tdiv (10 : Int)))) S (q_assign rfl) fun a S => ?_
     refine lx_nil ?_
     exact ⟨m163, Nat.lt_succ_self _, (xs53 ++ [(IntKind.u8.wrap (W ((48 : Int) + x167)))]), (W (x55.tdiv (10 : Int))), v175, S.sub ⟨rfl, rfl, rfl, trivial⟩, H, it_cont hm hc165⟩
    ·skip
     refine wp_seq (region_plain ?_)
     refine lq (.int .i64 (x55.tmod (10 : Int))) S (q_move rfl) fun a S => ?_
     refine lq (.bool (decide ((x55.tmod (10 : Int)) < (0 : Int)))) S (q_lss rfl rfl) fun a S => ?_
     refine lx_nil (thenN ?_)
     refine cond_b S rfl (fun hc178 => ?_) (fun hc178 => ?_)
     ·have hm := ite_t hc178 hm
      refine region_plain ?_
      refine lq (.int .i64 (x55.tmod (10 : Int))) S (q_move rfl) fun a S => ?_
      refine lq (.int .i64 (W (0 - (x55.tmod (10 : Int))))) S (q_neg rfl) fun a S => ?_
      refine lq (.int .i64 (W (0 - (x55.tmod (10 : Int))))) S (q_assign rfl) fun a S => ?_
      refine lx_nil ?_
      exact ⟨(W (0 - (x55.tmod (10 : Int)))), S.sub ⟨rfl, rfl, rfl, rfl, trivial⟩, H, hm⟩
     ·have hm := ite_f hc178 hm
      refine wp_skip ?_
      exact ⟨(x55.tmod (10 : Int)), S.sub ⟨rfl, rfl, rfl, rfl, trivial⟩, H, hm⟩
   ·have hm := ite_f hc166 hm
    refine wp_exit ?_
    refine then_exit ?_
    refine then_exit ?_
    refine inBlock_exit ?_
    obtain rfl := it_brk hm hc165
    exact ⟨xs53, v52, S.sub ⟨rfl, rfl, trivial⟩, H, rfl⟩

/-- spec.l01List -/
def spec_l01List_m (fuel : Nat) (a0 : (List Int)) : Option (Str) :=
  (if ((a0.length : Int) == (0 : Int)) = true then some (([45] : Str)) else (iter (fun (s : (Str) × (Int)) => (match s with | (x53, x54) => (if (decide (x54 < (a0.length : Int))) = true then join (κ := Str → Option (((Str) × (Int)) ⊕ ((Str) ⊕ (Str)))) (fun (x86 : Str) => (idx a0 x54).bind fun x89 => (spec_l01Dec_m fuel x89).bind fun x96 => (cat x86 x96).bind fun x99 => some (.inl (x99, (W (x54 + (1 : Int)))))) (fun K87 => (if (decide ((0 : Int) < x54)) = true then (cat x53 ([44] : Str)).bind fun x102 => (K87 x102) else (K87 x53))) else some (.inr (.inl (x53)))) : Option (((Str) × (Int)) ⊕ ((Str) ⊕ (Str))))) fuel (([] : Str), (0 : Int))).bind fun res77 => ctl (β := Str) (ρ := Str) (τ := Str) res77 (fun (x76) => some (x76)) (fun q => some (q)))
set_option maxRecDepth 20000 in
theorem spec_l01List_ok {w0 : World} {fuel : Nat} {p0 : Value} {a0 : (List Int)} {r : Str} (h0 : Rd (rList (rInt .i64)) w0 p0 a0) (hm : spec_l01List_m fuel a0 = some r) :
  Calls Tryd.prog 47 #[p0] w0 fun e w => e = .returned (sv r) ∧ Heap w0 [] w := by
 unfold spec_l01List_m at hm
 have H := Heap.start w0
 refine enter (args := [p0]) Tryd.func47 rfl 26 rfl (Nat.le_of_ble_eq_true rfl) (fun a S => ?_)
 refine wp_seq (region_plain ?_)
 refine lq (sv ([] : Str)) S (q_assign rfl) fun a S => ?_
 refine lx_nil (thenN ?_)
 refine wp_seq (wp_seq (region_plain ?_))
 refine lq p0 S (q_move rfl) fun a S => ?_
 refine lq (.int .i64 (a0.length : Int)) S (q_lenSl rfl (h0).isSl rfl Tryd.underlying48) fun a S => ?_
 refine lq (.bool ((a0.length : Int) == (0 : Int))) S (q_eql rfl rfl) fun a S => ?_
 refine lx_nil (thenN ?_)
 refine cond_b S rfl (fun hc31 => ?_) (fun hc31 => ?_)
 ·have hm := ite_t hc31 hm
  refine wp_seq (region_plain ?_)
  refine lq (sv ([45] : Str)) S (q_assign rfl) fun a S => ?_
  refine lx_nil (thenN ?_)
  refine wp_ret (then_ret ?_)
  obtain rfl := Option.some.inj hm
  exact leave1 S rfl rfl ⟨rfl, H⟩
 ·have hm := ite_f hc31 hm
  refine wp_skip (thenN ?_)
  refine wp_seq (region_plain ?_)
  refine lq (sv ([] : Str)) S (q_assign rfl) fun a S => ?_
  refine lx_nil (thenN ?_)
  refine wp_seq (wp_seq (region_plain ?_))
  refine lq (.int .i64 (0 : Int)) S (q_assign rfl) fun a S => ?_
  refine lx_nil (thenN ?_)
  obtain ⟨res77, hit78, hk81⟩ := bind_some hm
  obtain ⟨f79, hf80, hit78⟩ := iter_name hit78
  refine block_loop (fun a w => ∃ (x76 : Str), Slots a 26 [(3, (sv x76))] ∧ Heap w0 [] w ∧ res77 = .inl (x76)) ?_ ?_
  ·rintro a w ⟨x76, S, H, rfl⟩
   have hm := ctl_inl hk81
   refine thenN ?_
   refine wp_seq (region_plain ?_)
   refine lq (sv x76) S (q_move rfl) fun a S => ?_
   refine lq (sv x76) S (q_assign rfl) fun a S => ?_
   refine lx_nil (thenN ?_)
   refine wp_ret ?_
   obtain rfl := Option.some.inj hm
   exact leave1 S rfl rfl ⟨rfl, H⟩
  ·skip
   refine loop_ghost (fun n a w => ∃ (x53 : Str) (x54 : Int), Slots a 26 [(0, p0), (3, (sv x53)), (4, (.int .i64 x54))] ∧ Heap w0 [] w ∧ iter f79 n (x53, x54) = some res77) _ ⟨([] : Str), (0 : Int), S.sub ⟨rfl, rfl, rfl, trivial⟩, H, hit78⟩ ?_
   rintro n a w ⟨x53, x54, S, H, hit78⟩
   obtain ⟨m82, o83, rfl, hm, hc84⟩ := iter_step hit78
   rw [hf80] at hm
   refine wp_seq (wp_seq (region_plain ?_))
   refine lq (.int .i64 x54) S (q_move rfl) fun a S => ?_
   refine lq p0 S (q_move rfl) fun a S => ?_
   refine lq (.int .i64 (a0.length : Int)) S (q_lenSl rfl (h0).isSl rfl Tryd.underlying48) fun a S => ?_
   refine lq (.bool (decide (x54 < (a0.length : Int)))) S (q_lss rfl rfl) fun a S => ?_
   refine lx_nil (thenN ?_)
   refine cond_b S rfl (fun hc85 => ?_) (fun hc85 => ?_)
   ·have hm := ite_t hc85 hm
    refine wp_skip (thenN ?_)
    refine wp_seq ?_
    refine wp_block ?_
    obtain ⟨K87, hK88, hm⟩ := join_elim hm
    refine seq_cut (fun a w => ∃ (x86 : Str), Slots a 26 [(0, p0), (3, (sv x86)), (4, (.int .i64 x54))] ∧ Heap w0 [] w ∧ K87 x86 = some o83) ?_ ?_
    ·rintro a w ⟨x86, S, H, hm⟩
     subst hK88
     refine region_plain ?_
     refine lq (sv x86) S (q_move rfl) fun a S => ?_
     refine lq p0 S (q_move rfl) fun a S => ?_
     refine lq (.int .i64 x54) S (q_move rfl) fun a S => ?_
     obtain ⟨x89, e90, hm⟩ := bind_some hm
     obtain ⟨c91, h92, hat93⟩ := (h0).elem (idx_some e90).2
     obtain rfl := h92
     have hlt := lt_of_idx (idx_some e90).2
     refine lq (ePtr p0 (x54.toNat * 1)) S (q_indexAddr rfl (h0).isSl rfl (idx_some e90).1 hlt Tryd.underlying48 Tryd.sizeOf2) fun a S => ?_
     refine lx_e (.int .i64 x89) S trivial (by decide) rfl trivial (q_load1 rfl Tryd.isAgg2 (by rintro _ rfl; exact ((hat93 0 _ rfl).ext H.ext))) (fun a S => ?_)
     obtain ⟨x96, e97, hm⟩ := bind_some hm
     refine lx_call (xs := [.tmp 22]) S trivial (by decide) rfl rfl Tryd.call67 ((spec_l01Dec_ok  e97).mono ?_)
     rintro e w94 ⟨rfl, Hc95⟩
     have H := H.call0 Hc95
     refine ⟨_, rfl, trivial, fun a S => ?_⟩
     obtain ⟨x99, e100, hm⟩ := bind_some hm
     obtain ⟨hle, hcat⟩ := cat_some e100
     subst hcat
     refine lq (sv (x86 ++ x96)) S (q_cat rfl rfl hle) fun a S => ?_
     refine lq (sv (x86 ++ x96)) S (q_assign rfl) fun a S => ?_
     refine lx_nil ?_
     refine inBlock_norm ?_
     refine thenN ?_
     refine region_plain ?_
     refine lq (.int .i64 x54) S (q_move rfl) fun a S => ?_
     refine lq (.int .i64 (W (x54 + (1 : Int)))) S (q_add rfl rfl) fun a S => ?_
     refine lq (.int .i64 (W (x54 + (1 : Int)))) S (q_assign rfl) fun a S => ?_
     refine lx_nil ?_
     exact ⟨m82, Nat.lt_succ_self _, (x86 ++ x96), (W (x54 + (1 : Int))), S.sub ⟨rfl, rfl, rfl, trivial⟩, H, it_cont hm hc84⟩
    ·skip
     refine wp_seq (region_plain ?_)
     refine lq (.int .i64 x54) S (q_move rfl) fun a S => ?_
     refine lq (.bool (decide ((0 : Int) < x54))) S (q_gtr rfl rfl) fun a S => ?_
     refine lx_nil (thenN ?_)
     refine cond_b S rfl (fun hc101 => ?_) (fun hc101 => ?_)
     ·have hm := ite_t hc101 hm
      refine region_plain ?_
      refine lq (sv x53) S (q_move rfl) fun a S => ?_
      obtain ⟨x102, e103, hm⟩ := bind_some hm
      obtain ⟨hle, hcat⟩ := cat_some e103
      subst hcat
      refine lq (sv (x53 ++ ([44] : Str))) S (q_cat rfl rfl hle) fun a S => ?_
      refine lq (sv (x53 ++ ([44] : Str))) S (q_assign rfl) fun a S => ?_
      refine lx_nil ?_
      exact ⟨(x53 ++ ([44] : Str)), S.sub ⟨rfl, rfl, rfl, trivial⟩, H, hm⟩
     ·have hm := ite_f hc101 hm
      refine wp_skip ?_
      exact ⟨x53, S.sub ⟨rfl, rfl, rfl, trivial⟩, H, hm⟩
   ·have hm := ite_f hc85 hm
    refine wp_exit ?_
    refine then_exit ?_
    refine then_exit ?_
    refine inBlock_exit ?_
    obtain rfl := it_brk hm hc84
    exact ⟨x53, S.sub ⟨rfl, trivial⟩, H, rfl⟩

/-- impl.within -/
def impl_within_m (_ : Nat) (a0 : Int) (a1 : Int) (a2 : Int) : Option (Bool) :=
  (if (decide (a1 ≤ a0)) = true then some (decide (a0 ≤ a2)) else some false).bind fun t31 => some (t31)
set_option maxRecDepth 20000 in
theorem impl_within_ok {w0 : World} {fuel : Nat} {a0 : Int} {a1 : Int} {a2 : Int} {r : Bool} (hm : impl_within_m fuel a0 a1 a2 = some r) :
  Calls Tryd.prog 25 #[.int .i64 a0, .int .i64 a1, .int .i64 a2] w0 fun e w => e = .returned (.bool r) ∧ Heap w0 [] w := by
 unfold impl_within_m at hm
 have H := Heap.start w0
 refine enter (args := [.int .i64 a0, .int .i64 a1, .int .i64 a2]) Tryd.func25 rfl 15 rfl (Nat.le_of_ble_eq_true rfl) (fun a S => ?_)
 refine wp_seq (region_plain ?_)
 refine lq (.bool false) S (q_assign rfl) fun a S => ?_
 refine lx_nil (thenN ?_)
 refine wp_seq (region_plain ?_)
 refine lq (.int .i64 a0) S (q_move rfl) fun a S => ?_
 refine lq (.int .i64 a1) S (q_move rfl) fun a S => ?_
 refine lq (.bool (decide (a1 ≤ a0))) S (q_geq rfl rfl) fun a S => ?_
 refine lq (.bool (decide (a1 ≤ a0))) S (q_move rfl) fun a S => ?_
 obtain ⟨t31, e32, hm⟩ := bind_some hm
 refine lx_cut 4 (fun a w => Slots a 15 [(14, (.bool t31))] ∧ Heap w0 [] w) ?_ ?_
 ·by_cases hc33 : (decide (a1 ≤ a0)) = true
  ·have hm := ite_t hc33 e32
   refine lx_q (.int .i64 a0) S (want_b rfl rfl hc33) (by decide) (q_move rfl) (fun a S => ?_)
   refine lx_q (.int .i64 a2) S (want_b rfl rfl hc33) (by decide) (q_move rfl) (fun a S => ?_)
   refine lx_q (.bool (decide (a0 ≤ a2))) S (want_b rfl rfl hc33) (by decide) (q_leq rfl rfl) (fun a S => ?_)
   refine lq (.bool (decide (a0 ≤ a2))) S (q_pickT' rfl hc33 rfl) fun a S => ?_
   refine lx_nil ?_
   obtain rfl := Option.some.inj hm
   exact ⟨S.sub ⟨rfl, trivial⟩, H⟩
  ·have hm := ite_f (eq_false_of_ne_true hc33) e32
   have hc33 : (decide (a1 ≤ a0)) = false := eq_false_of_ne_true hc33
   refine lx_skip S rfl rfl (isB_ne hc33) (by decide) (fun a S => ?_)
   refine lx_skip S rfl rfl (isB_ne hc33) (by decide) (fun a S => ?_)
   refine lx_skip S rfl rfl (isB_ne hc33) (by decide) (fun a S => ?_)
   refine lq (.bool false) S (q_pickF' rfl hc33 rfl) fun a S => ?_
   refine lx_nil ?_
   obtain rfl := Option.some.inj hm
   exact ⟨S.sub ⟨rfl, trivial⟩, H⟩
 ·rintro a w ⟨S, H⟩
  refine lq (.bool t31) S (q_assign rfl) fun a S => ?_
  refine lx_nil (thenN ?_)
  refine wp_ret ?_
  obtain rfl := Option.some.inj hm
  exact leave1 S rfl rfl ⟨rfl, H⟩

/-- slices.IndexFunc[[]int64,int64] -/
def slices_IndexFunc__int64_int64_m (fuel : Nat) (a0 : (List Int)) (a1 : (Int → Option Bool)) : Option (Int) :=
  (iter (fun (s : (Int)) => (match s with | (x46) => (if (decide (x46 < (a0.length : Int))) = true then (idx a0 x46).bind fun x71 => (a1 x71).bind fun x80 => (if x80 = true then some (.inr (.inr x46)) else some (.inl ((W (x46 + (1 : Int)))))) else some (.inr (.inl ()))) : Option (((Int)) ⊕ ((Unit) ⊕ (Int))))) fuel ((0 : Int))).bind fun res62 => ctl (β := Unit) (ρ := Int) (τ := Int) res62 (fun _ => some ((-1 : Int))) (fun q => some (q))
set_option maxRecDepth 20000 in
theorem slices_IndexFunc__int64_int64_ok {w0 : World} {fuel : Nat} {p0 : Value} {a0 : (List Int)} {a1 : (Int → Option Bool)} {f1 : Nat} {fs1 cp1 : List Value} {r : Int} (h0 : Rd (rList (rInt .i64)) w0 p0 a0) (hcf1 : ∀ args w, (callFunc f1 args).run Tryd.prog w = .ok (.enter f1 args) w) (hf1 : ∀ {w : World} {x0_ : Int} {y : Bool}, Ext w0 w → a1 x0_ = some y → Calls Tryd.prog f1 (fs1 ++ ([.int .i64 x0_] : List Value) ++ cp1).toArray w fun e w' => e = .returned (.bool y) ∧ Heap w [] w') (hm : slices_IndexFunc__int64_int64_m fuel a0 a1 = some r) :
  Calls Tryd.prog 49 #[p0, .func (.func f1) fs1.toArray cp1.toArray] w0 fun e w => e = .returned (.int .i64 r) ∧ Heap w0 [] w := by
 unfold slices_IndexFunc__int64_int64_m at hm
 have H := Heap.start w0
 refine enter (args := [p0, .func (.func f1) fs1.toArray cp1.toArray]) Tryd.func49 rfl 19 rfl (Nat.le_of_ble_eq_true rfl) (fun a S => ?_)
 refine wp_seq (region_plain ?_)
 refine lq (.int .i64 (0 : Int)) S (q_assign rfl) fun a S => ?_
 refine lx_nil (thenN ?_)
 refine wp_seq (wp_seq (region_plain ?_))
 refine lq p0 S (q_move rfl) fun a S => ?_
 refine lq (.int .i64 (a0.length : Int)) S (q_lenSl rfl (h0).isSl rfl Tryd.underlying48) fun a S => ?_
 refine lq (.int .i64 (0 : Int)) S (q_move rfl) fun a S => ?_
 refine lx_nil (thenN ?_)
 obtain ⟨res62, hit63, hk66⟩ := bind_some hm
 obtain ⟨f64, hf65, hit63⟩ := iter_name hit63
 refine block_loop (fun a w => Slots a 19 [] ∧ Heap w0 [] w ∧ res62 = .inl ()) ?_ ?_
 ·rintro a w ⟨S, H, rfl⟩
  have hm := ctl_inl hk66
  refine thenN ?_
  refine wp_seq (region_plain ?_)
  refine lq (.int .i64 (-1 : Int)) S (q_assign rfl) fun a S => ?_
  refine lx_nil (thenN ?_)
  refine wp_ret ?_
  obtain rfl := Option.some.inj hm
  exact leave1 S rfl rfl ⟨rfl, H⟩
 ·skip
  refine loop_ghost (fun n a w => ∃ (x46 : Int), Slots a 19 [(0, p0), (1, (.func (.func f1) fs1.toArray cp1.toArray)), (7, (.int .i64 (a0.length : Int))), (8, (.int .i64 x46))] ∧ Heap w0 [] w ∧ iter f64 n (x46) = some res62) _ ⟨(0 : Int), S.sub ⟨rfl, rfl, rfl, rfl, trivial⟩, H, hit63⟩ ?_
  rintro n a w ⟨x46, S, H, hit63⟩
  obtain ⟨m67, o68, rfl, hm, hc69⟩ := iter_step hit63
  rw [hf65] at hm
  refine wp_seq (region_plain ?_)
  refine lq (.bool (decide (x46 < (a0.length : Int)))) S (q_lss rfl rfl) fun a S => ?_
  refine lx_nil (thenN ?_)
  refine wp_seq ?_
  refine cond_b S rfl (fun hc70 => ?_) (fun hc70 => ?_)
  ·have hm := ite_t hc70 hm
   refine wp_skip (thenN ?_)
   refine wp_seq ?_
   refine wp_block ?_
   refine wp_seq (region_plain ?_)
   refine lq (.int .i64 x46) S (q_move rfl) fun a S => ?_
   refine lq (.int .i64 x46) S (q_assign rfl) fun a S => ?_
   refine lx_nil (thenN ?_)
   refine wp_seq (region_plain ?_)
   refine lq (.func (.func f1) fs1.toArray cp1.toArray) S (q_move rfl) fun a S => ?_
   refine lq p0 S (q_move rfl) fun a S => ?_
   refine lq (.int .i64 x46) S (q_move rfl) fun a S => ?_
   obtain ⟨x71, e72, hm⟩ := bind_some hm
   obtain ⟨c73, h74, hat75⟩ := (h0).elem (idx_some e72).2
   obtain rfl := h74
   have hlt := lt_of_idx (idx_some e72).2
   refine lq (ePtr p0 (x46.toNat * 1)) S (q_indexAddr rfl (h0).isSl rfl (idx_some e72).1 hlt Tryd.underlying48 Tryd.sizeOf2) fun a S => ?_
   refine lx_e (.int .i64 x71) S trivial (by decide) rfl trivial (q_load1 rfl Tryd.isAgg2 (by rintro _ rfl; exact ((hat75 0 _ rfl).ext H.ext))) (fun a S => ?_)
   obtain ⟨x80, e81, hm⟩ := bind_some hm
   refine lx_callV (f := f1) (first := fs1) (cap := cp1) (xs := [.tmp 15]) S trivial (by decide) rfl rfl rfl hcf1 ((hf1 H.ext  e81).mono ?_)
   rintro e w78 ⟨rfl, Hc79⟩
   have H := H.call0 Hc79
   refine ⟨_, rfl, trivial, fun a S => ?_⟩
   refine lx_nil (thenN ?_)
   refine cond_b S rfl (fun hc83 => ?_) (fun hc83 => ?_)
   ·have hm := ite_t hc83 hm
    refine wp_seq (region_plain ?_)
    refine lq (.int .i64 x46) S (q_move rfl) fun a S => ?_
    refine lq (.int .i64 x46) S (q_assign rfl) fun a S => ?_
    refine lx_nil (thenN ?_)
    refine wp_ret (inBlock_ret ?_)
    refine then_ret ?_
    refine then_ret ?_
    refine inBlock_ret ?_
    refine then_ret ?_
    refine then_ret ?_
    obtain rfl := it_brk hm hc69
    have hm := ctl_inr hk66
    obtain rfl := Option.some.inj hm
    exact leave1 S rfl rfl ⟨rfl, H⟩
   ·have hm := ite_f hc83 hm
    refine wp_skip ?_
    refine inBlock_norm ?_
    refine thenN ?_
    refine region_plain ?_
    refine lq (.int .i64 (W (x46 + (1 : Int)))) S (q_add rfl rfl) fun a S => ?_
    refine lq (.int .i64 (W (x46 + (1 : Int)))) S (q_move rfl) fun a S => ?_
    refine lx_nil ?_
    exact ⟨m67, Nat.lt_succ_self _, (W (x46 + (1 : Int))), S.sub ⟨rfl, rfl, rfl, rfl, trivial⟩, H, it_cont hm hc69⟩
  ·have hm := ite_f hc70 hm
   refine wp_exit ?_
   refine then_exit ?_
   refine then_exit ?_
   refine inBlock_exit ?_
   obtain rfl := it_brk hm hc69
   exact ⟨S.sub trivial, H, rfl⟩

/-- slices.ContainsFunc[[]int64,int64] -/
def slices_ContainsFunc__int64_int64_m (fuel : Nat) (a0 : (List Int)) (a1 : (Int → Option Bool)) : Option (Bool) :=
  (slices_IndexFunc__int64_int64_m fuel a0 a1).bind fun x33 => some ((decide ((0 : Int) ≤ x33)))
set_option maxRecDepth 20000 in
theorem slices_ContainsFunc__int64_int64_ok {w0 : World} {fuel : Nat} {p0 : Value} {a0 : (List Int)} {a1 : (Int → Option Bool)} {f1 : Nat} {fs1 cp1 : List Value} {r : Bool} (h0 : Rd (rList (rInt .i64)) w0 p0 a0) (hcf1 : ∀ args w, (callFunc f1 args).run Tryd.prog w = .ok (.enter f1 args) w) (hf1 : ∀ {w : World} {x0_ : Int} {y : Bool}, Ext w0 w → a1 x0_ = some y → Calls Tryd.prog f1 (fs1 ++ ([.int .i64 x0_] : List Value) ++ cp1).toArray w fun e w' => e = .returned (.bool y) ∧ Heap w [] w') (hm : slices_ContainsFunc__int64_int64_m fuel a0 a1 = some r) :
  Calls Tryd.prog 26 #[p0, .func (.func f1) fs1.toArray cp1.toArray] w0 fun e w => e = .returned (.bool r) ∧ Heap w0 [] w := by
 unfold slices_ContainsFunc__int64_int64_m at hm
 have H := Heap.start w0
 refine enter (args := [p0, .func (.func f1) fs1.toArray cp1.toArray]) Tryd.func26 rfl 9 rfl (Nat.le_of_ble_eq_true rfl) (fun a S => ?_)
 refine wp_seq (region_plain ?_)
 refine lq (.bool false) S (q_assign rfl) fun a S => ?_
 refine lx_nil (thenN ?_)
 refine wp_seq (region_plain ?_)
 refine lq p0 S (q_move rfl) fun a S => ?_
 refine lq (.func (.func f1) fs1.toArray cp1.toArray) S (q_move rfl) fun a S => ?_
 obtain ⟨x33, e34, hm⟩ := bind_some hm
 refine lx_call (xs := [.tmp 5, .tmp 6]) S trivial (by decide) rfl rfl Tryd.call49 ((slices_IndexFunc__int64_int64_ok (f1 := f1) (fs1 := fs1) (cp1 := cp1) (a1 := a1) (H.arg h0) hcf1 (fun he  hm => hf1 ((H.ext).trans he)  hm) e34).mono ?_)
 rintro e w31 ⟨rfl, Hc32⟩
 have H := H.call0 Hc32
 refine ⟨_, rfl, trivial, fun a S => ?_⟩
 refine lq (.bool (decide ((0 : Int) ≤ x33))) S (q_geq rfl rfl) fun a S => ?_
 refine lq (.bool (decide ((0 : Int) ≤ x33))) S (q_assign rfl) fun a S => ?_
 refine lx_nil (thenN ?_)
 refine wp_ret ?_
 obtain rfl := Option.some.inj hm
 exact leave1 S rfl rfl ⟨rfl, H⟩

/-- impl.listOk$1 -/
def impl_listOk_1_m (fuel : Nat) (a0 : Int) : Option (Bool) :=
  (impl_within_m fuel a0 (-1000000000000 : Int) (1000000000000 : Int)).bind fun x33 => some ((!x33))
set_option maxRecDepth 20000 in
theorem impl_listOk_1_ok {w0 : World} {fuel : Nat} {a0 : Int} {r : Bool} (hm : impl_listOk_1_m fuel a0 = some r) :
  Calls Tryd.prog 68 #[.int .i64 a0] w0 fun e w => e = .returned (.bool r) ∧ Heap w0 [] w := by
 unfold impl_listOk_1_m at hm
 have H := Heap.start w0
 refine enter (args := [.int .i64 a0]) Tryd.func68 rfl 6 rfl (Nat.le_of_ble_eq_true rfl) (fun a S => ?_)
 refine wp_seq (region_plain ?_)
 refine lq (.bool false) S (q_assign rfl) fun a S => ?_
 refine lx_nil (thenN ?_)
 refine wp_seq (region_plain ?_)
 refine lq (.int .i64 a0) S (q_move rfl) fun a S => ?_
 obtain ⟨x33, e34, hm⟩ := bind_some hm
 refine lx_call (xs := [.tmp 3, .const (.int .i64 (-1000000000000)), .const (.int .i64 (1000000000000))]) S trivial (by decide) rfl rfl Tryd.call25 ((impl_within_ok    e34).mono ?_)
 rintro e w31 ⟨rfl, Hc32⟩
 have H := H.call0 Hc32
 refine ⟨_, rfl, trivial, fun a S => ?_⟩
 refine lq (.bool (!x33)) S (q_not rfl) fun a S => ?_
 refine lq (.bool (!x33)) S (q_assign rfl) fun a S => ?_
 refine lx_nil (thenN ?_)
 refine wp_ret ?_
 obtain rfl := Option.some.inj hm
 exact leave1 S rfl rfl ⟨rfl, H⟩

/-- impl.listOk -/
def impl_listOk_m (fuel : Nat) (a0 : (List Int)) : Option (Bool) :=
  (if (decide ((a0.length : Int) ≤ (64 : Int))) = true then (slices_ContainsFunc__int64_int64_m fuel a0 (fun (z0 : Int) => impl_listOk_1_m fuel z0)).bind fun x36 => some (!x36) else some false).bind fun t31 => some (t31)
set_option maxRecDepth 20000 in
theorem impl_listOk_ok {w0 : World} {fuel : Nat} {p0 : Value} {a0 : (List Int)} {r : Bool} (h0 : Rd (rList (rInt .i64)) w0 p0 a0) (hm : impl_listOk_m fuel a0 = some r) :
  Calls Tryd.prog 50 #[p0] w0 fun e w => e = .returned (.bool r) ∧ Heap w0 [] w := by
 unfold impl_listOk_m at hm
 have H := Heap.start w0
 refine enter (args := [p0]) Tryd.func50 rfl 11 rfl (Nat.le_of_ble_eq_true rfl) (fun a S => ?_)
 refine wp_seq (region_plain ?_)
 refine lq (.bool false) S (q_assign rfl) fun a S => ?_
 refine lx_nil (thenN ?_)
 refine wp_seq (region_plain ?_)
 refine lq p0 S (q_move rfl) fun a S => ?_
 refine lq (.int .i64 (a0.length : Int)) S (q_lenSl rfl (h0).isSl rfl Tryd.underlying48) fun a S => ?_
 refine lq (.bool (decide ((a0.length : Int) ≤ (64 : Int)))) S (q_leq rfl rfl) fun a S => ?_
 refine lq (.bool (decide ((a0.length : Int) ≤ (64 : Int)))) S (q_move rfl) fun a S => ?_
 obtain ⟨t31, e32, hm⟩ := bind_some hm
 refine lx_cut 4 (fun a w => Slots a 11 [(10, (.bool t31))] ∧ Heap w0 [] w) ?_ ?_
 ·by_cases hc33 : (decide ((a0.length : Int) ≤ (64 : Int))) = true
  ·have hm := ite_t hc33 e32
   refine lx_q p0 S (want_b rfl rfl hc33) (by decide) (q_move rfl) (fun a S => ?_)
   obtain ⟨x36, e37, hm⟩ := bind_some hm
   refine lx_call (xs := [.tmp 7, .func 68]) S (want_b rfl rfl hc33) (by decide) rfl rfl Tryd.call26 ((slices_ContainsFunc__int64_int64_ok (f1 := 68) (fs1 := ([] : List Value)) (cp1 := ([] : List Value)) (a1 := (fun (z0 : Int) => impl_listOk_1_m fuel z0)) (H.arg h0) Tryd.call68 (fun he  hm => impl_listOk_1_ok    hm) e37).mono ?_)
   rintro e w34 ⟨rfl, Hc35⟩
   have H := H.call0 Hc35
   refine ⟨_, rfl, trivial, fun a S => ?_⟩
   refine lx_q (.bool (!x36)) S (want_b rfl rfl hc33) (by decide) (q_not rfl) (fun a S => ?_)
   refine lq (.bool (!x36)) S (q_pickT' rfl hc33 rfl) fun a S => ?_
   refine lx_nil ?_
   obtain rfl := Option.some.inj hm
   exact ⟨S.sub ⟨rfl, trivial⟩, H⟩
  ·have hm := ite_f (eq_false_of_ne_true hc33) e32
   have hc33 : (decide ((a0.length : Int) ≤ (64 : Int))) = false := eq_false_of_ne_true hc33
   refine lx_skip S rfl rfl (isB_ne hc33) (by decide) (fun a S => ?_)
   refine lx_skip S rfl rfl (isB_ne hc33) (by decide) (fun a S => ?_)
   refine lx_skip S rfl rfl (isB_ne hc33) (by decide) (fun a S => ?_)
   refine lq (.bool false) S (q_pickF' rfl hc33 rfl) fun a S => ?_
   refine lx_nil ?_
   obtain rfl := Option.some.inj hm
   exact ⟨S.sub ⟨rfl, trivial⟩, H⟩
 ·rintro a w ⟨S, H⟩
  refine lq (.bool t31) S (q_assign rfl) fun a S => ?_
  refine lx_nil (thenN ?_)
  refine wp_ret ?_
  obtain rfl := Option.some.inj hm
  exact leave1 S rfl rfl ⟨rfl, H⟩

/-- impl.Decimal -/
def impl_Decimal_m (fuel : Nat) (a0 : Int) : Option (Str) :=
  (strconv_FormatInt_m fuel a0 (10 : Int)).bind fun x33 => some (x33)
set_option maxRecDepth 20000 in
theorem impl_Decimal_ok {w0 : World} {fuel : Nat} {a0 : Int} {r : Str} (hG : Glob Tryd.prog w0) (hm : impl_Decimal_m fuel a0 = some r) :
  Calls Tryd.prog 69 #[.int .i64 a0] w0 fun e w => e = .returned (sv r) ∧ Heap w0 [] w := by
 unfold impl_Decimal_m at hm
 have H := Heap.start w0
 refine enter (args := [.int .i64 a0]) Tryd.func69 rfl 5 rfl (Nat.le_of_ble_eq_true rfl) (fun a S => ?_)
 refine wp_seq (region_plain ?_)
 refine lq (sv ([] : Str)) S (q_assign rfl) fun a S => ?_
 refine lx_nil (thenN ?_)
 refine wp_seq (region_plain ?_)
 refine lq (.int .i64 a0) S (q_move rfl) fun a S => ?_
 obtain ⟨x33, e34, hm⟩ := bind_some hm
 refine lx_call (xs := [.tmp 3, .const (.int .i64 (10))]) S trivial (by decide) rfl rfl Tryd.call80 ((strconv_FormatInt_ok (hG.ext H.ext)   e34).mono ?_)
 rintro e w31 ⟨rfl, Hc32⟩
 have H := H.call0 Hc32
 refine ⟨_, rfl, trivial, fun a S => ?_⟩
 refine lq (sv x33) S (q_assign rfl) fun a S => ?_
 refine lx_nil (thenN ?_)
 refine wp_ret ?_
 obtain rfl := Option.some.inj hm
 exact leave1 S rfl rfl ⟨rfl, H⟩

/-- impl.joined -/
def impl_joined_m (fuel : Nat) (a0 : (List Int)) (a1 : Str) : Option (Str) :=
  (mks (a0.length : Int) ([] : Str)).bind fun x31 => (iter (fun (s : (List Str) × (Int)) => (match s with | (xs53, x54) => (if (decide (x54 < (a0.length : Int))) = true then (idx a0 x54).bind fun x86 => (impl_Decimal_m fuel x86).bind fun x93 => (idx xs53 x54).bind fun _ => some (.inl ((xs53.set x54.toNat x93), (W (x54 + (1 : Int))))) else some (.inr (.inl (xs53)))) : Option (((List Str) × (Int)) ⊕ (((List Str)) ⊕ (Str))))) fuel (x31, (0 : Int))).bind fun res72 => ctl (β := (List Str)) (ρ := Str) (τ := Str) res72 (fun (xs71) => (strings_Join_m fuel xs71 a1).bind fun x79 => some (x79)) (fun q => some (q))
set_option maxRecDepth 20000 in
theorem impl_joined_ok {w0 : World} {fuel : Nat} {p0 : Value} {a0 : (List Int)} {a1 : Str} {r : Str} (hG : Glob Tryd.prog w0) (h0 : Rd (rList (rInt .i64)) w0 p0 a0) (hm : impl_joined_m fuel a0 a1 = some r) :
  Calls Tryd.prog 51 #[p0, sv a1] w0 fun e w => e = .returned (sv r) ∧ Heap w0 [] w := by
 unfold impl_joined_m at hm
 have H := Heap.start w0
 refine enter (args := [p0, sv a1]) Tryd.func51 rfl 27 rfl (Nat.le_of_ble_eq_true rfl) (fun a S => ?_)
 refine wp_seq (region_plain ?_)
 refine lq (sv ([] : Str)) S (q_assign rfl) fun a S => ?_
 refine lx_nil (thenN ?_)
 refine wp_seq (region_plain ?_)
 refine lq p0 S (q_move rfl) fun a S => ?_
 refine lq (.int .i64 (a0.length : Int)) S (q_lenSl rfl (h0).isSl rfl Tryd.underlying48) fun a S => ?_
 obtain ⟨x31, e32, hm⟩ := bind_some hm
 obtain ⟨m33, hn, hn2, rfl⟩ := mks_some e32
 refine lx_make (r := rStr) (z0 := ([] : Str)) (n := m33) S trivial (by decide) rfl H (by rw [← hn]; rfl) (by rw [← hn]; rfl) Tryd.underlying47 (Tryd.ti9) rfl rfl (Nat.le_of_ble_eq_true rfl) (fun w => ⟨rfl, rfl⟩) hn2 (by decide) (fun v34 w35 H => ⟨trivial, fun a S => ?_⟩)
 refine lq v34 S (q_assign rfl) fun a S => ?_
 refine lx_nil (thenN ?_)
 refine wp_seq (wp_seq (region_plain ?_))
 refine lq p0 S (q_move rfl) fun a S => ?_
 refine lq (.int .i64 (a0.length : Int)) S (q_lenSl rfl (h0).isSl rfl Tryd.underlying48) fun a S => ?_
 refine lq (.int .i64 (0 : Int)) S (q_move rfl) fun a S => ?_
 refine lx_nil (thenN ?_)
 obtain ⟨res72, hit73, hk76⟩ := bind_some hm
 obtain ⟨f74, hf75, hit73⟩ := iter_name hit73
 refine block_loop (fun a w => ∃ (xs71 : List Str), Slots a 27 [(1, (sv a1)), (5, v34)] ∧ Heap w0 [oA (rList rStr) v34 xs71] w ∧ res72 = .inl (xs71)) ?_ ?_
 ·rintro a w ⟨xs71, S, H, rfl⟩
  have hm := ctl_inl hk76
  refine thenN ?_
  refine wp_seq (region_plain ?_)
  refine lq v34 S (q_move rfl) fun a S => ?_
  refine lq (sv a1) S (q_move rfl) fun a S => ?_
  obtain ⟨x79, e80, hm⟩ := bind_some hm
  refine lx_call (xs := [.tmp 24, .tmp 25]) S trivial (by decide) rfl rfl Tryd.call28 ((strings_Join_ok (H.rdAt 0 rfl)  e80).mono ?_)
  rintro e w77 ⟨rfl, Hc78⟩
  have H := H.call0 Hc78
  refine ⟨_, rfl, trivial, fun a S => ?_⟩
  refine lq (sv x79) S (q_assign rfl) fun a S => ?_
  refine lx_nil (thenN ?_)
  refine wp_ret ?_
  obtain rfl := Option.some.inj hm
  have H : Heap w0 [] w77 := H.sel [] (by decide)
  exact leave1 S rfl rfl ⟨rfl, H⟩
 ·skip
  refine loop_ghost (fun n a w => ∃ (xs53 : List Str) (x54 : Int), Slots a 27 [(1, (sv a1)), (5, v34), (11, p0), (12, (.int .i64 (a0.length : Int))), (13, (.int .i64 x54))] ∧ Heap w0 [oA (rList rStr) v34 xs53] w ∧ iter f74 n (xs53, x54) = some res72) _ ⟨(List.replicate m33 ([] : Str)), (0 : Int), S.sub ⟨rfl, rfl, rfl, rfl, rfl, trivial⟩, H, hit73⟩ ?_
  rintro n a w ⟨xs53, x54, S, H, hit73⟩
  obtain ⟨m82, o83, rfl, hm, hc84⟩ := iter_step hit73
  rw [hf75] at hm
  refine wp_seq (region_plain ?_)
  refine lq (.bool (decide (x54 < (a0.length : Int)))) S (q_lss rfl rfl) fun a S => ?_
  refine lx_nil (thenN ?_)
  refine wp_seq ?_
  refine cond_b S rfl (fun hc85 => ?_) (fun hc85 => ?_)
  ·have hm := ite_t hc85 hm
   refine wp_skip (thenN ?_)
   refine wp_seq ?_
   refine wp_block ?_
   refine wp_seq (region_plain ?_)
   refine lq (.int .i64 x54) S (q_move rfl) fun a S => ?_
   obtain ⟨x86, e87, hm⟩ := bind_some hm
   obtain ⟨c88, h89, hat90⟩ := (h0).elem (idx_some e87).2
   obtain rfl := h89
   have hlt := lt_of_idx (idx_some e87).2
   refine lq (ePtr p0 (x54.toNat * 1)) S (q_indexAddr rfl (h0).isSl rfl (idx_some e87).1 hlt Tryd.underlying48 Tryd.sizeOf2) fun a S => ?_
   refine lx_e (.int .i64 x86) S trivial (by decide) rfl trivial (q_load1 rfl Tryd.isAgg2 (by rintro _ rfl; exact ((hat90 0 _ rfl).ext H.ext))) (fun a S => ?_)
   refine lq (.int .i64 x54) S (q_assign rfl) fun a S => ?_
   refine lq (.int .i64 x86) S (q_assign rfl) fun a S => ?_
   refine lx_nil (thenN ?_)
   refine region_plain ?_
   refine lq v34 S (q_move rfl) fun a S => ?_
   refine lq (.int .i64 x54) S (q_move rfl) fun a S => ?_
   refine lq (.int .i64 x86) S (q_move rfl) fun a S => ?_
   obtain ⟨x93, e94, hm⟩ := bind_some hm
   refine lx_call (xs := [.tmp 20]) S trivial (by decide) rfl rfl Tryd.call69 ((impl_Decimal_ok (hG.ext H.ext)  e94).mono ?_)
   rintro e w91 ⟨rfl, Hc92⟩
   have H := H.call0 Hc92
   refine ⟨_, rfl, trivial, fun a S => ?_⟩
   obtain ⟨x96, e97, hm⟩ := bind_some hm
   have hlt := lt_of_idx (idx_some e97).2
   refine lq (ePtr v34 (x54.toNat * 1)) S (q_indexAddr rfl (H.isSl 0 rfl) rfl (idx_some e97).1 hlt Tryd.underlying47 Tryd.sizeOf9) fun a S => ?_
   refine lx_storeElem (r := rStr) (us := [(sv x93)]) (off := 0) (e' := x93) S trivial rfl H.putE (ev_zero rfl) rfl (idx_some e97).2 rfl Tryd.sizeOf9 (Nat.le_of_ble_eq_true rfl) (List.forall_mem_cons.2 ⟨rfl, (fun _ h => nomatch h)⟩) (Upd.full rfl (fun w G hG => by cases (show G = [] from hG); exact ⟨rfl, rfl⟩)) (fun w98 H => ⟨trivial, fun a S => ?_⟩)
   refine lx_nil ?_
   refine inBlock_norm ?_
   refine thenN ?_
   refine region_plain ?_
   refine lq (.int .i64 (W (x54 + (1 : Int)))) S (q_add rfl rfl) fun a S => ?_
   refine lq (.int .i64 (W (x54 + (1 : Int)))) S (q_move rfl) fun a S => ?_
   refine lx_nil ?_
   exact ⟨m82, Nat.lt_succ_self _, (xs53.set x54.toNat x93), (W (x54 + (1 : Int))), S.sub ⟨rfl, rfl, rfl, rfl, rfl, trivial⟩, H, it_cont hm hc84⟩
  ·have hm := ite_f hc85 hm
   refine wp_exit ?_
   refine then_exit ?_
   refine then_exit ?_
   refine inBlock_exit ?_
   obtain rfl := it_brk hm hc84
   exact ⟨xs53, S.sub ⟨rfl, rfl, trivial⟩, H, rfl⟩

/-- impl.ListText -/
def impl_ListText_m (fuel : Nat) (a0 : (List Int)) : Option (Str) :=
  (impl_listOk_m fuel a0).bind fun x33 => (if (!x33) = true then some (([] : Str)) else (if ((a0.length : Int) == (0 : Int)) = true then some (([45] : Str)) else (impl_joined_m fuel a0 ([44] : Str)).bind fun x40 => some (x40)))
set_option maxRecDepth 20000 in
theorem impl_ListText_ok {w0 : World} {fuel : Nat} {p0 : Value} {a0 : (List Int)} {r : Str} (hG : Glob Tryd.prog w0) (h0 : Rd (rList (rInt .i64)) w0 p0 a0) (hm : impl_ListText_m fuel a0 = some r) :
  Calls Tryd.prog 27 #[p0] w0 fun e w => e = .returned (sv r) ∧ Heap w0 [] w := by
 unfold impl_ListText_m at hm
 have H := Heap.start w0
 refine enter (args := [p0]) Tryd.func27 rfl 13 rfl (Nat.le_of_ble_eq_true rfl) (fun a S => ?_)
 refine wp_seq (region_plain ?_)
 refine lq (sv ([] : Str)) S (q_assign rfl) fun a S => ?_
 refine lx_nil (thenN ?_)
 refine wp_seq ?_
 refine wp_block ?_
 refine wp_seq (region_plain ?_)
 refine lq p0 S (q_move rfl) fun a S => ?_
 obtain ⟨x33, e34, hm⟩ := bind_some hm
 refine lx_call (xs := [.tmp 4]) S trivial (by decide) rfl rfl Tryd.call50 ((impl_listOk_ok (H.arg h0) e34).mono ?_)
 rintro e w31 ⟨rfl, Hc32⟩
 have H := H.call0 Hc32
 refine ⟨_, rfl, trivial, fun a S => ?_⟩
 refine lq (.bool (!x33)) S (q_not rfl) fun a S => ?_
 refine lq (.bool (!x33)) S (q_assign rfl) fun a S => ?_
 refine lx_nil (thenN ?_)
 refine cond_b S rfl (fun hc36 => ?_) (fun hc36 => ?_)
 ·have hm := ite_t hc36 hm
  refine wp_seq (region_plain ?_)
  refine lq (sv ([] : Str)) S (q_assign rfl) fun a S => ?_
  refine lx_nil (thenN ?_)
  refine wp_ret (inBlock_ret ?_)
  refine then_ret ?_
  obtain rfl := Option.some.inj hm
  exact leave1 S rfl rfl ⟨rfl, H⟩
 ·have hm := ite_f hc36 hm
  refine wp_seq (region_plain ?_)
  refine lq p0 S (q_move rfl) fun a S => ?_
  refine lq (.int .i64 (a0.length : Int)) S (q_lenSl rfl (h0).isSl rfl Tryd.underlying48) fun a S => ?_
  refine lq (.bool ((a0.length : Int) == (0 : Int))) S (q_eql rfl rfl) fun a S => ?_
  refine lq (.bool ((a0.length : Int) == (0 : Int))) S (q_assign rfl) fun a S => ?_
  refine lx_nil (thenN ?_)
  refine cond_b S rfl (fun hc37 => ?_) (fun hc37 => ?_)
  ·have hm := ite_t hc37 hm
   refine wp_seq (region_plain ?_)
   refine lq (sv ([45] : Str)) S (q_assign rfl) fun a S => ?_
   refine lx_nil (thenN ?_)
   refine wp_ret (inBlock_ret ?_)
   refine then_ret ?_
   obtain rfl := Option.some.inj hm
   exact leave1 S rfl rfl ⟨rfl, H⟩
  ·have hm := ite_f hc37 hm
   refine wp_skip ?_
   refine inBlock_norm ?_
   refine thenN ?_
   refine wp_seq (region_plain ?_)
   refine lq p0 S (q_move rfl) fun a S => ?_
   obtain ⟨x40, e41, hm⟩ := bind_some hm
   refine lx_call (xs := [.tmp 11, .const (sv [44])]) S trivial (by decide) rfl rfl Tryd.call51 ((impl_joined_ok (hG.ext H.ext) (H.arg h0)  e41).mono ?_)
   rintro e w38 ⟨rfl, Hc39⟩
   have H := H.call0 Hc39
   refine ⟨_, rfl, trivial, fun a S => ?_⟩
   refine lq (sv x40) S (q_assign rfl) fun a S => ?_
   refine lx_nil (thenN ?_)
   refine wp_ret ?_
   obtain rfl := Option.some.inj hm
   exact leave1 S rfl rfl ⟨rfl, H⟩

/-- laws.eqInt64S -/
def laws_eqInt64S_m (fuel : Nat) (a0 : (List Int)) (a1 : (List Int)) : Option (Bool) :=
  (if ((a0.length : Int) != (a1.length : Int)) = true then some (false) else (iter (fun (s : (Int)) => (match s with | (x47) => (if (decide (x47 < (a0.length : Int))) = true then (idx a0 x47).bind fun x74 => (idx a1 x47).bind fun x79 => (if (x74 != x79) = true then some (.inr (.inr false)) else some (.inl ((W (x47 + (1 : Int)))))) else some (.inr (.inl ()))) : Option (((Int)) ⊕ ((Unit) ⊕ (Bool))))) fuel ((0 : Int))).bind fun res63 => ctl (β := Unit) (ρ := Bool) (τ := Bool) res63 (fun _ => some (true)) (fun q => some (q)))
set_option maxRecDepth 20000 in
theorem laws_eqInt64S_ok {w0 : World} {fuel : Nat} {p0 p1 : Value} {a0 : (List Int)} {a1 : (List Int)} {r : Bool} (h0 : Rd (rList (rInt .i64)) w0 p0 a0) (h1 : Rd (rList (rInt .i64)) w0 p1 a1) (hm : laws_eqInt64S_m fuel a0 a1 = some r) :
  Calls Tryd.prog 55 #[p0, p1] w0 fun e w => e = .returned (.bool r) ∧ Heap w0 [] w := by
 unfold laws_eqInt64S_m at hm
 have H := Heap.start w0
 refine enter (args := [p0, p1]) Tryd.func55 rfl 26 rfl (Nat.le_of_ble_eq_true rfl) (fun a S => ?_)
 refine wp_seq (region_plain ?_)
 refine lq (.bool false) S (q_assign rfl) fun a S => ?_
 refine lx_nil (thenN ?_)
 refine wp_seq (wp_seq (region_plain ?_))
 refine lq p0 S (q_move rfl) fun a S => ?_
 refine lq (.int .i64 (a0.length : Int)) S (q_lenSl rfl (h0).isSl rfl Tryd.underlying48) fun a S => ?_
 refine lq p1 S (q_move rfl) fun a S => ?_
 refine lq (.int .i64 (a1.length : Int)) S (q_lenSl rfl (h1).isSl rfl Tryd.underlying48) fun a S => ?_
 refine lq (.bool ((a0.length : Int) != (a1.length : Int))) S (q_neq rfl rfl) fun a S => ?_
 refine lx_nil (thenN ?_)
 refine cond_b S rfl (fun hc31 => ?_) (fun hc31 => ?_)
 ·have hm := ite_t hc31 hm
  refine wp_seq (region_plain ?_)
  refine lq (.bool false) S (q_assign rfl) fun a S => ?_
  refine lx_nil (thenN ?_)
  refine wp_ret (then_ret ?_)
  obtain rfl := Option.some.inj hm
  exact leave1 S rfl rfl ⟨rfl, H⟩
 ·have hm := ite_f hc31 hm
  refine wp_skip (thenN ?_)
  refine wp_seq (wp_seq (region_plain ?_))
  refine lq (.int .i64 (0 : Int)) S (q_assign rfl) fun a S => ?_
  refine lx_nil (thenN ?_)
  obtain ⟨res63, hit64, hk67⟩ := bind_some hm
  obtain ⟨f65, hf66, hit64⟩ := iter_name hit64
  refine block_loop (fun a w => Slots a 26 [] ∧ Heap w0 [] w ∧ res63 = .inl ()) ?_ ?_
  ·rintro a w ⟨S, H, rfl⟩
   have hm := ctl_inl hk67
   refine thenN ?_
   refine wp_seq (region_plain ?_)
   refine lq (.bool true) S (q_assign rfl) fun a S => ?_
   refine lx_nil (thenN ?_)
   refine wp_ret ?_
   obtain rfl := Option.some.inj hm
   exact leave1 S rfl rfl ⟨rfl, H⟩
  ·skip
   refine loop_ghost (fun n a w => ∃ (x47 : Int), Slots a 26 [(0, p0), (1, p1), (5, (.int .i64 x47))] ∧ Heap w0 [] w ∧ iter f65 n (x47) = some res63) _ ⟨(0 : Int), S.sub ⟨rfl, rfl, rfl, trivial⟩, H, hit64⟩ ?_
   rintro n a w ⟨x47, S, H, hit64⟩
   obtain ⟨m68, o69, rfl, hm, hc70⟩ := iter_step hit64
   rw [hf66] at hm
   refine wp_seq (wp_seq (region_plain ?_))
   refine lq (.int .i64 x47) S (q_move rfl) fun a S => ?_
   refine lq p0 S (q_move rfl) fun a S => ?_
   refine lq (.int .i64 (a0.length : Int)) S (q_lenSl rfl (h0).isSl rfl Tryd.underlying48) fun a S => ?_
   refine lq (.bool (decide (x47 < (a0.length : Int)))) S (q_lss rfl rfl) fun a S => ?_
   refine lx_nil (thenN ?_)
   refine cond_b S rfl (fun hc71 => ?_) (fun hc71 => ?_)
   ·have hm := ite_t hc71 hm
    refine wp_skip (thenN ?_)
    refine wp_seq ?_
    refine wp_block ?_
    refine wp_seq ?_
    refine region_drawG (fun w1 => Heap w0 [] w1) (fun i => [].contains i) mixed (by kernel_rfl) (fun w73 he72 => ?_)
    have H := H.later he72
    refine ⟨H.sel [] (by decide), ?_⟩
    refine lq p0 S (q_move rfl) fun a S => ?_
    refine lq (.int .i64 x47) S (q_move rfl) fun a S => ?_
    obtain ⟨x74, e75, hm⟩ := bind_some hm
    obtain ⟨c76, h77, hat78⟩ := (h0).elem (idx_some e75).2
    obtain rfl := h77
    have hlt := lt_of_idx (idx_some e75).2
    refine lq (ePtr p0 (x47.toNat * 1)) S (q_indexAddr rfl (h0).isSl rfl (idx_some e75).1 hlt Tryd.underlying48 Tryd.sizeOf2) fun a S => ?_
    refine lq (.int .i64 x74) S (q_load1 rfl Tryd.isAgg2 (fun w1 hC => ((hat78 0 _ rfl).ext hC.ext))) fun a S => ?_
    refine lq p1 S (q_move rfl) fun a S => ?_
    refine lq (.int .i64 x47) S (q_move rfl) fun a S => ?_
    obtain ⟨x79, e80, hm⟩ := bind_some hm
    obtain ⟨c81, h82, hat83⟩ := (h1).elem (idx_some e80).2
    obtain rfl := h82
    have hlt := lt_of_idx (idx_some e80).2
    refine lq (ePtr p1 (x47.toNat * 1)) S (q_indexAddr rfl (h1).isSl rfl (idx_some e80).1 hlt Tryd.underlying48 Tryd.sizeOf2) fun a S => ?_
    refine lq (.int .i64 x79) S (q_load1 rfl Tryd.isAgg2 (fun w1 hC => ((hat83 0 _ rfl).ext hC.ext))) fun a S => ?_
    refine lq (.bool (x74 != x79)) S (q_neq rfl rfl) fun a S => ?_
    refine lx_nil (thenN ?_)
    refine cond_b S rfl (fun hc84 => ?_) (fun hc84 => ?_)
    ·have hm := ite_t hc84 hm
     refine wp_seq (region_plain ?_)
     refine lq (.bool false) S (q_assign rfl) fun a S => ?_
     refine lx_nil (thenN ?_)
     refine wp_ret (inBlock_ret ?_)
     refine then_ret ?_
     refine then_ret ?_
     refine inBlock_ret ?_
     refine then_ret ?_
     refine then_ret ?_
     obtain rfl := it_brk hm hc70
     have hm := ctl_inr hk67
     obtain rfl := Option.some.inj hm
     exact leave1 S rfl rfl ⟨rfl, H⟩
    ·have hm := ite_f hc84 hm
     refine wp_skip ?_
     refine inBlock_norm ?_
     refine thenN ?_
     refine region_plain ?_
     refine lq (.int .i64 x47) S (q_move rfl) fun a S => ?_
     refine lq (.int .i64 (W (x47 + (1 : Int)))) S (q_add rfl rfl) fun a S => ?_
     refine lq (.int .i64 (W (x47 + (1 : Int)))) S (q_assign rfl) fun a S => ?_
     refine lx_nil ?_
     exact ⟨m68, Nat.lt_succ_self _, (W (x47 + (1 : Int))), S.sub ⟨rfl, rfl, rfl, trivial⟩, H, it_cont hm hc70⟩
   ·have hm := ite_f hc71 hm
    refine wp_exit ?_
    refine then_exit ?_
    refine then_exit ?_
    refine inBlock_exit ?_
    obtain rfl := it_brk hm hc70
    exact ⟨S.sub trivial, H, rfl⟩
end Go.Proofs.YtepcckhcocjgaaaDoor
