/- The models of some functions and their walks (printed by a program of this repo). -/
import Derived.Test.YtldmecdkdoipdaaGreatDoorF0
import Derived.Test.YtldmecdkdoipdaaGreatDoorF1
import Derived.Test.YtldmecdkdoipdaaGreatDoorFS
import Derived.Test.YtldmecdkdoipdaaGreatDoorGxT
import Derived.Test.YtldmecdkdoipdaaGreatDoorGxY
namespace Go.Proofs.YtldmecdkdoipdaaGreatDoor
open Go.RowKit Go.Gx

/-- spec.l01Values -/
def spec_l01Values_m (fuel : Nat) (a0 : Str) : Option (((List Int) × Bool)) :=
  (spec_l01Open_m fuel a0).bind fun x33 => (if (x33 == (a0.length : Int)) = true then (spec_l01Name_m fuel a0).bind fun x42 => some ((([] : List Int), x42)) else (sub a0 (0 : Int) x33).bind fun xs45 => (spec_l01Action_m fuel xs45).bind fun x49 => (if (!x49) = true then some true else (idx a0 (W ((a0.length : Int) - (1 : Int)))).bind fun b55 => some ((b55.toNat : Int) != (41 : Int))).bind fun t52 => (if t52 = true then some (([], false)) else (sub a0 (W (x33 + (1 : Int))) (W ((a0.length : Int) - (1 : Int)))).bind fun xs59 => (spec_l01Split_m fuel xs59 (44 : Int)).bind fun x63 => (iter (fun (s : (List Int) × (Int)) => (match s with | (xs104, x106) => (if (decide (x106 < (x63.length : Int))) = true then (idx x63 x106).bind fun x151 => (spec_l01Number_m fuel x151).bind fun x158 => (if (!x158.2) = true then some true else (spec_l00In_m fuel x158.1 (0 : Int) (63 : Int)).bind fun x166 => some (!x166)).bind fun t161 => (if t161 = true then some (.inr (.inr ([], false))) else (app xs104 [x158.1]).bind fun x174 => some (.inl (x174, (W (x106 + (1 : Int)))))) else some (.inr (.inl (xs104)))) : Option (((List Int) × (Int)) ⊕ (((List Int)) ⊕ (((List Int) × Bool)))))) fuel (([] : List Int), (0 : Int))).bind fun res142 => ctl (β := (List Int)) (ρ := ((List Int) × Bool)) (τ := ((List Int) × Bool)) res142 (fun (xs140) => some ((xs140, (decide ((xs140.length : Int) ≤ (2 : Int)))))) (fun q => some (q))))
set_option maxRecDepth 20000 in
theorem spec_l01Values_ok [dr : Dr] {w0 : World} {fuel : Nat} {a0 : Str} {r : ((List Int) × Bool)} (hm : spec_l01Values_m fuel a0 = some r) :
  Calls Tryz.prog 98 #[sv a0] w0 fun e w => ∃ (v0 : Value), e = .returned (.tuple #[v0, .bool r.2]) ∧ Heap w0 [oA (rList (rInt .i64)) v0 r.1] w := by
 unfold spec_l01Values_m at hm
 have H := Heap.start w0
 refine enter (args := [sv a0]) Tryz.func98 rfl 70 rfl (Nat.le_of_ble_eq_true rfl) (fun a S => ?_)
 refine wp_seq (region_plain ?_)
 refine lq (.slice none 0 0) S (q_assign rfl) fun a S => ?_
 refine lq (.bool false) S (q_assign rfl) fun a S => ?_
 refine lx_nil (thenN ?_)
 refine wp_seq (region_plain ?_)
 refine lq (sv a0) S (q_move rfl) fun a S => ?_
 obtain ⟨x33, e34, hm⟩ := bind_some hm
 refine lx_call (xs := [.tmp 10]) S trivial (by decide) rfl rfl Tryz.call62 ((spec_l01Open_ok  e34).mono ?_)
 rintro e w31 ⟨rfl, Hc32⟩
 have H := H.call0 Hc32
 refine ⟨_, rfl, trivial, fun a S => ?_⟩
 refine lq (.int .i64 x33) S (q_assign rfl) fun a S => ?_
 refine lx_nil (thenN ?_)
 refine wp_seq (wp_seq (region_plain ?_))
 refine lq (.int .i64 x33) S (q_move rfl) fun a S => ?_
 refine lq (sv a0) S (q_move rfl) fun a S => ?_
 refine lq (.int .i64 (a0.length : Int)) S (q_lenStr rfl rfl Tryz.underlying9) fun a S => ?_
 refine lq (.bool (x33 == (a0.length : Int))) S (q_eql rfl rfl) fun a S => ?_
 refine lx_nil (thenN ?_)
 refine cond_b S rfl (fun hc36 => ?_) (fun hc36 => ?_)
 ·have hm := ite_t hc36 hm
  refine wp_seq (region_plain ?_)
  refine lx_buildSlice0 (r := (rInt .i64)) S trivial (by decide) rfl H Tryz.underlying61 Tryz.sizeOf2 (fun v37 w38 H => ⟨trivial, fun a S => ?_⟩)
  refine lq (sv a0) S (q_move rfl) fun a S => ?_
  obtain ⟨x42, e43, hm⟩ := bind_some hm
  refine lx_call (xs := [.tmp 17]) S trivial (by decide) rfl rfl Tryz.call61 ((spec_l01Name_ok  e43).mono ?_)
  rintro e w40 ⟨rfl, Hc41⟩
  have H := H.call0 Hc41
  refine ⟨_, rfl, trivial, fun a S => ?_⟩
  refine lq v37 S (q_assign rfl) fun a S => ?_
  refine lq (.bool x42) S (q_assign rfl) fun a S => ?_
  refine lx_nil (thenN ?_)
  refine wp_ret (then_ret ?_)
  obtain rfl := Option.some.inj hm
  exact leave2 S rfl rfl rfl ⟨v37, rfl, H⟩
 ·have hm := ite_f hc36 hm
  refine wp_skip (thenN ?_)
  refine wp_seq (wp_seq (region_plain ?_))
  refine lq (sv a0) S (q_move rfl) fun a S => ?_
  refine lq (.int .i64 x33) S (q_move rfl) fun a S => ?_
  obtain ⟨xs45, e46, hm⟩ := bind_some hm
  obtain ⟨hsb, hse⟩ := sub_some e46
  replace hse := hse.symm
  subst hse
  refine lq (sv ((a0.take (x33).toNat).drop ((0 : Int)).toNat)) S (q_ssub (lo := none) (hi := (some (.tmp 20))) (l := (0 : Int)) (h := x33) rfl Tryz.underlying9 rfl rfl hsb.1 hsb.2.1 hsb.2.2) fun a S => ?_
  obtain ⟨x49, e50, hm⟩ := bind_some hm
  refine lx_call (xs := [.tmp 21]) S trivial (by decide) rfl rfl Tryz.call35 ((spec_l01Action_ok  e50).mono ?_)
  rintro e w47 ⟨rfl, Hc48⟩
  have H := H.call0 Hc48
  refine ⟨_, rfl, trivial, fun a S => ?_⟩
  refine lq (.bool (!x49)) S (q_not rfl) fun a S => ?_
  refine lq (.bool (!x49)) S (q_move rfl) fun a S => ?_
  obtain ⟨t52, e53, hm⟩ := bind_some hm
  refine lx_cut 7 (fun a w => Slots a 70 [(0, (sv a0)), (4, (.int .i64 x33)), (31, (.bool t52))] ∧ Heap w0 [] w) ?_ ?_
  ·by_cases hc54 : (!x49) = true
   ·have hm := ite_t hc54 e53
    refine lx_skip S rfl rfl (isB_ne hc54) (by decide) (fun a S => ?_)
    refine lx_skip S rfl rfl (isB_ne hc54) (by decide) (fun a S => ?_)
    refine lx_skip S rfl rfl (isB_ne hc54) (by decide) (fun a S => ?_)
    refine lx_skip S rfl rfl (isB_ne hc54) (by decide) (fun a S => ?_)
    refine lx_skip S rfl rfl (isB_ne hc54) (by decide) (fun a S => ?_)
    refine lx_skip S rfl rfl (isB_ne hc54) (by decide) (fun a S => ?_)
    refine lq (.bool true) S (q_pickT' rfl hc54 rfl) fun a S => ?_
    refine lx_nil ?_
    obtain rfl := Option.some.inj hm
    exact ⟨S.sub ⟨rfl, rfl, rfl, trivial⟩, H⟩
   ·have hm := ite_f (eq_false_of_ne_true hc54) e53
    have hc54 : (!x49) = false := eq_false_of_ne_true hc54
    refine lx_q (sv a0) S (want_b rfl rfl hc54) (by decide) (q_move rfl) (fun a S => ?_)
    refine lx_q (sv a0) S (want_b rfl rfl hc54) (by decide) (q_move rfl) (fun a S => ?_)
    refine lx_q (.int .i64 (a0.length : Int)) S (want_b rfl rfl hc54) (by decide) (q_lenStr rfl rfl Tryz.underlying9) (fun a S => ?_)
    refine lx_q (.int .i64 (W ((a0.length : Int) - (1 : Int)))) S (want_b rfl rfl hc54) (by decide) (q_sub rfl rfl) (fun a S => ?_)
    obtain ⟨b55, e56, hm⟩ := bind_some hm
    refine lx_q (.int .u8 (b55.toNat : Int)) S (want_b rfl rfl hc54) (by decide) (q_sidx rfl rfl Tryz.underlying9 e56) (fun a S => ?_)
    refine lx_q (.bool ((b55.toNat : Int) != (41 : Int))) S (want_b rfl rfl hc54) (by decide) (q_neq rfl rfl) (fun a S => ?_)
    refine lq (.bool ((b55.toNat : Int) != (41 : Int))) S (q_pickF' rfl hc54 rfl) fun a S => ?_
    refine lx_nil ?_
    obtain rfl := Option.some.inj hm
    exact ⟨S.sub ⟨rfl, rfl, rfl, trivial⟩, H⟩
  ·rintro a w ⟨S, H⟩
   refine lx_nil (thenN ?_)
   refine cond_b S rfl (fun hc57 => ?_) (fun hc57 => ?_)
   ·have hm := ite_t hc57 hm
    refine wp_seq (region_plain ?_)
    refine lq (.slice none 0 0) S (q_assign rfl) fun a S => ?_
    refine lq (.bool false) S (q_assign rfl) fun a S => ?_
    refine lx_nil (thenN ?_)
    refine wp_ret (then_ret ?_)
    obtain rfl := Option.some.inj hm
    have H : Heap w0 [oA (rList (rInt .i64)) (.slice none 0 0) ([] : List Int)] w := H.nilList (rInt .i64)
    exact leave2 S rfl rfl rfl ⟨(.slice none 0 0), rfl, H⟩
   ·have hm := ite_f hc57 hm
    refine wp_skip (thenN ?_)
    refine wp_seq (region_plain ?_)
    refine lq (sv a0) S (q_move rfl) fun a S => ?_
    refine lq (.int .i64 x33) S (q_move rfl) fun a S => ?_
    refine lq (.int .i64 (W (x33 + (1 : Int)))) S (q_add rfl rfl) fun a S => ?_
    refine lq (sv a0) S (q_move rfl) fun a S => ?_
    refine lq (.int .i64 (a0.length : Int)) S (q_lenStr rfl rfl Tryz.underlying9) fun a S => ?_
    refine lq (.int .i64 (W ((a0.length : Int) - (1 : Int)))) S (q_sub rfl rfl) fun a S => ?_
    obtain ⟨xs59, e60, hm⟩ := bind_some hm
    obtain ⟨hsb, hse⟩ := sub_some e60
    replace hse := hse.symm
    subst hse
    refine lq (sv ((a0.take ((W ((a0.length : Int) - (1 : Int)))).toNat).drop ((W (x33 + (1 : Int)))).toNat)) S (q_ssub (lo := (some (.tmp 34))) (hi := (some (.tmp 37))) (l := (W (x33 + (1 : Int)))) (h := (W ((a0.length : Int) - (1 : Int)))) rfl Tryz.underlying9 rfl rfl hsb.1 hsb.2.1 hsb.2.2) fun a S => ?_
    obtain ⟨x63, e64, hm⟩ := bind_some hm
    refine lx_call (xs := [.tmp 38, .const (.int .u8 (44))]) S trivial (by decide) rfl rfl Tryz.call121 ((spec_l01Split_ok   e64).mono ?_)
    rintro e w61 ⟨v65, rfl, Hc62⟩
    have H := H.call1 Hc62
    refine ⟨_, rfl, trivial, fun a S => ?_⟩
    refine lq v65 S (q_assign rfl) fun a S => ?_
    refine lx_nil (thenN ?_)
    refine wp_seq (region_plain ?_)
    refine lx_buildSlice0 (r := (rInt .i64)) S trivial (by decide) rfl H Tryz.underlying61 Tryz.sizeOf2 (fun v68 w69 H => ⟨trivial, fun a S => ?_⟩)
    refine lq v68 S (q_assign rfl) fun a S => ?_
    refine lx_nil (thenN ?_)
    refine wp_seq (wp_seq (region_plain ?_))
    refine lq (.int .i64 (0 : Int)) S (q_assign rfl) fun a S => ?_
    refine lx_nil (thenN ?_)
    obtain ⟨res142, hit143, hk146⟩ := bind_some hm
    obtain ⟨f144, hf145, hit143⟩ := iter_name hit143
    refine block_loop (fun a w => ∃ (xs140 : List Int) (v139 : Value), Slots a 70 [(6, v139)] ∧ Heap w0 [oA (rList (rInt .i64)) v139 xs140] w ∧ res142 = .inl (xs140)) ?_ ?_
    ·rintro a w ⟨xs140, v139, S, H, rfl⟩
     have hm := ctl_inl hk146
     refine thenN ?_
     refine wp_seq (region_plain ?_)
     refine lq v139 S (q_move rfl) fun a S => ?_
     refine lq v139 S (q_move rfl) fun a S => ?_
     refine lq (.int .i64 (xs140.length : Int)) S (q_lenSl rfl (H.isSl 0 rfl) rfl Tryz.underlying61) fun a S => ?_
     refine lq (.bool (decide ((xs140.length : Int) ≤ (2 : Int)))) S (q_leq rfl rfl) fun a S => ?_
     refine lq v139 S (q_assign rfl) fun a S => ?_
     refine lq (.bool (decide ((xs140.length : Int) ≤ (2 : Int)))) S (q_assign rfl) fun a S => ?_
     refine lx_nil (thenN ?_)
     refine wp_ret ?_
     obtain rfl := Option.some.inj hm
     exact leave2 S rfl rfl rfl ⟨v139, rfl, H⟩
    ·skip
     have H : Heap w0 [oA (rList rStr) v65 x63, oA (rList (rInt .i64)) v68 ([] : List Int)] w69 := H.front 1 rfl
     refine loop_ghost (fun n a w => ∃ (xs104 : List Int) (x106 : Int) (v103 : Value), Slots a 70 [(5, v65), (6, v103), (7, (.int .i64 x106))] ∧ Heap w0 [oA (rList rStr) v65 x63, oA (rList (rInt .i64)) v103 xs104] w ∧ iter f144 n (xs104, x106) = some res142) _ ⟨([] : List Int), (0 : Int), v68, S.sub ⟨rfl, rfl, rfl, trivial⟩, H, hit143⟩ ?_
     rintro n a w ⟨xs104, x106, v103, S, H, hit143⟩
     obtain ⟨m147, o148, rfl, hm, hc149⟩ := iter_step hit143
     rw [hf145] at hm
     refine wp_seq (wp_seq (region_plain ?_))
     refine lq (.int .i64 x106) S (q_move rfl) fun a S => ?_
     refine lq v65 S (q_move rfl) fun a S => ?_
     refine lq (.int .i64 (x63.length : Int)) S (q_lenSl rfl (H.isSl 0 rfl) rfl Tryz.underlying22) fun a S => ?_
     refine lq (.bool (decide (x106 < (x63.length : Int)))) S (q_lss rfl rfl) fun a S => ?_
     refine lx_nil (thenN ?_)
     refine cond_b S rfl (fun hc150 => ?_) (fun hc150 => ?_)
     ·have hm := ite_t hc150 hm
      refine wp_skip (thenN ?_)
      refine wp_seq ?_
      refine wp_block ?_
      refine wp_seq (region_plain ?_)
      refine lq v65 S (q_move rfl) fun a S => ?_
      refine lq (.int .i64 x106) S (q_move rfl) fun a S => ?_
      obtain ⟨x151, e152, hm⟩ := bind_some hm
      have hlt := lt_of_idx (idx_some e152).2
      refine lq (ePtr v65 (x106.toNat * 1)) S (q_indexAddr rfl (H.isSl 0 rfl) rfl (idx_some e152).1 hlt Tryz.underlying22 Tryz.sizeOf9) fun a S => ?_
      obtain ⟨c153, h154, hat155⟩ := (H.rdAt 0 rfl).elem (idx_some e152).2
      obtain rfl := h154
      refine lx_e (sv x151) S trivial (by decide) rfl trivial (q_load1 rfl Tryz.isAgg9 (by rintro _ rfl; exact (hat155 0 _ rfl))) (fun a S => ?_)
      obtain ⟨x158, e159, hm⟩ := bind_some hm
      refine lx_call (xs := [.tmp 51]) S trivial (by decide) rfl rfl Tryz.call122 ((spec_l01Number_ok  e159).mono ?_)
      rintro e w156 ⟨rfl, Hc157⟩
      have H := H.call0 Hc157
      refine ⟨_, rfl, trivial, fun a S => ?_⟩
      refine lq (.tuple #[(.int .i64 x158.1), (.bool x158.2)]) S (q_move rfl) fun a S => ?_
      refine lq (.int .i64 x158.1) S (q_extract rfl rfl) fun a S => ?_
      refine lq (.bool x158.2) S (q_extract rfl rfl) fun a S => ?_
      refine lq (.int .i64 x158.1) S (q_assign rfl) fun a S => ?_
      refine lq (.bool x158.2) S (q_assign rfl) fun a S => ?_
      refine lx_nil (thenN ?_)
      refine wp_seq (wp_seq (region_plain ?_))
      refine lq (.bool x158.2) S (q_move rfl) fun a S => ?_
      refine lq (.bool (!x158.2)) S (q_not rfl) fun a S => ?_
      refine lq (.bool (!x158.2)) S (q_move rfl) fun a S => ?_
      obtain ⟨t161, e162, hm⟩ := bind_some hm
      refine lx_cut 4 (fun a w => Slots a 70 [(5, v65), (6, v103), (7, (.int .i64 x106)), (8, (.int .i64 x158.1)), (61, (.bool t161))] ∧ Heap w0 [oA (rList rStr) v65 x63, oA (rList (rInt .i64)) v103 xs104] w) ?_ ?_
      ·by_cases hc163 : (!x158.2) = true
       ·have hm := ite_t hc163 e162
        refine lx_skip S rfl rfl (isB_ne hc163) (by decide) (fun a S => ?_)
        refine lx_skip S rfl rfl (isB_ne hc163) (by decide) (fun a S => ?_)
        refine lx_skip S rfl rfl (isB_ne hc163) (by decide) (fun a S => ?_)
        refine lq (.bool true) S (q_pickT' rfl hc163 rfl) fun a S => ?_
        refine lx_nil ?_
        obtain rfl := Option.some.inj hm
        exact ⟨S.sub ⟨rfl, rfl, rfl, rfl, rfl, trivial⟩, H⟩
       ·have hm := ite_f (eq_false_of_ne_true hc163) e162
        have hc163 : (!x158.2) = false := eq_false_of_ne_true hc163
        refine lx_q (.int .i64 x158.1) S (want_b rfl rfl hc163) (by decide) (q_move rfl) (fun a S => ?_)
        obtain ⟨x166, e167, hm⟩ := bind_some hm
        refine lx_call (xs := [.tmp 58, .const (.int .i64 (0)), .const (.int .i64 (63))]) S (want_b rfl rfl hc163) (by decide) rfl rfl Tryz.call43 ((spec_l00In_ok    e167).mono ?_)
        rintro e w164 ⟨rfl, Hc165⟩
        have H := H.call0 Hc165
        refine ⟨_, rfl, trivial, fun a S => ?_⟩
        refine lx_q (.bool (!x166)) S (want_b rfl rfl hc163) (by decide) (q_not rfl) (fun a S => ?_)
        refine lq (.bool (!x166)) S (q_pickF' rfl hc163 rfl) fun a S => ?_
        refine lx_nil ?_
        obtain rfl := Option.some.inj hm
        exact ⟨S.sub ⟨rfl, rfl, rfl, rfl, rfl, trivial⟩, H⟩
      ·rintro a w ⟨S, H⟩
       refine lx_nil (thenN ?_)
       refine cond_b S rfl (fun hc169 => ?_) (fun hc169 => ?_)
       ·have hm := ite_t hc169 hm
        refine wp_seq (region_plain ?_)
        refine lq (.slice none 0 0) S (q_assign rfl) fun a S => ?_
        refine lq (.bool false) S (q_assign rfl) fun a S => ?_
        refine lx_nil (thenN ?_)
        refine wp_ret (then_ret ?_)
        refine inBlock_ret ?_
        refine then_ret ?_
        refine then_ret ?_
        refine inBlock_ret ?_
        refine then_ret ?_
        refine then_ret ?_
        obtain rfl := it_brk hm hc149
        have hm := ctl_inr hk146
        obtain rfl := Option.some.inj hm
        have H : Heap w0 [oA (rList (rInt .i64)) (.slice none 0 0) ([] : List Int), oA (rList rStr) v65 x63, oA (rList (rInt .i64)) v103 xs104] w := H.nilList (rInt .i64)
        have H : Heap w0 [oA (rList (rInt .i64)) (.slice none 0 0) ([] : List Int)] w := H.sel [0] (by decide)
        exact leave2 S rfl rfl rfl ⟨(.slice none 0 0), rfl, H⟩
       ·have hm := ite_f hc169 hm
        refine wp_skip (thenN ?_)
        refine region_plain ?_
        refine lq v103 S (q_move rfl) fun a S => ?_
        refine lq (.int .i64 x158.1) S (q_move rfl) fun a S => ?_
        refine lx_buildSlice (r := (rInt .i64)) (xs := [x158.1]) (ps := [(0, [(.int .i64 x158.1)])]) (cs := [(.int .i64 x158.1)]) (parts := [(0, .tmp 63)]) S trivial (by decide) rfl (H.put0 (A := eA) rfl) rfl Tryz.underlying61 Tryz.sizeOf2 Tryz.zeroValue2 (by decide) ⟨rfl, rfl, Nat.le_of_ble_eq_true rfl, trivial⟩ (by intro zs hz; exact fill_dense hz ⟨rfl, trivial⟩ rfl rfl) rfl (by decide) (fun w F hA => by cases (show F = [] from hA); exact ⟨_, _, [(.int .i64 x158.1)], _, rfl, rfl, ⟨rfl, rfl⟩, ⟨rfl, rfl⟩⟩) (fun v171 w172 H => ⟨trivial, fun a S => ?_⟩)
        obtain ⟨x174, e175, hm⟩ := bind_some hm
        obtain ⟨hle, hap⟩ := app_some e175
        replace hap := hap.symm
        subst hap
        have H : Heap w0 [oA (rList (rInt .i64)) v171 [x158.1], oA (rList rStr) v65 x63, oA (rList (rInt .i64)) v103 xs104] w172 := H.front 0 rfl
        have H : Heap w0 [oA (rList (rInt .i64)) v103 xs104, oA (rList (rInt .i64)) v171 [x158.1], oA (rList rStr) v65 x63] w172 := H.front 2 rfl
        refine lx_appendOwn (r := (rInt .i64)) S trivial (by decide) rfl H rfl rfl Tryz.underlying61 Tryz.ti2 rfl rfl rfl (Nat.le_of_ble_eq_true rfl) (by decide) hle (fun v176 w177 H => ⟨trivial, fun a S => ?_⟩)
        refine lq v176 S (q_assign rfl) fun a S => ?_
        refine lx_nil ?_
        refine inBlock_norm ?_
        refine thenN ?_
        refine region_plain ?_
        refine lq (.int .i64 x106) S (q_move rfl) fun a S => ?_
        refine lq (.int .i64 (W (x106 + (1 : Int)))) S (q_add rfl rfl) fun a S => ?_
        refine lq (.int .i64 (W (x106 + (1 : Int)))) S (q_assign rfl) fun a S => ?_
        refine lx_nil ?_
        have H : Heap w0 [oA (rList rStr) v65 x63, oA (rList (rInt .i64)) v176 (xs104 ++ [x158.1])] w177 := H.front 1 rfl
        exact ⟨m147, Nat.lt_succ_self _, (xs104 ++ [x158.1]), (W (x106 + (1 : Int))), v176, S.sub ⟨rfl, rfl, rfl, trivial⟩, H, it_cont hm hc149⟩
     ·have hm := ite_f hc150 hm
      refine wp_exit ?_
      refine then_exit ?_
      refine then_exit ?_
      refine inBlock_exit ?_
      obtain rfl := it_brk hm hc149
      have H : Heap w0 [oA (rList (rInt .i64)) v103 xs104] w := H.sel [1] (by decide)
      exact ⟨xs104, v103, S.sub ⟨rfl, trivial⟩, H, rfl⟩

/-- spec.l01Label -/
def spec_l01Label_m (fuel : Nat) (a0 : Str) : Option (Bool) :=
  (spec_l01Values_m fuel a0).bind fun x33 => some (x33.2)
set_option maxRecDepth 20000 in
theorem spec_l01Label_ok [dr : Dr] {w0 : World} {fuel : Nat} {a0 : Str} {r : Bool} (hm : spec_l01Label_m fuel a0 = some r) :
  Calls Tryz.prog 72 #[sv a0] w0 fun e w => e = .returned (.bool r) ∧ Heap w0 [] w := by
 unfold spec_l01Label_m at hm
 have H := Heap.start w0
 refine enter (args := [sv a0]) Tryz.func72 rfl 11 rfl (Nat.le_of_ble_eq_true rfl) (fun a S => ?_)
 refine wp_seq (region_plain ?_)
 refine lq (.bool false) S (q_assign rfl) fun a S => ?_
 refine lx_nil (thenN ?_)
 refine wp_seq (region_plain ?_)
 refine lq (sv a0) S (q_move rfl) fun a S => ?_
 obtain ⟨x33, e34, hm⟩ := bind_some hm
 refine lx_call (xs := [.tmp 6]) S trivial (by decide) rfl rfl Tryz.call98 ((spec_l01Values_ok  e34).mono ?_)
 rintro e w31 ⟨v35, rfl, Hc32⟩
 have H := H.call1 Hc32
 refine ⟨_, rfl, trivial, fun a S => ?_⟩
 refine lq (.tuple #[v35, (.bool x33.2)]) S (q_move rfl) fun a S => ?_
 refine lq v35 S (q_extract rfl rfl) fun a S => ?_
 refine lq (.bool x33.2) S (q_extract rfl rfl) fun a S => ?_
 refine lq v35 S (q_assign rfl) fun a S => ?_
 refine lq (.bool x33.2) S (q_assign rfl) fun a S => ?_
 refine lx_nil (thenN ?_)
 refine wp_seq (region_plain ?_)
 refine lq (.bool x33.2) S (q_move rfl) fun a S => ?_
 refine lq (.bool x33.2) S (q_assign rfl) fun a S => ?_
 refine lx_nil (thenN ?_)
 refine wp_ret ?_
 obtain rfl := Option.some.inj hm
 have H : Heap w0 [] w31 := H.sel [] (by decide)
 exact leave1 S rfl rfl ⟨rfl, H⟩

/-- spec.l11Names -/
def spec_l11Names_m (fuel : Nat) (a0 : (List Str)) : Option (Bool) :=
  (if ((a0.length : Int) == (0 : Int)) = true then some true else some (decide ((12 : Int) < (a0.length : Int)))).bind fun t31 => (if t31 = true then some true else (idx a0 (0 : Int)).bind fun x37 => some (x37 != ([116, 97, 117] : Str))).bind fun t34 => (if t34 = true then some (false) else (iter (fun (s : (Int)) => (match s with | (x82) => (if (decide (x82 < (a0.length : Int))) = true then (idx a0 x82).bind fun x133 => (spec_l01Label_m fuel x133).bind fun x140 => (if (!x140) = true then some true else (idx a0 x82).bind fun x146 => some (x146 == ([116, 97, 117] : Str))).bind fun t143 => (if t143 = true then some true else (if (decide ((1 : Int) < x82)) = true then (idx a0 (W (x82 - (1 : Int)))).bind fun x157 => (idx a0 x82).bind fun x162 => some (!Op.bytesLess x157 x162) else some false).bind fun t154 => some t154).bind fun t151 => (if t151 = true then some (.inr (.inr false)) else some (.inl ((W (x82 + (1 : Int)))))) else some (.inr (.inl ()))) : Option (((Int)) ⊕ ((Unit) ⊕ (Bool))))) fuel ((1 : Int))).bind fun res122 => ctl (β := Unit) (ρ := Bool) (τ := Bool) res122 (fun _ => some (true)) (fun q => some (q)))
set_option maxRecDepth 20000 in
theorem spec_l11Names_ok [dr : Dr] {w0 : World} {fuel : Nat} {p0 : Value} {a0 : (List Str)} {r : Bool} (h0 : Rd (rList rStr) w0 p0 a0) (hm : spec_l11Names_m fuel a0 = some r) :
  Calls Tryz.prog 44 #[p0] w0 fun e w => e = .returned (.bool r) ∧ Heap w0 [] w := by
 unfold spec_l11Names_m at hm
 have H := Heap.start w0
 refine enter (args := [p0]) Tryz.func44 rfl 53 rfl (Nat.le_of_ble_eq_true rfl) (fun a S => ?_)
 refine wp_seq (region_plain ?_)
 refine lq (.bool false) S (q_assign rfl) fun a S => ?_
 refine lx_nil (thenN ?_)
 refine wp_seq (wp_seq (region_plain ?_))
 refine lq p0 S (q_move rfl) fun a S => ?_
 refine lq (.int .i64 (a0.length : Int)) S (q_lenSl rfl (h0).isSl rfl Tryz.underlying22) fun a S => ?_
 refine lq (.bool ((a0.length : Int) == (0 : Int))) S (q_eql rfl rfl) fun a S => ?_
 refine lq (.bool ((a0.length : Int) == (0 : Int))) S (q_move rfl) fun a S => ?_
 obtain ⟨t31, e32, hm⟩ := bind_some hm
 refine lx_cut 4 (fun a w => Slots a 53 [(0, p0), (11, (.bool t31))] ∧ Heap w0 [] w) ?_ ?_
 ·by_cases hc33 : ((a0.length : Int) == (0 : Int)) = true
  ·have hm := ite_t hc33 e32
   refine lx_skip S rfl rfl (isB_ne hc33) (by decide) (fun a S => ?_)
   refine lx_skip S rfl rfl (isB_ne hc33) (by decide) (fun a S => ?_)
   refine lx_skip S rfl rfl (isB_ne hc33) (by decide) (fun a S => ?_)
   refine lq (.bool true) S (q_pickT' rfl hc33 rfl) fun a S => ?_
   refine lx_nil ?_
   obtain rfl := Option.some.inj hm
   exact ⟨S.sub ⟨rfl, rfl, trivial⟩, H⟩
  ·have hm := ite_f (eq_false_of_ne_true hc33) e32
   have hc33 : ((a0.length : Int) == (0 : Int)) = false := eq_false_of_ne_true hc33
   refine lx_q p0 S (want_b rfl rfl hc33) (by decide) (q_move rfl) (fun a S => ?_)
   refine lx_q (.int .i64 (a0.length : Int)) S (want_b rfl rfl hc33) (by decide) (q_lenSl rfl (h0).isSl rfl Tryz.underlying22) (fun a S => ?_)
   refine lx_q (.bool (decide ((12 : Int) < (a0.length : Int)))) S (want_b rfl rfl hc33) (by decide) (q_gtr rfl rfl) (fun a S => ?_)
   refine lq (.bool (decide ((12 : Int) < (a0.length : Int)))) S (q_pickF' rfl hc33 rfl) fun a S => ?_
   refine lx_nil ?_
   obtain rfl := Option.some.inj hm
   exact ⟨S.sub ⟨rfl, rfl, trivial⟩, H⟩
 ·rintro a w ⟨S, H⟩
  refine lq (.bool t31) S (q_move rfl) fun a S => ?_
  obtain ⟨t34, e35, hm⟩ := bind_some hm
  refine lx_cut 5 (fun a w => Slots a 53 [(0, p0), (17, (.bool t34))] ∧ Heap w0 [] w) ?_ ?_
  ·by_cases hc36 : t31 = true
   ·have hm := ite_t hc36 e35
    refine lx_skip S rfl rfl (isB_ne hc36) (by decide) (fun a S => ?_)
    refine lx_skip S rfl rfl (isB_ne hc36) (by decide) (fun a S => ?_)
    refine lx_skip S rfl rfl (isB_ne hc36) (by decide) (fun a S => ?_)
    refine lx_skip S rfl rfl (isB_ne hc36) (by decide) (fun a S => ?_)
    refine lq (.bool true) S (q_pickT' rfl hc36 rfl) fun a S => ?_
    refine lx_nil ?_
    obtain rfl := Option.some.inj hm
    exact ⟨S.sub ⟨rfl, rfl, trivial⟩, H⟩
   ·have hm := ite_f (eq_false_of_ne_true hc36) e35
    have hc36 : t31 = false := eq_false_of_ne_true hc36
    refine lx_q p0 S (want_b rfl rfl hc36) (by decide) (q_move rfl) (fun a S => ?_)
    obtain ⟨x37, e38, hm⟩ := bind_some hm
    obtain ⟨c39, h40, hat41⟩ := (h0).elem (idx_some e38).2
    obtain rfl := h40
    have hlt := lt_of_idx (idx_some e38).2
    refine lx_q (ePtr p0 ((0 : Int).toNat * 1)) S (want_b rfl rfl hc36) (by decide) (q_indexAddr rfl (h0).isSl rfl (idx_some e38).1 hlt Tryz.underlying22 Tryz.sizeOf9) (fun a S => ?_)
    refine lx_e (sv x37) S (want_b rfl rfl hc36) (by decide) rfl trivial (q_load1 rfl Tryz.isAgg9 (by rintro _ rfl; exact ((hat41 0 _ rfl).ext H.ext))) (fun a S => ?_)
    refine lx_q (.bool (x37 != ([116, 97, 117] : Str))) S (want_b rfl rfl hc36) (by decide) (q_sneq rfl rfl) (fun a S => ?_)
    refine lq (.bool (x37 != ([116, 97, 117] : Str))) S (q_pickF' rfl hc36 rfl) fun a S => ?_
    refine lx_nil ?_
    obtain rfl := Option.some.inj hm
    exact ⟨S.sub ⟨rfl, rfl, trivial⟩, H⟩
  ·rintro a w ⟨S, H⟩
   refine lx_nil (thenN ?_)
   refine cond_b S rfl (fun hc42 => ?_) (fun hc42 => ?_)
   ·have hm := ite_t hc42 hm
    refine wp_seq (region_plain ?_)
    refine lq (.bool false) S (q_assign rfl) fun a S => ?_
    refine lx_nil (thenN ?_)
    refine wp_ret (then_ret ?_)
    obtain rfl := Option.some.inj hm
    exact leave1 S rfl rfl ⟨rfl, H⟩
   ·have hm := ite_f hc42 hm
    refine wp_skip (thenN ?_)
    refine wp_seq (wp_seq (region_plain ?_))
    refine lq (.int .i64 (1 : Int)) S (q_assign rfl) fun a S => ?_
    refine lx_nil (thenN ?_)
    obtain ⟨res122, hit123, hk126⟩ := bind_some hm
    obtain ⟨f124, hf125, hit123⟩ := iter_name hit123
    refine block_loop (fun a w => Slots a 53 [] ∧ Heap w0 [] w ∧ res122 = .inl ()) ?_ ?_
    ·rintro a w ⟨S, H, rfl⟩
     have hm := ctl_inl hk126
     refine thenN ?_
     refine wp_seq (region_plain ?_)
     refine lq (.bool true) S (q_assign rfl) fun a S => ?_
     refine lx_nil (thenN ?_)
     refine wp_ret ?_
     obtain rfl := Option.some.inj hm
     exact leave1 S rfl rfl ⟨rfl, H⟩
    ·skip
     refine loop_ghost (fun n a w => ∃ (x82 : Int), Slots a 53 [(0, p0), (3, (.int .i64 x82))] ∧ Heap w0 [] w ∧ iter f124 n (x82) = some res122) _ ⟨(1 : Int), S.sub ⟨rfl, rfl, trivial⟩, H, hit123⟩ ?_
     rintro n a w ⟨x82, S, H, hit123⟩
     obtain ⟨m127, o128, rfl, hm, hc129⟩ := iter_step hit123
     rw [hf125] at hm
     refine wp_seq (wp_seq (region_plain ?_))
     refine lq (.int .i64 x82) S (q_move rfl) fun a S => ?_
     refine lq p0 S (q_move rfl) fun a S => ?_
     refine lq (.int .i64 (a0.length : Int)) S (q_lenSl rfl (h0).isSl rfl Tryz.underlying22) fun a S => ?_
     refine lq (.bool (decide (x82 < (a0.length : Int)))) S (q_lss rfl rfl) fun a S => ?_
     refine lx_nil (thenN ?_)
     refine cond_b S rfl (fun hc130 => ?_) (fun hc130 => ?_)
     ·have hm := ite_t hc130 hm
      refine wp_skip (thenN ?_)
      refine wp_seq ?_
      refine wp_block ?_
      refine wp_seq ?_
      refine region_drawG (fun w1 => Heap w0 [] w1) (fun i => [4].contains i) mixed (by kernel_rfl) (fun w132 he131 => ?_)
      have H := H.later he131
      refine ⟨H.sel [] (by decide), ?_⟩
      refine lq p0 S (q_move rfl) fun a S => ?_
      refine lq (.int .i64 x82) S (q_move rfl) fun a S => ?_
      obtain ⟨x133, e134, hm⟩ := bind_some hm
      obtain ⟨c135, h136, hat137⟩ := (h0).elem (idx_some e134).2
      obtain rfl := h136
      have hlt := lt_of_idx (idx_some e134).2
      refine lq (ePtr p0 (x82.toNat * 1)) S (q_indexAddr rfl (h0).isSl rfl (idx_some e134).1 hlt Tryz.underlying22 Tryz.sizeOf9) fun a S => ?_
      refine lq (sv x133) S (q_load1 rfl Tryz.isAgg9 (fun w1 hC => ((hat137 0 _ rfl).ext hC.ext))) fun a S => ?_
      obtain ⟨x140, e141, hm⟩ := bind_some hm
      refine lx_call (xs := [.tmp 27]) S trivial (by decide) rfl rfl Tryz.call72 ((spec_l01Label_ok  e141).mono ?_)
      rintro e w138 ⟨rfl, Hc139⟩
      have H := H.call0 Hc139
      refine ⟨_, rfl, H.sel [] (by decide), fun a S => ?_⟩
      refine lq (.bool (!x140)) S (q_not rfl) fun a S => ?_
      refine lq (.bool (!x140)) S (q_move rfl) fun a S => ?_
      obtain ⟨t143, e144, hm⟩ := bind_some hm
      refine lx_cut 6 (fun a w => Slots a 53 [(0, p0), (3, (.int .i64 x82)), (36, (.bool t143))] ∧ Heap w0 [] w) ?_ ?_
      ·by_cases hc145 : (!x140) = true
       ·have hm := ite_t hc145 e144
        refine lx_skip S rfl rfl (isB_ne hc145) (by decide) (fun a S => ?_)
        refine lx_skip S rfl rfl (isB_ne hc145) (by decide) (fun a S => ?_)
        refine lx_skip S rfl rfl (isB_ne hc145) (by decide) (fun a S => ?_)
        refine lx_skip S rfl rfl (isB_ne hc145) (by decide) (fun a S => ?_)
        refine lx_skip S rfl rfl (isB_ne hc145) (by decide) (fun a S => ?_)
        refine lq (.bool true) S (q_pickT' rfl hc145 rfl) fun a S => ?_
        refine lx_nil ?_
        obtain rfl := Option.some.inj hm
        exact ⟨S.sub ⟨rfl, rfl, rfl, trivial⟩, H⟩
       ·have hm := ite_f (eq_false_of_ne_true hc145) e144
        have hc145 : (!x140) = false := eq_false_of_ne_true hc145
        refine lx_q p0 S (want_b rfl rfl hc145) (by decide) (q_move rfl) (fun a S => ?_)
        refine lx_q (.int .i64 x82) S (want_b rfl rfl hc145) (by decide) (q_move rfl) (fun a S => ?_)
        obtain ⟨x146, e147, hm⟩ := bind_some hm
        obtain ⟨c148, h149, hat150⟩ := (h0).elem (idx_some e147).2
        obtain rfl := h149
        have hlt := lt_of_idx (idx_some e147).2
        refine lx_q (ePtr p0 (x82.toNat * 1)) S (want_b rfl rfl hc145) (by decide) (q_indexAddr rfl (h0).isSl rfl (idx_some e147).1 hlt Tryz.underlying22 Tryz.sizeOf9) (fun a S => ?_)
        refine lx_q (sv x146) S (want_b rfl rfl hc145) (by decide) (q_load1 rfl Tryz.isAgg9 (fun w1 hC => ((hat150 0 _ rfl).ext hC.ext))) (fun a S => ?_)
        refine lx_q (.bool (x146 == ([116, 97, 117] : Str))) S (want_b rfl rfl hc145) (by decide) (q_seql rfl rfl) (fun a S => ?_)
        refine lq (.bool (x146 == ([116, 97, 117] : Str))) S (q_pickF' rfl hc145 rfl) fun a S => ?_
        refine lx_nil ?_
        obtain rfl := Option.some.inj hm
        exact ⟨S.sub ⟨rfl, rfl, rfl, trivial⟩, H⟩
      ·rintro a w ⟨S, H⟩
       refine lq (.bool t143) S (q_move rfl) fun a S => ?_
       obtain ⟨t151, e152, hm⟩ := bind_some hm
       refine lx_cut 15 (fun a w => Slots a 53 [(0, p0), (3, (.int .i64 x82)), (52, (.bool t151))] ∧ Heap w0 [] w) ?_ ?_
       ·by_cases hc153 : t143 = true
        ·have hm := ite_t hc153 e152
         refine lx_skip S rfl rfl (isB_ne hc153) (by decide) (fun a S => ?_)
         refine lx_skip S rfl rfl (isB_ne hc153) (by decide) (fun a S => ?_)
         refine lx_skip S rfl rfl (isB_ne hc153) (by decide) (fun a S => ?_)
         refine lx_skip S rfl rfl rfl (by decide) (fun a S => ?_)
         refine lx_skip S rfl rfl rfl (by decide) (fun a S => ?_)
         refine lx_skip S rfl rfl rfl (by decide) (fun a S => ?_)
         refine lx_skip S rfl rfl rfl (by decide) (fun a S => ?_)
         refine lx_skip S rfl rfl rfl (by decide) (fun a S => ?_)
         refine lx_skip S rfl rfl rfl (by decide) (fun a S => ?_)
         refine lx_skip S rfl rfl rfl (by decide) (fun a S => ?_)
         refine lx_skip S rfl rfl rfl (by decide) (fun a S => ?_)
         refine lx_skip S rfl rfl rfl (by decide) (fun a S => ?_)
         refine lx_skip S rfl rfl rfl (by decide) (fun a S => ?_)
         refine lx_skip S rfl rfl (isB_ne hc153) (by decide) (fun a S => ?_)
         refine lq (.bool true) S (q_pickT' rfl hc153 rfl) fun a S => ?_
         refine lx_nil ?_
         obtain rfl := Option.some.inj hm
         exact ⟨S.sub ⟨rfl, rfl, rfl, trivial⟩, H⟩
        ·have hm := ite_f (eq_false_of_ne_true hc153) e152
         have hc153 : t143 = false := eq_false_of_ne_true hc153
         refine lx_q (.int .i64 x82) S (want_b rfl rfl hc153) (by decide) (q_move rfl) (fun a S => ?_)
         refine lx_q (.bool (decide ((1 : Int) < x82))) S (want_b rfl rfl hc153) (by decide) (q_gtr rfl rfl) (fun a S => ?_)
         refine lx_q (.bool (decide ((1 : Int) < x82))) S (want_b rfl rfl hc153) (by decide) (q_move rfl) (fun a S => ?_)
         obtain ⟨t154, e155, hm⟩ := bind_some hm
         refine lx_cut 11 (fun a w => Slots a 53 [(0, p0), (3, (.int .i64 x82)), (37, (.bool t143)), (51, (.bool t154))] ∧ Heap w0 [] w) ?_ ?_
         ·by_cases hc156 : (decide ((1 : Int) < x82)) = true
          ·have hm := ite_t hc156 e155
           refine lx_q p0 S (want_b rfl rfl hc156) (by decide) (q_move rfl) (fun a S => ?_)
           refine lx_q (.int .i64 x82) S (want_b rfl rfl hc156) (by decide) (q_move rfl) (fun a S => ?_)
           refine lx_q (.int .i64 (W (x82 - (1 : Int)))) S (want_b rfl rfl hc156) (by decide) (q_sub rfl rfl) (fun a S => ?_)
           obtain ⟨x157, e158, hm⟩ := bind_some hm
           obtain ⟨c159, h160, hat161⟩ := (h0).elem (idx_some e158).2
           obtain rfl := h160
           have hlt := lt_of_idx (idx_some e158).2
           refine lx_q (ePtr p0 ((W (x82 - (1 : Int))).toNat * 1)) S (want_b rfl rfl hc156) (by decide) (q_indexAddr rfl (h0).isSl rfl (idx_some e158).1 hlt Tryz.underlying22 Tryz.sizeOf9) (fun a S => ?_)
           refine lx_q (sv x157) S (want_b rfl rfl hc156) (by decide) (q_load1 rfl Tryz.isAgg9 (fun w1 hC => ((hat161 0 _ rfl).ext hC.ext))) (fun a S => ?_)
           refine lx_q p0 S (want_b rfl rfl hc156) (by decide) (q_move rfl) (fun a S => ?_)
           refine lx_q (.int .i64 x82) S (want_b rfl rfl hc156) (by decide) (q_move rfl) (fun a S => ?_)
           obtain ⟨x162, e163, hm⟩ := bind_some hm
           obtain ⟨c164, h165, hat166⟩ := (h0).elem (idx_some e163).2
           obtain rfl := h165
           have hlt := lt_of_idx (idx_some e163).2
           refine lx_q (ePtr p0 (x82.toNat * 1)) S (want_b rfl rfl hc156) (by decide) (q_indexAddr rfl (h0).isSl rfl (idx_some e163).1 hlt Tryz.underlying22 Tryz.sizeOf9) (fun a S => ?_)
           refine lx_q (sv x162) S (want_b rfl rfl hc156) (by decide) (q_load1 rfl Tryz.isAgg9 (fun w1 hC => ((hat166 0 _ rfl).ext hC.ext))) (fun a S => ?_)
           refine lx_q (.bool (!Op.bytesLess x157 x162)) S (want_b rfl rfl hc156) (by decide) (q_sgeq rfl rfl) (fun a S => ?_)
           refine lx_q (.bool (!Op.bytesLess x157 x162)) S (want_b rfl rfl hc153) (by decide) (q_pickT' rfl hc156 rfl) (fun a S => ?_)
           refine lx_nil ?_
           obtain rfl := Option.some.inj hm
           exact ⟨S.sub ⟨rfl, rfl, rfl, rfl, trivial⟩, H⟩
          ·have hm := ite_f (eq_false_of_ne_true hc156) e155
           have hc156 : (decide ((1 : Int) < x82)) = false := eq_false_of_ne_true hc156
           refine lx_skip S rfl rfl (isB_ne hc156) (by decide) (fun a S => ?_)
           refine lx_skip S rfl rfl (isB_ne hc156) (by decide) (fun a S => ?_)
           refine lx_skip S rfl rfl (isB_ne hc156) (by decide) (fun a S => ?_)
           refine lx_skip S rfl rfl (isB_ne hc156) (by decide) (fun a S => ?_)
           refine lx_skip S rfl rfl (isB_ne hc156) (by decide) (fun a S => ?_)
           refine lx_skip S rfl rfl (isB_ne hc156) (by decide) (fun a S => ?_)
           refine lx_skip S rfl rfl (isB_ne hc156) (by decide) (fun a S => ?_)
           refine lx_skip S rfl rfl (isB_ne hc156) (by decide) (fun a S => ?_)
           refine lx_skip S rfl rfl (isB_ne hc156) (by decide) (fun a S => ?_)
           refine lx_skip S rfl rfl (isB_ne hc156) (by decide) (fun a S => ?_)
           refine lx_q (.bool false) S (want_b rfl rfl hc153) (by decide) (q_pickF' rfl hc156 rfl) (fun a S => ?_)
           refine lx_nil ?_
           obtain rfl := Option.some.inj hm
           exact ⟨S.sub ⟨rfl, rfl, rfl, rfl, trivial⟩, H⟩
         ·rintro a w ⟨S, H⟩
          refine lq (.bool t154) S (q_pickF' rfl hc153 rfl) fun a S => ?_
          refine lx_nil ?_
          obtain rfl := Option.some.inj hm
          exact ⟨S.sub ⟨rfl, rfl, rfl, trivial⟩, H⟩
       ·rintro a w ⟨S, H⟩
        refine lx_nil (thenN ?_)
        refine cond_b S rfl (fun hc167 => ?_) (fun hc167 => ?_)
        ·have hm := ite_t hc167 hm
         refine wp_seq (region_plain ?_)
         refine lq (.bool false) S (q_assign rfl) fun a S => ?_
         refine lx_nil (thenN ?_)
         refine wp_ret (inBlock_ret ?_)
         refine then_ret ?_
         refine then_ret ?_
         refine inBlock_ret ?_
         refine then_ret ?_
         refine then_ret ?_
         obtain rfl := it_brk hm hc129
         have hm := ctl_inr hk126
         obtain rfl := Option.some.inj hm
         exact leave1 S rfl rfl ⟨rfl, H⟩
        ·have hm := ite_f hc167 hm
         refine wp_skip ?_
         refine inBlock_norm ?_
         refine thenN ?_
         refine region_plain ?_
         refine lq (.int .i64 x82) S (q_move rfl) fun a S => ?_
         refine lq (.int .i64 (W (x82 + (1 : Int)))) S (q_add rfl rfl) fun a S => ?_
         refine lq (.int .i64 (W (x82 + (1 : Int)))) S (q_assign rfl) fun a S => ?_
         refine lx_nil ?_
         exact ⟨m127, Nat.lt_succ_self _, (W (x82 + (1 : Int))), S.sub ⟨rfl, rfl, trivial⟩, H, it_cont hm hc129⟩
     ·have hm := ite_f hc130 hm
      refine wp_exit ?_
      refine then_exit ?_
      refine then_exit ?_
      refine inBlock_exit ?_
      obtain rfl := it_brk hm hc129
      exact ⟨S.sub trivial, H, rfl⟩

/-- spec.l11Less -/
def spec_l11Less_m (_ : Nat) (a0 : Timpl_Edge) (a1 : Timpl_Edge) : Option (Bool) :=
  (if (a0.1 != a1.1) = true then some ((decide (a0.1 < a1.1))) else (if (a0.2.1 != a1.2.1) = true then some ((decide (a0.2.1 < a1.2.1))) else some ((decide (a0.2.2 < a1.2.2)))))
set_option maxRecDepth 20000 in
theorem spec_l11Less_ok [dr : Dr] {w0 : World} {fuel : Nat} {p0 p1 : Value} {a0 : Timpl_Edge} {a1 : Timpl_Edge} {r : Bool} (h0 : Rd (rPtr Rimpl_Edge) w0 p0 a0) (h1 : Rd (rPtr Rimpl_Edge) w0 p1 a1) (hm : spec_l11Less_m fuel a0 a1 = some r) :
  Calls Tryz.prog 45 #[p0, p1] w0 fun e w => e = .returned (.bool r) ∧ Heap w0 [] w := by
 unfold spec_l11Less_m at hm
 have H := Heap.start w0
 obtain ⟨c31, h32, hat33⟩ := h0.ptr
 obtain ⟨c34, c35, rfl, h36, h37⟩ := h32
 obtain rfl := h36
 obtain ⟨c38, c39, rfl, h40, h41⟩ := h37
 obtain rfl := h40
 obtain rfl := h41
 obtain ⟨c42, h43, hat44⟩ := h1.ptr
 obtain ⟨c45, c46, rfl, h47, h48⟩ := h43
 obtain rfl := h47
 obtain ⟨c49, c50, rfl, h51, h52⟩ := h48
 obtain rfl := h51
 obtain rfl := h52
 refine enter (args := [p0, p1]) Tryz.func45 rfl 50 rfl (Nat.le_of_ble_eq_true rfl) (fun a S => ?_)
 refine wp_seq (region_plain ?_)
 refine lq (.bool false) S (q_assign rfl) fun a S => ?_
 refine lx_nil (thenN ?_)
 refine wp_seq ?_
 refine wp_seq ?_
 refine region_drawG (fun w1 => Heap w0 [] w1) (fun i => [].contains i) mixed (by kernel_rfl) (fun w54 he53 => ?_)
 have H := H.later he53
 refine ⟨H.sel [] (by decide), ?_⟩
 refine lq p0 S (q_move rfl) fun a S => ?_
 refine lq p0 S (q_nilCheck rfl ((hat33 0 _ rfl).isP)) fun a S => ?_
 refine lq (pAdd p0 0) S (q_fieldAddr' 0 2 rfl ((hat33 0 _ rfl).isP) Tryz.underlying68 rfl Tryz.sizeOf2) fun a S => ?_
 refine lq (.int .i64 a0.1) S (q_load1 rfl Tryz.isAgg2 (fun w1 hC => (At.of_add (m := 0) (j := 0) ((hat33 0 _ rfl).ext hC.ext)))) fun a S => ?_
 refine lq p1 S (q_move rfl) fun a S => ?_
 refine lq p1 S (q_nilCheck rfl ((hat44 0 _ rfl).isP)) fun a S => ?_
 refine lq (pAdd p1 0) S (q_fieldAddr' 0 2 rfl ((hat44 0 _ rfl).isP) Tryz.underlying68 rfl Tryz.sizeOf2) fun a S => ?_
 refine lq (.int .i64 a1.1) S (q_load1 rfl Tryz.isAgg2 (fun w1 hC => (At.of_add (m := 0) (j := 0) ((hat44 0 _ rfl).ext hC.ext)))) fun a S => ?_
 refine lq (.bool (a0.1 != a1.1)) S (q_neq rfl rfl) fun a S => ?_
 refine lx_nil (thenN ?_)
 refine cond_b S rfl (fun hc55 => ?_) (fun hc55 => ?_)
 ·have hm := ite_t hc55 hm
  refine wp_seq ?_
  refine region_drawG (fun w1 => Heap w0 [] w1) (fun i => [].contains i) mixed (by kernel_rfl) (fun w57 he56 => ?_)
  have H := H.later he56
  refine ⟨H.sel [] (by decide), ?_⟩
  refine lq p0 S (q_move rfl) fun a S => ?_
  refine lq p0 S (q_nilCheck rfl ((hat33 0 _ rfl).isP)) fun a S => ?_
  refine lq (pAdd p0 0) S (q_fieldAddr' 0 2 rfl ((hat33 0 _ rfl).isP) Tryz.underlying68 rfl Tryz.sizeOf2) fun a S => ?_
  refine lq (.int .i64 a0.1) S (q_load1 rfl Tryz.isAgg2 (fun w1 hC => (At.of_add (m := 0) (j := 0) ((hat33 0 _ rfl).ext hC.ext)))) fun a S => ?_
  refine lq p1 S (q_move rfl) fun a S => ?_
  refine lq p1 S (q_nilCheck rfl ((hat44 0 _ rfl).isP)) fun a S => ?_
  refine lq (pAdd p1 0) S (q_fieldAddr' 0 2 rfl ((hat44 0 _ rfl).isP) Tryz.underlying68 rfl Tryz.sizeOf2) fun a S => ?_
  refine lq (.int .i64 a1.1) S (q_load1 rfl Tryz.isAgg2 (fun w1 hC => (At.of_add (m := 0) (j := 0) ((hat44 0 _ rfl).ext hC.ext)))) fun a S => ?_
  refine lq (.bool (decide (a0.1 < a1.1))) S (q_lss rfl rfl) fun a S => ?_
  refine lq (.bool (decide (a0.1 < a1.1))) S (q_assign rfl) fun a S => ?_
  refine lx_nil (thenN ?_)
  refine wp_ret (then_ret ?_)
  obtain rfl := Option.some.inj hm
  exact leave1 S rfl rfl ⟨rfl, H⟩
 ·have hm := ite_f hc55 hm
  refine wp_skip (thenN ?_)
  refine wp_seq ?_
  refine wp_seq ?_
  refine region_drawG (fun w1 => Heap w0 [] w1) (fun i => [].contains i) mixed (by kernel_rfl) (fun w59 he58 => ?_)
  have H := H.later he58
  refine ⟨H.sel [] (by decide), ?_⟩
  refine lq p0 S (q_move rfl) fun a S => ?_
  refine lq p0 S (q_nilCheck rfl ((hat33 0 _ rfl).isP)) fun a S => ?_
  refine lq (pAdd p0 1) S (q_fieldAddr' 1 2 rfl ((hat33 0 _ rfl).isP) Tryz.underlying68 rfl Tryz.sizeOf2) fun a S => ?_
  refine lq (.int .i64 a0.2.1) S (q_load1 rfl Tryz.isAgg2 (fun w1 hC => (At.of_add (m := 1) (j := 0) ((hat33 1 _ rfl).ext hC.ext)))) fun a S => ?_
  refine lq p1 S (q_move rfl) fun a S => ?_
  refine lq p1 S (q_nilCheck rfl ((hat44 0 _ rfl).isP)) fun a S => ?_
  refine lq (pAdd p1 1) S (q_fieldAddr' 1 2 rfl ((hat44 0 _ rfl).isP) Tryz.underlying68 rfl Tryz.sizeOf2) fun a S => ?_
  refine lq (.int .i64 a1.2.1) S (q_load1 rfl Tryz.isAgg2 (fun w1 hC => (At.of_add (m := 1) (j := 0) ((hat44 1 _ rfl).ext hC.ext)))) fun a S => ?_
  refine lq (.bool (a0.2.1 != a1.2.1)) S (q_neq rfl rfl) fun a S => ?_
  refine lx_nil (thenN ?_)
  refine cond_b S rfl (fun hc60 => ?_) (fun hc60 => ?_)
  ·have hm := ite_t hc60 hm
   refine wp_seq ?_
   refine region_drawG (fun w1 => Heap w0 [] w1) (fun i => [].contains i) mixed (by kernel_rfl) (fun w62 he61 => ?_)
   have H := H.later he61
   refine ⟨H.sel [] (by decide), ?_⟩
   refine lq p0 S (q_move rfl) fun a S => ?_
   refine lq p0 S (q_nilCheck rfl ((hat33 0 _ rfl).isP)) fun a S => ?_
   refine lq (pAdd p0 1) S (q_fieldAddr' 1 2 rfl ((hat33 0 _ rfl).isP) Tryz.underlying68 rfl Tryz.sizeOf2) fun a S => ?_
   refine lq (.int .i64 a0.2.1) S (q_load1 rfl Tryz.isAgg2 (fun w1 hC => (At.of_add (m := 1) (j := 0) ((hat33 1 _ rfl).ext hC.ext)))) fun a S => ?_
   refine lq p1 S (q_move rfl) fun a S => ?_
   refine lq p1 S (q_nilCheck rfl ((hat44 0 _ rfl).isP)) fun a S => ?_
   refine lq (pAdd p1 1) S (q_fieldAddr' 1 2 rfl ((hat44 0 _ rfl).isP) Tryz.underlying68 rfl Tryz.sizeOf2) fun a S => ?_
   refine lq (.int .i64 a1.2.1) S (q_load1 rfl Tryz.isAgg2 (fun w1 hC => (At.of_add (m := 1) (j := 0) ((hat44 1 _ rfl).ext hC.ext)))) fun a S => ?_
   refine lq (.bool (decide (a0.2.1 < a1.2.1))) S (q_lss rfl rfl) fun a S => ?_
   refine lq (.bool (decide (a0.2.1 < a1.2.1))) S (q_assign rfl) fun a S => ?_
   refine lx_nil (thenN ?_)
   refine wp_ret (then_ret ?_)
   obtain rfl := Option.some.inj hm
   exact leave1 S rfl rfl ⟨rfl, H⟩
  ·have hm := ite_f hc60 hm
   refine wp_skip (thenN ?_)
   refine wp_seq ?_
   refine region_drawG (fun w1 => Heap w0 [] w1) (fun i => [].contains i) mixed (by kernel_rfl) (fun w64 he63 => ?_)
   have H := H.later he63
   refine ⟨H.sel [] (by decide), ?_⟩
   refine lq p0 S (q_move rfl) fun a S => ?_
   refine lq p0 S (q_nilCheck rfl ((hat33 0 _ rfl).isP)) fun a S => ?_
   refine lq (pAdd p0 2) S (q_fieldAddr' 2 2 rfl ((hat33 0 _ rfl).isP) Tryz.underlying68 rfl Tryz.sizeOf2) fun a S => ?_
   refine lq (.int .i64 a0.2.2) S (q_load1 rfl Tryz.isAgg2 (fun w1 hC => (At.of_add (m := 2) (j := 0) ((hat33 2 _ rfl).ext hC.ext)))) fun a S => ?_
   refine lq p1 S (q_move rfl) fun a S => ?_
   refine lq p1 S (q_nilCheck rfl ((hat44 0 _ rfl).isP)) fun a S => ?_
   refine lq (pAdd p1 2) S (q_fieldAddr' 2 2 rfl ((hat44 0 _ rfl).isP) Tryz.underlying68 rfl Tryz.sizeOf2) fun a S => ?_
   refine lq (.int .i64 a1.2.2) S (q_load1 rfl Tryz.isAgg2 (fun w1 hC => (At.of_add (m := 2) (j := 0) ((hat44 2 _ rfl).ext hC.ext)))) fun a S => ?_
   refine lq (.bool (decide (a0.2.2 < a1.2.2))) S (q_lss rfl rfl) fun a S => ?_
   refine lq (.bool (decide (a0.2.2 < a1.2.2))) S (q_assign rfl) fun a S => ?_
   refine lx_nil (thenN ?_)
   refine wp_ret ?_
   obtain rfl := Option.some.inj hm
   exact leave1 S rfl rfl ⟨rfl, H⟩

/-- spec.l11Is -/
def spec_l11Is_m (fuel : Nat) (a0 : Timpl_Lts) : Option (Bool) :=
  (spec_l00In_m fuel a0.1 (1 : Int) (40 : Int)).bind fun x54 => (if (!x54) = true then some true else (spec_l00In_m fuel a0.2.1 (0 : Int) (W (a0.1 - (1 : Int)))).bind fun x62 => some (!x62)).bind fun t57 => (if t57 = true then some true else (spec_l11Names_m fuel a0.2.2.1).bind fun x70 => some (!x70)).bind fun t65 => (if t65 = true then some true else some (decide ((300 : Int) < (a0.2.2.2.length : Int)))).bind fun t73 => (if t73 = true then some (false) else (iter (fun (s : (Int)) => (match s with | (x142) => (if (decide (x142 < (a0.2.2.2.length : Int))) = true then (idx a0.2.2.2 x142).bind fun x217 => (spec_l00In_m fuel x217.1 (0 : Int) (W (a0.1 - (1 : Int)))).bind fun x238 => (if (!x238) = true then some true else (spec_l00In_m fuel x217.2.2 (0 : Int) (W (a0.1 - (1 : Int)))).bind fun x246 => some (!x246)).bind fun t241 => (if t241 = true then some true else (spec_l00In_m fuel x217.2.1 (0 : Int) (W ((a0.2.2.1.length : Int) - (1 : Int)))).bind fun x254 => some (!x254)).bind fun t249 => (if t249 = true then some (.inr (.inr false)) else (if (decide ((0 : Int) < x142)) = true then (idx a0.2.2.2 (W (x142 - (1 : Int)))).bind fun x261 => (spec_l11Less_m fuel x261 (x217.1, x217.2.1, x217.2.2)).bind fun x276 => some (!x276) else some false).bind fun t258 => (if t258 = true then some (.inr (.inr false)) else some (.inl ((W (x142 + (1 : Int))))))) else some (.inr (.inl ()))) : Option (((Int)) ⊕ ((Unit) ⊕ (Bool))))) fuel ((0 : Int))).bind fun res208 => ctl (β := Unit) (ρ := Bool) (τ := Bool) res208 (fun _ => some (true)) (fun q => some (q)))
set_option maxRecDepth 20000 in
theorem spec_l11Is_ok [dr : Dr] {w0 : World} {fuel : Nat} {p0 : Value} {a0 : Timpl_Lts} {r : Bool} (h0 : Rd (rPtr Rimpl_Lts) w0 p0 a0) (hm : spec_l11Is_m fuel a0 = some r) :
  Calls Tryz.prog 19 #[p0] w0 fun e w => e = .returned (.bool r) ∧ Heap w0 [] w := by
 unfold spec_l11Is_m at hm
 have H := Heap.start w0
 obtain ⟨c31, h32, hat33⟩ := h0.ptr
 obtain ⟨c38, c39, rfl, h40, h41⟩ := h32
 obtain rfl := h40
 obtain ⟨c42, c43, rfl, h44, h45⟩ := h41
 obtain rfl := h44
 obtain ⟨c46, c47, rfl, h48, h49⟩ := h45
 obtain ⟨v34, rfl, h35⟩ := rd_list h48
 obtain ⟨v36, rfl, h37⟩ := rd_list h49
 refine enter (args := [p0]) Tryz.func19 rfl 101 rfl (Nat.le_of_ble_eq_true rfl) (fun a S => ?_)
 refine wp_seq (region_plain ?_)
 refine lq (.bool false) S (q_assign rfl) fun a S => ?_
 refine lx_nil (thenN ?_)
 refine wp_seq ?_
 refine wp_seq ?_
 refine region_drawG (fun w1 => Heap w0 [] w1) (fun i => [4, 16, 24].contains i) mixed (by kernel_rfl) (fun w51 he50 => ?_)
 have H := H.later he50
 refine ⟨H.sel [] (by decide), ?_⟩
 refine lq p0 S (q_move rfl) fun a S => ?_
 refine lq p0 S (q_nilCheck rfl ((hat33 0 _ rfl).isP)) fun a S => ?_
 refine lq (pAdd p0 0) S (q_fieldAddr' 0 2 rfl ((hat33 0 _ rfl).isP) Tryz.underlying31 rfl Tryz.sizeOf2) fun a S => ?_
 refine lq (.int .i64 a0.1) S (q_load1 rfl Tryz.isAgg2 (fun w1 hC => (At.of_add (m := 0) (j := 0) ((hat33 0 _ rfl).ext hC.ext)))) fun a S => ?_
 obtain ⟨x54, e55, hm⟩ := bind_some hm
 refine lx_call (xs := [.tmp 8, .const (.int .i64 (1)), .const (.int .i64 (40))]) S trivial (by decide) rfl rfl Tryz.call43 ((spec_l00In_ok    e55).mono ?_)
 rintro e w52 ⟨rfl, Hc53⟩
 have H := H.call0 Hc53
 refine ⟨_, rfl, H.sel [] (by decide), fun a S => ?_⟩
 refine lq (.bool (!x54)) S (q_not rfl) fun a S => ?_
 refine lq (.bool (!x54)) S (q_move rfl) fun a S => ?_
 obtain ⟨t57, e58, hm⟩ := bind_some hm
 refine lx_cut 12 (fun a w => Slots a 101 [(0, p0), (23, (.bool t57))] ∧ Heap w0 [] w) ?_ ?_
 ·by_cases hc59 : (!x54) = true
  ·have hm := ite_t hc59 e58
   refine lx_skip S rfl rfl (isB_ne hc59) (by decide) (fun a S => ?_)
   refine lx_skip S rfl rfl (isB_ne hc59) (by decide) (fun a S => ?_)
   refine lx_skip S rfl rfl (isB_ne hc59) (by decide) (fun a S => ?_)
   refine lx_skip S rfl rfl (isB_ne hc59) (by decide) (fun a S => ?_)
   refine lx_skip S rfl rfl (isB_ne hc59) (by decide) (fun a S => ?_)
   refine lx_skip S rfl rfl (isB_ne hc59) (by decide) (fun a S => ?_)
   refine lx_skip S rfl rfl (isB_ne hc59) (by decide) (fun a S => ?_)
   refine lx_skip S rfl rfl (isB_ne hc59) (by decide) (fun a S => ?_)
   refine lx_skip S rfl rfl (isB_ne hc59) (by decide) (fun a S => ?_)
   refine lx_skip S rfl rfl (isB_ne hc59) (by decide) (fun a S => ?_)
   refine lx_skip S rfl rfl (isB_ne hc59) (by decide) (fun a S => ?_)
   refine lq (.bool true) S (q_pickT' rfl hc59 rfl) fun a S => ?_
   refine lx_nil ?_
   obtain rfl := Option.some.inj hm
   exact ⟨S.sub ⟨rfl, rfl, trivial⟩, H⟩
  ·have hm := ite_f (eq_false_of_ne_true hc59) e58
   have hc59 : (!x54) = false := eq_false_of_ne_true hc59
   refine lx_q p0 S (want_b rfl rfl hc59) (by decide) (q_move rfl) (fun a S => ?_)
   refine lx_q p0 S (want_b rfl rfl hc59) (by decide) (q_nilCheck rfl ((hat33 0 _ rfl).isP)) (fun a S => ?_)
   refine lx_q (pAdd p0 1) S (want_b rfl rfl hc59) (by decide) (q_fieldAddr' 1 2 rfl ((hat33 0 _ rfl).isP) Tryz.underlying31 rfl Tryz.sizeOf2) (fun a S => ?_)
   refine lx_q (.int .i64 a0.2.1) S (want_b rfl rfl hc59) (by decide) (q_load1 rfl Tryz.isAgg2 (fun w1 hC => (At.of_add (m := 1) (j := 0) ((hat33 1 _ rfl).ext hC.ext)))) (fun a S => ?_)
   refine lx_q p0 S (want_b rfl rfl hc59) (by decide) (q_move rfl) (fun a S => ?_)
   refine lx_q p0 S (want_b rfl rfl hc59) (by decide) (q_nilCheck rfl ((hat33 0 _ rfl).isP)) (fun a S => ?_)
   refine lx_q (pAdd p0 0) S (want_b rfl rfl hc59) (by decide) (q_fieldAddr' 0 2 rfl ((hat33 0 _ rfl).isP) Tryz.underlying31 rfl Tryz.sizeOf2) (fun a S => ?_)
   refine lx_q (.int .i64 a0.1) S (want_b rfl rfl hc59) (by decide) (q_load1 rfl Tryz.isAgg2 (fun w1 hC => (At.of_add (m := 0) (j := 0) ((hat33 0 _ rfl).ext hC.ext)))) (fun a S => ?_)
   refine lx_q (.int .i64 (W (a0.1 - (1 : Int)))) S (want_b rfl rfl hc59) (by decide) (q_sub rfl rfl) (fun a S => ?_)
   obtain ⟨x62, e63, hm⟩ := bind_some hm
   refine lx_call (xs := [.tmp 15, .const (.int .i64 (0)), .tmp 20]) S (want_b rfl rfl hc59) (by decide) rfl rfl Tryz.call43 ((spec_l00In_ok    e63).mono ?_)
   rintro e w60 ⟨rfl, Hc61⟩
   have H := H.call0 Hc61
   refine ⟨_, rfl, H.sel [] (by decide), fun a S => ?_⟩
   refine lx_q (.bool (!x62)) S (want_b rfl rfl hc59) (by decide) (q_not rfl) (fun a S => ?_)
   refine lq (.bool (!x62)) S (q_pickF' rfl hc59 rfl) fun a S => ?_
   refine lx_nil ?_
   obtain rfl := Option.some.inj hm
   exact ⟨S.sub ⟨rfl, rfl, trivial⟩, H⟩
 ·rintro a w ⟨S, H⟩
  refine lq (.bool t57) S (q_move rfl) fun a S => ?_
  obtain ⟨t65, e66, hm⟩ := bind_some hm
  refine lx_cut 7 (fun a w => Slots a 101 [(0, p0), (31, (.bool t65))] ∧ Heap w0 [] w) ?_ ?_
  ·by_cases hc67 : t57 = true
   ·have hm := ite_t hc67 e66
    refine lx_skip S rfl rfl (isB_ne hc67) (by decide) (fun a S => ?_)
    refine lx_skip S rfl rfl (isB_ne hc67) (by decide) (fun a S => ?_)
    refine lx_skip S rfl rfl (isB_ne hc67) (by decide) (fun a S => ?_)
    refine lx_skip S rfl rfl (isB_ne hc67) (by decide) (fun a S => ?_)
    refine lx_skip S rfl rfl (isB_ne hc67) (by decide) (fun a S => ?_)
    refine lx_skip S rfl rfl (isB_ne hc67) (by decide) (fun a S => ?_)
    refine lq (.bool true) S (q_pickT' rfl hc67 rfl) fun a S => ?_
    refine lx_nil ?_
    obtain rfl := Option.some.inj hm
    exact ⟨S.sub ⟨rfl, rfl, trivial⟩, H⟩
   ·have hm := ite_f (eq_false_of_ne_true hc67) e66
    have hc67 : t57 = false := eq_false_of_ne_true hc67
    refine lx_q p0 S (want_b rfl rfl hc67) (by decide) (q_move rfl) (fun a S => ?_)
    refine lx_q p0 S (want_b rfl rfl hc67) (by decide) (q_nilCheck rfl ((hat33 0 _ rfl).isP)) (fun a S => ?_)
    refine lx_q (pAdd p0 2) S (want_b rfl rfl hc67) (by decide) (q_fieldAddr' 2 22 rfl ((hat33 0 _ rfl).isP) Tryz.underlying31 rfl Tryz.sizeOf22) (fun a S => ?_)
    refine lx_q v34 S (want_b rfl rfl hc67) (by decide) (q_load1 rfl Tryz.isAgg22 (fun w1 hC => (At.of_add (m := 2) (j := 0) ((hat33 2 _ rfl).ext hC.ext)))) (fun a S => ?_)
    obtain ⟨x70, e71, hm⟩ := bind_some hm
    refine lx_call (xs := [.tmp 28]) S (want_b rfl rfl hc67) (by decide) rfl rfl Tryz.call44 ((spec_l11Names_ok (H.arg h35) e71).mono ?_)
    rintro e w68 ⟨rfl, Hc69⟩
    have H := H.call0 Hc69
    refine ⟨_, rfl, H.sel [] (by decide), fun a S => ?_⟩
    refine lx_q (.bool (!x70)) S (want_b rfl rfl hc67) (by decide) (q_not rfl) (fun a S => ?_)
    refine lq (.bool (!x70)) S (q_pickF' rfl hc67 rfl) fun a S => ?_
    refine lx_nil ?_
    obtain rfl := Option.some.inj hm
    exact ⟨S.sub ⟨rfl, rfl, trivial⟩, H⟩
  ·rintro a w ⟨S, H⟩
   refine lq (.bool t65) S (q_move rfl) fun a S => ?_
   obtain ⟨t73, e74, hm⟩ := bind_some hm
   refine lx_cut 7 (fun a w => Slots a 101 [(0, p0), (39, (.bool t73))] ∧ Heap w0 [] w) ?_ ?_
   ·by_cases hc75 : t65 = true
    ·have hm := ite_t hc75 e74
     refine lx_skip S rfl rfl (isB_ne hc75) (by decide) (fun a S => ?_)
     refine lx_skip S rfl rfl (isB_ne hc75) (by decide) (fun a S => ?_)
     refine lx_skip S rfl rfl (isB_ne hc75) (by decide) (fun a S => ?_)
     refine lx_skip S rfl rfl (isB_ne hc75) (by decide) (fun a S => ?_)
     refine lx_skip S rfl rfl (isB_ne hc75) (by decide) (fun a S => ?_)
     refine lx_skip S rfl rfl (isB_ne hc75) (by decide) (fun a S => ?_)
     refine lq (.bool true) S (q_pickT' rfl hc75 rfl) fun a S => ?_
     refine lx_nil ?_
     obtain rfl := Option.some.inj hm
     exact ⟨S.sub ⟨rfl, rfl, trivial⟩, H⟩
    ·have hm := ite_f (eq_false_of_ne_true hc75) e74
     have hc75 : t65 = false := eq_false_of_ne_true hc75
     refine lx_q p0 S (want_b rfl rfl hc75) (by decide) (q_move rfl) (fun a S => ?_)
     refine lx_q p0 S (want_b rfl rfl hc75) (by decide) (q_nilCheck rfl ((hat33 0 _ rfl).isP)) (fun a S => ?_)
     refine lx_q (pAdd p0 3) S (want_b rfl rfl hc75) (by decide) (q_fieldAddr' 3 29 rfl ((hat33 0 _ rfl).isP) Tryz.underlying31 rfl Tryz.sizeOf29) (fun a S => ?_)
     refine lx_q v36 S (want_b rfl rfl hc75) (by decide) (q_load1 rfl Tryz.isAgg29 (fun w1 hC => (At.of_add (m := 3) (j := 0) ((hat33 3 _ rfl).ext hC.ext)))) (fun a S => ?_)
     refine lx_q (.int .i64 (a0.2.2.2.length : Int)) S (want_b rfl rfl hc75) (by decide) (q_lenSl rfl (h37).isSl rfl Tryz.underlying29) (fun a S => ?_)
     refine lx_q (.bool (decide ((300 : Int) < (a0.2.2.2.length : Int)))) S (want_b rfl rfl hc75) (by decide) (q_gtr rfl rfl) (fun a S => ?_)
     refine lq (.bool (decide ((300 : Int) < (a0.2.2.2.length : Int)))) S (q_pickF' rfl hc75 rfl) fun a S => ?_
     refine lx_nil ?_
     obtain rfl := Option.some.inj hm
     exact ⟨S.sub ⟨rfl, rfl, trivial⟩, H⟩
   ·rintro a w ⟨S, H⟩
    refine lx_nil (thenN ?_)
    refine cond_b S rfl (fun hc76 => ?_) (fun hc76 => ?_)
    ·have hm := ite_t hc76 hm
     refine wp_seq (region_plain ?_)
     refine lq (.bool false) S (q_assign rfl) fun a S => ?_
     refine lx_nil (thenN ?_)
     refine wp_ret (then_ret ?_)
     obtain rfl := Option.some.inj hm
     exact leave1 S rfl rfl ⟨rfl, H⟩
    ·have hm := ite_f hc76 hm
     refine wp_skip (thenN ?_)
     refine wp_seq (wp_seq (region_plain ?_))
     refine lq (.int .i64 (0 : Int)) S (q_assign rfl) fun a S => ?_
     refine lx_nil (thenN ?_)
     obtain ⟨res208, hit209, hk212⟩ := bind_some hm
     obtain ⟨f210, hf211, hit209⟩ := iter_name hit209
     refine block_loop (fun a w => Slots a 101 [] ∧ Heap w0 [] w ∧ res208 = .inl ()) ?_ ?_
     ·rintro a w ⟨S, H, rfl⟩
      have hm := ctl_inl hk212
      refine thenN ?_
      refine wp_seq (region_plain ?_)
      refine lq (.bool true) S (q_assign rfl) fun a S => ?_
      refine lx_nil (thenN ?_)
      refine wp_ret ?_
      obtain rfl := Option.some.inj hm
      exact leave1 S rfl rfl ⟨rfl, H⟩
     ·skip
      refine loop_ghost (fun n a w => ∃ (x142 : Int), Slots a 101 [(0, p0), (3, (.int .i64 x142))] ∧ Heap w0 [] w ∧ iter f210 n (x142) = some res208) _ ⟨(0 : Int), S.sub ⟨rfl, rfl, trivial⟩, H, hit209⟩ ?_
      rintro n a w ⟨x142, S, H, hit209⟩
      obtain ⟨m213, o214, rfl, hm, hc215⟩ := iter_step hit209
      rw [hf211] at hm
      refine wp_seq (wp_seq (region_plain ?_))
      refine lq (.int .i64 x142) S (q_move rfl) fun a S => ?_
      refine lq p0 S (q_move rfl) fun a S => ?_
      refine lq p0 S (q_nilCheck rfl ((hat33 0 _ rfl).isP)) fun a S => ?_
      refine lq (pAdd p0 3) S (q_fieldAddr' 3 29 rfl ((hat33 0 _ rfl).isP) Tryz.underlying31 rfl Tryz.sizeOf29) fun a S => ?_
      refine lx_e v36 S trivial (by decide) rfl trivial (q_load1 rfl Tryz.isAgg29 (by rintro _ rfl; exact (At.of_add (m := 3) (j := 0) ((hat33 3 _ rfl).ext H.ext)))) (fun a S => ?_)
      refine lq (.int .i64 (a0.2.2.2.length : Int)) S (q_lenSl rfl (h37).isSl rfl Tryz.underlying29) fun a S => ?_
      refine lq (.bool (decide (x142 < (a0.2.2.2.length : Int)))) S (q_lss rfl rfl) fun a S => ?_
      refine lx_nil (thenN ?_)
      refine cond_b S rfl (fun hc216 => ?_) (fun hc216 => ?_)
      ·have hm := ite_t hc216 hm
       refine wp_skip (thenN ?_)
       refine wp_seq ?_
       refine wp_block ?_
       refine wp_seq (region_plain ?_)
       refine lq p0 S (q_move rfl) fun a S => ?_
       refine lq p0 S (q_nilCheck rfl ((hat33 0 _ rfl).isP)) fun a S => ?_
       refine lq (pAdd p0 3) S (q_fieldAddr' 3 29 rfl ((hat33 0 _ rfl).isP) Tryz.underlying31 rfl Tryz.sizeOf29) fun a S => ?_
       refine lx_e v36 S trivial (by decide) rfl trivial (q_load1 rfl Tryz.isAgg29 (by rintro _ rfl; exact (At.of_add (m := 3) (j := 0) ((hat33 3 _ rfl).ext H.ext)))) (fun a S => ?_)
       refine lq (.int .i64 x142) S (q_move rfl) fun a S => ?_
       obtain ⟨x217, e218, hm⟩ := bind_some hm
       obtain ⟨c219, h220, hat221⟩ := (h37).elem (idx_some e218).2
       obtain ⟨c222, c223, rfl, h224, h225⟩ := h220
       obtain rfl := h224
       obtain ⟨c226, c227, rfl, h228, h229⟩ := h225
       obtain rfl := h228
       obtain rfl := h229
       have hlt := lt_of_idx (idx_some e218).2
       refine lq (ePtr v36 (x142.toNat * 3)) S (q_indexAddr rfl (h37).isSl rfl (idx_some e218).1 hlt Tryz.underlying29 Tryz.sizeOf68) fun a S => ?_
       refine lx_e (.agg #[(.int .i64 x217.1), (.int .i64 x217.2.1), (.int .i64 x217.2.2)]) S trivial (by decide) rfl trivial (q_loadA (cs := [(.int .i64 x217.1), (.int .i64 x217.2.1), (.int .i64 x217.2.2)]) rfl ((hat221 0 _ rfl).isP) Tryz.isAgg68 Tryz.sizeOf68 (by rintro _ rfl; exact (fun j u hu => (hat221 j u hu).ext H.ext))) (fun a S => ?_)
       refine lx_alloc S trivial (by decide) rfl H Tryz.zeroValue68 rfl (fun b230 w231 H => ⟨trivial, fun a S => ?_⟩)
       refine lx_storeBox (o := 0) (i := 0) (us := [(.int .i64 x217.1), (.int .i64 x217.2.1), (.int .i64 x217.2.2)]) (cs' := [(.int .i64 x217.1), (.int .i64 x217.2.1), (.int .i64 x217.2.2)]) S trivial rfl H rfl rfl rfl rfl Tryz.sizeOf68 (Nat.le_of_ble_eq_true rfl) (List.forall_mem_cons.2 ⟨rfl, (List.forall_mem_cons.2 ⟨rfl, (List.forall_mem_cons.2 ⟨rfl, (List.forall_mem_nil _)⟩)⟩)⟩) rfl (fun w233 H => ⟨trivial, fun a S => ?_⟩)
       change Heap w0 [bA b230 [(.int .i64 x217.1), (.int .i64 x217.2.1), (.int .i64 x217.2.2)] 68] w233 at H
       refine lx_nil (thenN ?_)
       refine wp_seq ?_
       refine wp_seq ?_
       refine region_drawG (fun w1 => Heap w0 [bA b230 [(.int .i64 x217.1), (.int .i64 x217.2.1), (.int .i64 x217.2.2)] 68] w1) (fun i => [7, 17, 29].contains i) mixed (by kernel_rfl) (fun w235 he234 => ?_)
       have H := H.later he234
       refine ⟨H.sel [0] (by decide), ?_⟩
       refine lq (pAdd (bp b230) 0) S (q_fieldAddr' 0 2 rfl (isP_bp _) Tryz.underlying68 rfl Tryz.sizeOf2) fun a S => ?_
       refine lq (.int .i64 x217.1) S (q_load1 rfl Tryz.isAgg2 (fun w1 hC => (At.of_add (m := 0) (j := 0) (boxAt (i := 0) hC rfl (j := 0) rfl)))) fun a S => ?_
       refine lq p0 S (q_move rfl) fun a S => ?_
       refine lq p0 S (q_nilCheck rfl ((hat33 0 _ rfl).isP)) fun a S => ?_
       refine lq (pAdd p0 0) S (q_fieldAddr' 0 2 rfl ((hat33 0 _ rfl).isP) Tryz.underlying31 rfl Tryz.sizeOf2) fun a S => ?_
       refine lq (.int .i64 a0.1) S (q_load1 rfl Tryz.isAgg2 (fun w1 hC => (At.of_add (m := 0) (j := 0) ((hat33 0 _ rfl).ext hC.ext)))) fun a S => ?_
       refine lq (.int .i64 (W (a0.1 - (1 : Int)))) S (q_sub rfl rfl) fun a S => ?_
       obtain ⟨x238, e239, hm⟩ := bind_some hm
       refine lx_call (xs := [.tmp 57, .const (.int .i64 (0)), .tmp 62]) S trivial (by decide) rfl rfl Tryz.call43 ((spec_l00In_ok    e239).mono ?_)
       rintro e w236 ⟨rfl, Hc237⟩
       have H := H.call0 Hc237
       refine ⟨_, rfl, H.sel [0] (by decide), fun a S => ?_⟩
       refine lq (.bool (!x238)) S (q_not rfl) fun a S => ?_
       refine lq (.bool (!x238)) S (q_move rfl) fun a S => ?_
       obtain ⟨t241, e242, hm⟩ := bind_some hm
       refine lx_cut 10 (fun a w => Slots a 101 [(0, p0), (3, (.int .i64 x142)), (4, (bp b230)), (75, (.bool t241))] ∧ Heap w0 [bA b230 [(.int .i64 x217.1), (.int .i64 x217.2.1), (.int .i64 x217.2.2)] 68] w) ?_ ?_
       ·by_cases hc243 : (!x238) = true
        ·have hm := ite_t hc243 e242
         refine lx_skip S rfl rfl (isB_ne hc243) (by decide) (fun a S => ?_)
         refine lx_skip S rfl rfl (isB_ne hc243) (by decide) (fun a S => ?_)
         refine lx_skip S rfl rfl (isB_ne hc243) (by decide) (fun a S => ?_)
         refine lx_skip S rfl rfl (isB_ne hc243) (by decide) (fun a S => ?_)
         refine lx_skip S rfl rfl (isB_ne hc243) (by decide) (fun a S => ?_)
         refine lx_skip S rfl rfl (isB_ne hc243) (by decide) (fun a S => ?_)
         refine lx_skip S rfl rfl (isB_ne hc243) (by decide) (fun a S => ?_)
         refine lx_skip S rfl rfl (isB_ne hc243) (by decide) (fun a S => ?_)
         refine lx_skip S rfl rfl (isB_ne hc243) (by decide) (fun a S => ?_)
         refine lq (.bool true) S (q_pickT' rfl hc243 rfl) fun a S => ?_
         refine lx_nil ?_
         obtain rfl := Option.some.inj hm
         exact ⟨S.sub ⟨rfl, rfl, rfl, rfl, trivial⟩, H⟩
        ·have hm := ite_f (eq_false_of_ne_true hc243) e242
         have hc243 : (!x238) = false := eq_false_of_ne_true hc243
         refine lx_q (pAdd (bp b230) 2) S (want_b rfl rfl hc243) (by decide) (q_fieldAddr' 2 2 rfl (isP_bp _) Tryz.underlying68 rfl Tryz.sizeOf2) (fun a S => ?_)
         refine lx_q (.int .i64 x217.2.2) S (want_b rfl rfl hc243) (by decide) (q_load1 rfl Tryz.isAgg2 (fun w1 hC => (At.of_add (m := 2) (j := 0) (boxAt (i := 0) hC rfl (j := 2) rfl)))) (fun a S => ?_)
         refine lx_q p0 S (want_b rfl rfl hc243) (by decide) (q_move rfl) (fun a S => ?_)
         refine lx_q p0 S (want_b rfl rfl hc243) (by decide) (q_nilCheck rfl ((hat33 0 _ rfl).isP)) (fun a S => ?_)
         refine lx_q (pAdd p0 0) S (want_b rfl rfl hc243) (by decide) (q_fieldAddr' 0 2 rfl ((hat33 0 _ rfl).isP) Tryz.underlying31 rfl Tryz.sizeOf2) (fun a S => ?_)
         refine lx_q (.int .i64 a0.1) S (want_b rfl rfl hc243) (by decide) (q_load1 rfl Tryz.isAgg2 (fun w1 hC => (At.of_add (m := 0) (j := 0) ((hat33 0 _ rfl).ext hC.ext)))) (fun a S => ?_)
         refine lx_q (.int .i64 (W (a0.1 - (1 : Int)))) S (want_b rfl rfl hc243) (by decide) (q_sub rfl rfl) (fun a S => ?_)
         obtain ⟨x246, e247, hm⟩ := bind_some hm
         refine lx_call (xs := [.tmp 67, .const (.int .i64 (0)), .tmp 72]) S (want_b rfl rfl hc243) (by decide) rfl rfl Tryz.call43 ((spec_l00In_ok    e247).mono ?_)
         rintro e w244 ⟨rfl, Hc245⟩
         have H := H.call0 Hc245
         refine ⟨_, rfl, H.sel [0] (by decide), fun a S => ?_⟩
         refine lx_q (.bool (!x246)) S (want_b rfl rfl hc243) (by decide) (q_not rfl) (fun a S => ?_)
         refine lq (.bool (!x246)) S (q_pickF' rfl hc243 rfl) fun a S => ?_
         refine lx_nil ?_
         obtain rfl := Option.some.inj hm
         exact ⟨S.sub ⟨rfl, rfl, rfl, rfl, trivial⟩, H⟩
       ·rintro a w ⟨S, H⟩
        refine lq (.bool t241) S (q_move rfl) fun a S => ?_
        obtain ⟨t249, e250, hm⟩ := bind_some hm
        refine lx_cut 11 (fun a w => Slots a 101 [(0, p0), (3, (.int .i64 x142)), (4, (bp b230)), (87, (.bool t249))] ∧ Heap w0 [bA b230 [(.int .i64 x217.1), (.int .i64 x217.2.1), (.int .i64 x217.2.2)] 68] w) ?_ ?_
        ·by_cases hc251 : t241 = true
         ·have hm := ite_t hc251 e250
          refine lx_skip S rfl rfl (isB_ne hc251) (by decide) (fun a S => ?_)
          refine lx_skip S rfl rfl (isB_ne hc251) (by decide) (fun a S => ?_)
          refine lx_skip S rfl rfl (isB_ne hc251) (by decide) (fun a S => ?_)
          refine lx_skip S rfl rfl (isB_ne hc251) (by decide) (fun a S => ?_)
          refine lx_skip S rfl rfl (isB_ne hc251) (by decide) (fun a S => ?_)
          refine lx_skip S rfl rfl (isB_ne hc251) (by decide) (fun a S => ?_)
          refine lx_skip S rfl rfl (isB_ne hc251) (by decide) (fun a S => ?_)
          refine lx_skip S rfl rfl (isB_ne hc251) (by decide) (fun a S => ?_)
          refine lx_skip S rfl rfl (isB_ne hc251) (by decide) (fun a S => ?_)
          refine lx_skip S rfl rfl (isB_ne hc251) (by decide) (fun a S => ?_)
          refine lq (.bool true) S (q_pickT' rfl hc251 rfl) fun a S => ?_
          refine lx_nil ?_
          obtain rfl := Option.some.inj hm
          exact ⟨S.sub ⟨rfl, rfl, rfl, rfl, trivial⟩, H⟩
         ·have hm := ite_f (eq_false_of_ne_true hc251) e250
          have hc251 : t241 = false := eq_false_of_ne_true hc251
          refine lx_q (pAdd (bp b230) 1) S (want_b rfl rfl hc251) (by decide) (q_fieldAddr' 1 2 rfl (isP_bp _) Tryz.underlying68 rfl Tryz.sizeOf2) (fun a S => ?_)
          refine lx_q (.int .i64 x217.2.1) S (want_b rfl rfl hc251) (by decide) (q_load1 rfl Tryz.isAgg2 (fun w1 hC => (At.of_add (m := 1) (j := 0) (boxAt (i := 0) hC rfl (j := 1) rfl)))) (fun a S => ?_)
          refine lx_q p0 S (want_b rfl rfl hc251) (by decide) (q_move rfl) (fun a S => ?_)
          refine lx_q p0 S (want_b rfl rfl hc251) (by decide) (q_nilCheck rfl ((hat33 0 _ rfl).isP)) (fun a S => ?_)
          refine lx_q (pAdd p0 2) S (want_b rfl rfl hc251) (by decide) (q_fieldAddr' 2 22 rfl ((hat33 0 _ rfl).isP) Tryz.underlying31 rfl Tryz.sizeOf22) (fun a S => ?_)
          refine lx_q v34 S (want_b rfl rfl hc251) (by decide) (q_load1 rfl Tryz.isAgg22 (fun w1 hC => (At.of_add (m := 2) (j := 0) ((hat33 2 _ rfl).ext hC.ext)))) (fun a S => ?_)
          refine lx_q (.int .i64 (a0.2.2.1.length : Int)) S (want_b rfl rfl hc251) (by decide) (q_lenSl rfl (h35).isSl rfl Tryz.underlying22) (fun a S => ?_)
          refine lx_q (.int .i64 (W ((a0.2.2.1.length : Int) - (1 : Int)))) S (want_b rfl rfl hc251) (by decide) (q_sub rfl rfl) (fun a S => ?_)
          obtain ⟨x254, e255, hm⟩ := bind_some hm
          refine lx_call (xs := [.tmp 78, .const (.int .i64 (0)), .tmp 84]) S (want_b rfl rfl hc251) (by decide) rfl rfl Tryz.call43 ((spec_l00In_ok    e255).mono ?_)
          rintro e w252 ⟨rfl, Hc253⟩
          have H := H.call0 Hc253
          refine ⟨_, rfl, H.sel [0] (by decide), fun a S => ?_⟩
          refine lx_q (.bool (!x254)) S (want_b rfl rfl hc251) (by decide) (q_not rfl) (fun a S => ?_)
          refine lq (.bool (!x254)) S (q_pickF' rfl hc251 rfl) fun a S => ?_
          refine lx_nil ?_
          obtain rfl := Option.some.inj hm
          exact ⟨S.sub ⟨rfl, rfl, rfl, rfl, trivial⟩, H⟩
        ·rintro a w ⟨S, H⟩
         refine lx_nil (thenN ?_)
         refine cond_b S rfl (fun hc257 => ?_) (fun hc257 => ?_)
         ·have hm := ite_t hc257 hm
          refine wp_seq (region_plain ?_)
          refine lq (.bool false) S (q_assign rfl) fun a S => ?_
          refine lx_nil (thenN ?_)
          refine wp_ret (then_ret ?_)
          refine inBlock_ret ?_
          refine then_ret ?_
          refine then_ret ?_
          refine inBlock_ret ?_
          refine then_ret ?_
          refine then_ret ?_
          obtain rfl := it_brk hm hc215
          have hm := ctl_inr hk212
          obtain rfl := Option.some.inj hm
          have H : Heap w0 [] w := H.sel [] (by decide)
          exact leave1 S rfl rfl ⟨rfl, H⟩
         ·have hm := ite_f hc257 hm
          refine wp_skip (thenN ?_)
          refine wp_seq (region_plain ?_)
          refine lq (.int .i64 x142) S (q_move rfl) fun a S => ?_
          refine lq (.bool (decide ((0 : Int) < x142))) S (q_gtr rfl rfl) fun a S => ?_
          refine lq (.bool (decide ((0 : Int) < x142))) S (q_move rfl) fun a S => ?_
          obtain ⟨t258, e259, hm⟩ := bind_some hm
          refine lx_cut 10 (fun a w => Slots a 101 [(0, p0), (3, (.int .i64 x142)), (100, (.bool t258))] ∧ Heap w0 [] w) ?_ ?_
          ·by_cases hc260 : (decide ((0 : Int) < x142)) = true
           ·have hm := ite_t hc260 e259
            refine lx_q p0 S (want_b rfl rfl hc260) (by decide) (q_move rfl) (fun a S => ?_)
            refine lx_q p0 S (want_b rfl rfl hc260) (by decide) (q_nilCheck rfl ((hat33 0 _ rfl).isP)) (fun a S => ?_)
            refine lx_q (pAdd p0 3) S (want_b rfl rfl hc260) (by decide) (q_fieldAddr' 3 29 rfl ((hat33 0 _ rfl).isP) Tryz.underlying31 rfl Tryz.sizeOf29) (fun a S => ?_)
            refine lx_e v36 S (want_b rfl rfl hc260) (by decide) rfl trivial (q_load1 rfl Tryz.isAgg29 (by rintro _ rfl; exact (At.of_add (m := 3) (j := 0) ((hat33 3 _ rfl).ext H.ext)))) (fun a S => ?_)
            refine lx_q (.int .i64 x142) S (want_b rfl rfl hc260) (by decide) (q_move rfl) (fun a S => ?_)
            refine lx_q (.int .i64 (W (x142 - (1 : Int)))) S (want_b rfl rfl hc260) (by decide) (q_sub rfl rfl) (fun a S => ?_)
            obtain ⟨x261, e262, hm⟩ := bind_some hm
            obtain ⟨c263, h264, hat265⟩ := (h37).elem (idx_some e262).2
            obtain ⟨c266, c267, rfl, h268, h269⟩ := h264
            obtain rfl := h268
            obtain ⟨c270, c271, rfl, h272, h273⟩ := h269
            obtain rfl := h272
            obtain rfl := h273
            have hlt := lt_of_idx (idx_some e262).2
            refine lx_q (ePtr v36 ((W (x142 - (1 : Int))).toNat * 3)) S (want_b rfl rfl hc260) (by decide) (q_indexAddr rfl (h37).isSl rfl (idx_some e262).1 hlt Tryz.underlying29 Tryz.sizeOf68) (fun a S => ?_)
            obtain ⟨x276, e277, hm⟩ := bind_some hm
            refine lx_call (xs := [.tmp 97, .tmp 4]) S (want_b rfl rfl hc260) (by decide) rfl rfl Tryz.call45 ((spec_l11Less_ok ((H.arg h37).elemPtr (idx_some e262).2) (rdPtr_box H 0 rfl ⟨[(.int .i64 x217.1)], [(.int .i64 x217.2.1), (.int .i64 x217.2.2)], rfl, rfl, ⟨[(.int .i64 x217.2.1)], [(.int .i64 x217.2.2)], rfl, rfl, rfl⟩⟩) e277).mono ?_)
            rintro e w274 ⟨rfl, Hc275⟩
            have H := H.call0 Hc275
            refine ⟨_, rfl, trivial, fun a S => ?_⟩
            refine lx_q (.bool (!x276)) S (want_b rfl rfl hc260) (by decide) (q_not rfl) (fun a S => ?_)
            refine lq (.bool (!x276)) S (q_pickT' rfl hc260 rfl) fun a S => ?_
            refine lx_nil ?_
            obtain rfl := Option.some.inj hm
            have H := H.sel [] (by decide)
            exact ⟨S.sub ⟨rfl, rfl, rfl, trivial⟩, H⟩
           ·have hm := ite_f (eq_false_of_ne_true hc260) e259
            have hc260 : (decide ((0 : Int) < x142)) = false := eq_false_of_ne_true hc260
            refine lx_skip S rfl rfl (isB_ne hc260) (by decide) (fun a S => ?_)
            refine lx_skip S rfl rfl (isB_ne hc260) (by decide) (fun a S => ?_)
            refine lx_skip S rfl rfl (isB_ne hc260) (by decide) (fun a S => ?_)
            refine lx_skip S rfl rfl (isB_ne hc260) (by decide) (fun a S => ?_)
            refine lx_skip S rfl rfl (isB_ne hc260) (by decide) (fun a S => ?_)
            refine lx_skip S rfl rfl (isB_ne hc260) (by decide) (fun a S => ?_)
            refine lx_skip S rfl rfl (isB_ne hc260) (by decide) (fun a S => ?_)
            refine lx_skip S rfl rfl (isB_ne hc260) (by decide) (fun a S => ?_)
            refine lx_skip S rfl rfl (isB_ne hc260) (by decide) (fun a S => ?_)
            refine lq (.bool false) S (q_pickF' rfl hc260 rfl) fun a S => ?_
            refine lx_nil ?_
            obtain rfl := Option.some.inj hm
            have H := H.sel [] (by decide)
            exact ⟨S.sub ⟨rfl, rfl, rfl, trivial⟩, H⟩
          ·rintro a w ⟨S, H⟩
           refine lx_nil (thenN ?_)
           refine cond_b S rfl (fun hc279 => ?_) (fun hc279 => ?_)
           ·have hm := ite_t hc279 hm
            refine wp_seq (region_plain ?_)
            refine lq (.bool false) S (q_assign rfl) fun a S => ?_
            refine lx_nil (thenN ?_)
            refine wp_ret (inBlock_ret ?_)
            refine then_ret ?_
            refine then_ret ?_
            refine inBlock_ret ?_
            refine then_ret ?_
            refine then_ret ?_
            obtain rfl := it_brk hm hc215
            have hm := ctl_inr hk212
            obtain rfl := Option.some.inj hm
            exact leave1 S rfl rfl ⟨rfl, H⟩
           ·have hm := ite_f hc279 hm
            refine wp_skip ?_
            refine inBlock_norm ?_
            refine thenN ?_
            refine region_plain ?_
            refine lq (.int .i64 x142) S (q_move rfl) fun a S => ?_
            refine lq (.int .i64 (W (x142 + (1 : Int)))) S (q_add rfl rfl) fun a S => ?_
            refine lq (.int .i64 (W (x142 + (1 : Int)))) S (q_assign rfl) fun a S => ?_
            refine lx_nil ?_
            exact ⟨m213, Nat.lt_succ_self _, (W (x142 + (1 : Int))), S.sub ⟨rfl, rfl, trivial⟩, H, it_cont hm hc215⟩
      ·have hm := ite_f hc216 hm
       refine wp_exit ?_
       refine then_exit ?_
       refine then_exit ?_
       refine inBlock_exit ?_
       obtain rfl := it_brk hm hc215
       exact ⟨S.sub trivial, H, rfl⟩

/-- impl.within -/
def impl_within_m (_ : Nat) (a0 : Int) (a1 : Int) (a2 : Int) : Option (Bool) :=
  (if (decide (a1 ≤ a0)) = true then some (decide (a0 ≤ a2)) else some false).bind fun t31 => some (t31)
set_option maxRecDepth 20000 in
theorem impl_within_ok [dr : Dr] {w0 : World} {fuel : Nat} {a0 : Int} {a1 : Int} {a2 : Int} {r : Bool} (hm : impl_within_m fuel a0 a1 a2 = some r) :
  Calls Tryz.prog 52 #[.int .i64 a0, .int .i64 a1, .int .i64 a2] w0 fun e w => e = .returned (.bool r) ∧ Heap w0 [] w := by
 unfold impl_within_m at hm
 have H := Heap.start w0
 refine enter (args := [.int .i64 a0, .int .i64 a1, .int .i64 a2]) Tryz.func52 rfl 15 rfl (Nat.le_of_ble_eq_true rfl) (fun a S => ?_)
 refine wp_seq (region_plain ?_)
 refine lq (.bool false) S (q_assign rfl) fun a S => ?_
 refine lx_nil (thenN ?_)
 refine wp_seq (region_plain ?_)
 refine lq (.int .i64 a0) S (q_move rfl) fun a S => ?_
 refine lq (.int .i64 a1) S (q_move rfl) fun a S => ?_
 refine lq (.bool (decide (a1 ≤ a0))) S (q_geq rfl rfl) fun a S => ?_
 refine lq (.bool (decide (a1 ≤ a0))) S (q_move rfl) fun a S => ?_
 obtain ⟨t31, e32, hm⟩ := bind_some hm
 refine lx_cut 4 (fun a w => Slots a 15 [(14, (.bool t31))] ∧ Heap w0 [] w) ?_ ?_
 ·by_cases hc33 : (decide (a1 ≤ a0)) = true
  ·have hm := ite_t hc33 e32
   refine lx_q (.int .i64 a0) S (want_b rfl rfl hc33) (by decide) (q_move rfl) (fun a S => ?_)
   refine lx_q (.int .i64 a2) S (want_b rfl rfl hc33) (by decide) (q_move rfl) (fun a S => ?_)
   refine lx_q (.bool (decide (a0 ≤ a2))) S (want_b rfl rfl hc33) (by decide) (q_leq rfl rfl) (fun a S => ?_)
   refine lq (.bool (decide (a0 ≤ a2))) S (q_pickT' rfl hc33 rfl) fun a S => ?_
   refine lx_nil ?_
   obtain rfl := Option.some.inj hm
   exact ⟨S.sub ⟨rfl, trivial⟩, H⟩
  ·have hm := ite_f (eq_false_of_ne_true hc33) e32
   have hc33 : (decide (a1 ≤ a0)) = false := eq_false_of_ne_true hc33
   refine lx_skip S rfl rfl (isB_ne hc33) (by decide) (fun a S => ?_)
   refine lx_skip S rfl rfl (isB_ne hc33) (by decide) (fun a S => ?_)
   refine lx_skip S rfl rfl (isB_ne hc33) (by decide) (fun a S => ?_)
   refine lq (.bool false) S (q_pickF' rfl hc33 rfl) fun a S => ?_
   refine lx_nil ?_
   obtain rfl := Option.some.inj hm
   exact ⟨S.sub ⟨rfl, trivial⟩, H⟩
 ·rintro a w ⟨S, H⟩
  refine lq (.bool t31) S (q_assign rfl) fun a S => ?_
  refine lx_nil (thenN ?_)
  refine wp_ret ?_
  obtain rfl := Option.some.inj hm
  exact leave1 S rfl rfl ⟨rfl, H⟩

/-- (impl.Lts).isState -/
def impl_Lts_isState_m (fuel : Nat) (a0 : Timpl_Lts) (a1 : Int) : Option (Bool) :=
  (impl_within_m fuel a1 (0 : Int) (W (a0.1 - (1 : Int)))).bind fun x54 => some (x54)
set_option maxRecDepth 20000 in
theorem impl_Lts_isState_ok [dr : Dr] {w0 : World} {fuel : Nat} {p0 : Value} {a0 : Timpl_Lts} {a1 : Int} {r : Bool} (h0 : Rd Rimpl_Lts w0 p0 a0) (hm : impl_Lts_isState_m fuel a0 a1 = some r) :
  Calls Tryz.prog 53 #[p0, .int .i64 a1] w0 fun e w => e = .returned (.bool r) ∧ Heap w0 [] w := by
 unfold impl_Lts_isState_m at hm
 have H := Heap.start w0
 obtain ⟨c31, rfl, h32⟩ := h0
 obtain ⟨c37, c38, rfl, h39, h40⟩ := h32
 obtain rfl := h39
 obtain ⟨c41, c42, rfl, h43, h44⟩ := h40
 obtain rfl := h43
 obtain ⟨c45, c46, rfl, h47, h48⟩ := h44
 obtain ⟨v33, rfl, h34⟩ := rd_list h47
 obtain ⟨v35, rfl, h36⟩ := rd_list h48
 refine enter (args := [(.agg #[(.int .i64 a0.1), (.int .i64 a0.2.1), v33, v35]), .int .i64 a1]) Tryz.func53 rfl 10 rfl (Nat.le_of_ble_eq_true rfl) (fun a S => ?_)
 refine wp_seq (region_plain ?_)
 refine lx_box S trivial (by decide) rfl H rfl rfl (fun b49 w50 H => ⟨trivial, fun a S => ?_⟩)
 refine lq (.bool false) S (q_assign rfl) fun a S => ?_
 refine lx_nil (thenN ?_)
 refine wp_seq (region_plain ?_)
 refine lq (.int .i64 a1) S (q_move rfl) fun a S => ?_
 refine lq (pAdd (bp b49) 0) S (q_fieldAddr' 0 2 rfl (isP_bp _) Tryz.underlying31 rfl Tryz.sizeOf2) fun a S => ?_
 refine lx_e (.int .i64 a0.1) S trivial (by decide) rfl trivial (q_load1 rfl Tryz.isAgg2 (by rintro _ rfl; exact (At.of_add (m := 0) (j := 0) (boxAt (i := 0) H rfl (j := 0) rfl)))) (fun a S => ?_)
 refine lq (.int .i64 (W (a0.1 - (1 : Int)))) S (q_sub rfl rfl) fun a S => ?_
 obtain ⟨x54, e55, hm⟩ := bind_some hm
 refine lx_call (xs := [.tmp 5, .const (.int .i64 (0)), .tmp 8]) S trivial (by decide) rfl rfl Tryz.call52 ((impl_within_ok    e55).mono ?_)
 rintro e w52 ⟨rfl, Hc53⟩
 have H := H.call0 Hc53
 refine ⟨_, rfl, trivial, fun a S => ?_⟩
 refine lq (.bool x54) S (q_assign rfl) fun a S => ?_
 refine lx_nil (thenN ?_)
 refine wp_ret ?_
 obtain rfl := Option.some.inj hm
 have H : Heap w0 [] w52 := H.sel [] (by decide)
 exact leave1 S rfl rfl ⟨rfl, H⟩

/-- impl.Decimal -/
def impl_Decimal_m (fuel : Nat) (a0 : Int) : Option (Str) :=
  (strconv_FormatInt_m fuel a0 (10 : Int)).bind fun x33 => some (x33)
set_option maxRecDepth 20000 in
theorem impl_Decimal_ok [dr : Dr] {w0 : World} {fuel : Nat} {a0 : Int} {r : Str} (hG : Glob Tryz.prog w0) (hm : impl_Decimal_m fuel a0 = some r) :
  Calls Tryz.prog 113 #[.int .i64 a0] w0 fun e w => e = .returned (sv r) ∧ Heap w0 [] w := by
 unfold impl_Decimal_m at hm
 have H := Heap.start w0
 refine enter (args := [.int .i64 a0]) Tryz.func113 rfl 5 rfl (Nat.le_of_ble_eq_true rfl) (fun a S => ?_)
 refine wp_seq (region_plain ?_)
 refine lq (sv ([] : Str)) S (q_assign rfl) fun a S => ?_
 refine lx_nil (thenN ?_)
 refine wp_seq (region_plain ?_)
 refine lq (.int .i64 a0) S (q_move rfl) fun a S => ?_
 obtain ⟨x33, e34, hm⟩ := bind_some hm
 refine lx_call (xs := [.tmp 3, .const (.int .i64 (10))]) S trivial (by decide) rfl rfl Tryz.call152 ((strconv_FormatInt_ok (hG.ext H.ext)   e34).mono ?_)
 rintro e w31 ⟨rfl, Hc32⟩
 have H := H.call0 Hc32
 refine ⟨_, rfl, trivial, fun a S => ?_⟩
 refine lq (sv x33) S (q_assign rfl) fun a S => ?_
 refine lx_nil (thenN ?_)
 refine wp_ret ?_
 obtain rfl := Option.some.inj hm
 exact leave1 S rfl rfl ⟨rfl, H⟩

/-- impl.ReadDecimal -/
def impl_ReadDecimal_m (fuel : Nat) (a0 : Str) : Option ((Int × Bool)) :=
  (strings_TrimPrefix_m fuel a0 ([45] : Str)).bind fun x33 => (if (decide ((18 : Int) < (x33.length : Int))) = true then some (((0 : Int), false)) else (strconv_ParseInt_m fuel a0 (10 : Int) (64 : Int)).bind fun x39 => (if x39.2 = true then some true else (impl_Decimal_m fuel x39.1).bind fun x49 => some (x49 != a0)).bind fun t44 => (if t44 = true then some (((0 : Int), false)) else some ((x39.1, true))))
set_option maxRecDepth 20000 in
theorem impl_ReadDecimal_ok {w0 : World} {fuel : Nat} {a0 : Str} {r : (Int × Bool)} (hG : GlobE Tryz.prog w0) (hm : impl_ReadDecimal_m fuel a0 = some r) :
  Calls Tryz.prog 93 #[sv a0] w0 fun e w => e = .returned (.tuple #[.int .i64 r.1, .bool r.2]) ∧ Heap w0 [] w := by
 unfold impl_ReadDecimal_m at hm
 have H := Heap.start w0
 refine enter (args := [sv a0]) Tryz.func93 rfl 24 rfl (Nat.le_of_ble_eq_true rfl) (fun a S => ?_)
 refine wp_seq (region_plain ?_)
 refine lq (.int .i64 (0 : Int)) S (q_assign rfl) fun a S => ?_
 refine lq (.bool false) S (q_assign rfl) fun a S => ?_
 refine lx_nil (thenN ?_)
 refine wp_seq (wp_seq (region_plain ?_))
 refine lq (sv a0) S (q_move rfl) fun a S => ?_
 obtain ⟨x33, e34, hm⟩ := bind_some hm
 refine lx_call (xs := [.tmp 6, .const (sv [45])]) S trivial (by decide) rfl rfl Tryz.call111 ((strings_TrimPrefix_ok   e34).mono ?_)
 rintro e w31 ⟨rfl, Hc32⟩
 have H := H.call0 Hc32
 refine ⟨_, rfl, trivial, fun a S => ?_⟩
 refine lq (.int .i64 (x33.length : Int)) S (q_lenStr rfl rfl Tryz.underlying9) fun a S => ?_
 refine lq (.bool (decide ((18 : Int) < (x33.length : Int)))) S (q_gtr rfl rfl) fun a S => ?_
 refine lx_nil (thenN ?_)
 refine cond_b S rfl (fun hc36 => ?_) (fun hc36 => ?_)
 ·have hm := ite_t hc36 hm
  refine wp_seq (region_plain ?_)
  refine lq (.int .i64 (0 : Int)) S (q_assign rfl) fun a S => ?_
  refine lq (.bool false) S (q_assign rfl) fun a S => ?_
  refine lx_nil (thenN ?_)
  refine wp_ret (then_ret ?_)
  obtain rfl := Option.some.inj hm
  exact leave2 S rfl rfl rfl ⟨rfl, H⟩
 ·have hm := ite_f hc36 hm
  refine wp_skip (thenN ?_)
  refine wp_seq (region_plain ?_)
  refine lq (sv a0) S (q_move rfl) fun a S => ?_
  obtain ⟨x39, e40, hm⟩ := bind_some hm
  refine lx_call (xs := [.tmp 11, .const (.int .i64 (10)), .const (.int .i64 (64))]) S trivial (by decide) rfl rfl Tryz.call112 ((strconv_ParseInt_ok (hG.ext H.ext)    e40).mono ?_)
  rintro e w37 ⟨ve41, rfl, he42, Hc38⟩
  have H := H.call0 Hc38
  refine ⟨_, rfl, trivial, fun a S => ?_⟩
  refine lq (.tuple #[(.int .i64 x39.1), ve41]) S (q_move rfl) fun a S => ?_
  refine lq (.int .i64 x39.1) S (q_extract rfl rfl) fun a S => ?_
  refine lq ve41 S (q_extract rfl rfl) fun a S => ?_
  refine lq (.int .i64 x39.1) S (q_assign rfl) fun a S => ?_
  refine lq ve41 S (q_assign rfl) fun a S => ?_
  refine lx_nil (thenN ?_)
  refine wp_seq (wp_seq (region_plain ?_))
  refine lq ve41 S (q_move rfl) fun a S => ?_
  refine lq (.bool x39.2) S (q_errneq rfl he42 Tryz.underlying129) fun a S => ?_
  refine lq (.bool x39.2) S (q_move rfl) fun a S => ?_
  obtain ⟨t44, e45, hm⟩ := bind_some hm
  refine lx_cut 5 (fun a w => Slots a 24 [(4, (.int .i64 x39.1)), (22, (.bool t44))] ∧ Heap w0 [] w) ?_ ?_
  ·by_cases hc46 : x39.2 = true
   ·have hm := ite_t hc46 e45
    refine lx_skip S rfl rfl (isB_ne hc46) (by decide) (fun a S => ?_)
    refine lx_skip S rfl rfl (isB_ne hc46) (by decide) (fun a S => ?_)
    refine lx_skip S rfl rfl (isB_ne hc46) (by decide) (fun a S => ?_)
    refine lx_skip S rfl rfl (isB_ne hc46) (by decide) (fun a S => ?_)
    refine lq (.bool true) S (q_pickT' rfl hc46 rfl) fun a S => ?_
    refine lx_nil ?_
    obtain rfl := Option.some.inj hm
    exact ⟨S.sub ⟨rfl, rfl, trivial⟩, H⟩
   ·have hm := ite_f (eq_false_of_ne_true hc46) e45
    have hc46 : x39.2 = false := eq_false_of_ne_true hc46
    refine lx_q (.int .i64 x39.1) S (want_b rfl rfl hc46) (by decide) (q_move rfl) (fun a S => ?_)
    obtain ⟨x49, e50, hm⟩ := bind_some hm
    refine lx_call (xs := [.tmp 18]) S (want_b rfl rfl hc46) (by decide) rfl rfl Tryz.call113 ((impl_Decimal_ok (hG.ext H.ext).toGlob  e50).mono ?_)
    rintro e w47 ⟨rfl, Hc48⟩
    have H := H.call0 Hc48
    refine ⟨_, rfl, trivial, fun a S => ?_⟩
    refine lx_q (sv a0) S (want_b rfl rfl hc46) (by decide) (q_move rfl) (fun a S => ?_)
    refine lx_q (.bool (x49 != a0)) S (want_b rfl rfl hc46) (by decide) (q_sneq rfl rfl) (fun a S => ?_)
    refine lq (.bool (x49 != a0)) S (q_pickF' rfl hc46 rfl) fun a S => ?_
    refine lx_nil ?_
    obtain rfl := Option.some.inj hm
    exact ⟨S.sub ⟨rfl, rfl, trivial⟩, H⟩
  ·rintro a w ⟨S, H⟩
   refine lx_nil (thenN ?_)
   refine cond_b S rfl (fun hc52 => ?_) (fun hc52 => ?_)
   ·have hm := ite_t hc52 hm
    refine wp_seq (region_plain ?_)
    refine lq (.int .i64 (0 : Int)) S (q_assign rfl) fun a S => ?_
    refine lq (.bool false) S (q_assign rfl) fun a S => ?_
    refine lx_nil (thenN ?_)
    refine wp_ret (then_ret ?_)
    obtain rfl := Option.some.inj hm
    exact leave2 S rfl rfl rfl ⟨rfl, H⟩
   ·have hm := ite_f hc52 hm
    refine wp_skip (thenN ?_)
    refine wp_seq (region_plain ?_)
    refine lq (.int .i64 x39.1) S (q_move rfl) fun a S => ?_
    refine lq (.int .i64 x39.1) S (q_assign rfl) fun a S => ?_
    refine lq (.bool true) S (q_assign rfl) fun a S => ?_
    refine lx_nil (thenN ?_)
    refine wp_ret ?_
    obtain rfl := Option.some.inj hm
    exact leave2 S rfl rfl rfl ⟨rfl, H⟩

/-- impl.readNumbers -/
def impl_readNumbers_m (fuel : Nat) (a0 : (List Str)) : Option (((List Int) × Bool)) :=
  (iter (fun (s : (List Int) × (Int)) => (match s with | (xs57, x59) => (if (decide (x59 < (a0.length : Int))) = true then (idx a0 x59).bind fun x97 => (impl_ReadDecimal_m fuel x97).bind fun x104 => (if (!x104.2) = true then some (.inr (.inr ([], false))) else (app xs57 [x104.1]).bind fun x112 => some (.inl (x112, (W (x59 + (1 : Int)))))) else some (.inr (.inl (xs57)))) : Option (((List Int) × (Int)) ⊕ (((List Int)) ⊕ (((List Int) × Bool)))))) fuel ([], (0 : Int))).bind fun res87 => ctl (β := (List Int)) (ρ := ((List Int) × Bool)) (τ := ((List Int) × Bool)) res87 (fun (xs85) => some ((xs85, true))) (fun q => some (q))
set_option maxRecDepth 20000 in
theorem impl_readNumbers_ok {w0 : World} {fuel : Nat} {p0 : Value} {a0 : (List Str)} {r : ((List Int) × Bool)} (hG : GlobE Tryz.prog w0) (h0 : Rd (rList rStr) w0 p0 a0) (hm : impl_readNumbers_m fuel a0 = some r) :
  Calls Tryz.prog 68 #[p0] w0 fun e w => ∃ (v0 : Value), e = .returned (.tuple #[v0, .bool r.2]) ∧ Heap w0 [oA (rList (rInt .i64)) v0 r.1] w := by
 unfold impl_readNumbers_m at hm
 have H := Heap.start w0
 refine enter (args := [p0]) Tryz.func68 rfl 28 rfl (Nat.le_of_ble_eq_true rfl) (fun a S => ?_)
 refine wp_seq (region_plain ?_)
 refine lq (.slice none 0 0) S (q_assign rfl) fun a S => ?_
 refine lq (.bool false) S (q_assign rfl) fun a S => ?_
 refine lx_nil (thenN ?_)
 refine wp_seq (region_plain ?_)
 refine lq (.slice none 0 0) S (q_assign rfl) fun a S => ?_
 refine lx_nil (thenN ?_)
 refine wp_seq (wp_seq (region_plain ?_))
 refine lq p0 S (q_move rfl) fun a S => ?_
 refine lq (.int .i64 (a0.length : Int)) S (q_lenSl rfl (h0).isSl rfl Tryz.underlying22) fun a S => ?_
 refine lq (.int .i64 (0 : Int)) S (q_move rfl) fun a S => ?_
 refine lx_nil (thenN ?_)
 obtain ⟨res87, hit88, hk91⟩ := bind_some hm
 obtain ⟨f89, hf90, hit88⟩ := iter_name hit88
 refine block_loop (fun a w => ∃ (xs85 : List Int) (v84 : Value), Slots a 28 [(4, v84)] ∧ Heap w0 [oA (rList (rInt .i64)) v84 xs85] w ∧ res87 = .inl (xs85)) ?_ ?_
 ·rintro a w ⟨xs85, v84, S, H, rfl⟩
  have hm := ctl_inl hk91
  refine thenN ?_
  refine wp_seq (region_plain ?_)
  refine lq v84 S (q_move rfl) fun a S => ?_
  refine lq v84 S (q_assign rfl) fun a S => ?_
  refine lq (.bool true) S (q_assign rfl) fun a S => ?_
  refine lx_nil (thenN ?_)
  refine wp_ret ?_
  obtain rfl := Option.some.inj hm
  exact leave2 S rfl rfl rfl ⟨v84, rfl, H⟩
 ·skip
  have H : Heap w0 [oA (rList (rInt .i64)) (.slice none 0 0) ([] : List Int)] w0 := H.nilList (rInt .i64)
  refine loop_ghost (fun n a w => ∃ (xs57 : List Int) (x59 : Int) (v56 : Value), Slots a 28 [(4, v56), (9, p0), (10, (.int .i64 (a0.length : Int))), (11, (.int .i64 x59))] ∧ Heap w0 [oA (rList (rInt .i64)) v56 xs57] w ∧ iter f89 n (xs57, x59) = some res87) _ ⟨[], (0 : Int), (.slice none 0 0), S.sub ⟨rfl, rfl, rfl, rfl, trivial⟩, H, hit88⟩ ?_
  rintro n a w ⟨xs57, x59, v56, S, H, hit88⟩
  obtain ⟨m93, o94, rfl, hm, hc95⟩ := iter_step hit88
  rw [hf90] at hm
  refine wp_seq (region_plain ?_)
  refine lq (.bool (decide (x59 < (a0.length : Int)))) S (q_lss rfl rfl) fun a S => ?_
  refine lx_nil (thenN ?_)
  refine wp_seq ?_
  refine cond_b S rfl (fun hc96 => ?_) (fun hc96 => ?_)
  ·have hm := ite_t hc96 hm
   refine wp_skip (thenN ?_)
   refine wp_seq ?_
   refine wp_block ?_
   refine wp_seq (region_plain ?_)
   obtain ⟨x97, e98, hm⟩ := bind_some hm
   obtain ⟨c99, h100, hat101⟩ := (h0).elem (idx_some e98).2
   obtain rfl := h100
   have hlt := lt_of_idx (idx_some e98).2
   refine lq (ePtr p0 (x59.toNat * 1)) S (q_indexAddr rfl (h0).isSl rfl (idx_some e98).1 hlt Tryz.underlying22 Tryz.sizeOf9) fun a S => ?_
   refine lx_e (sv x97) S trivial (by decide) rfl trivial (q_load1 rfl Tryz.isAgg9 (by rintro _ rfl; exact ((hat101 0 _ rfl).ext H.ext))) (fun a S => ?_)
   refine lq (sv x97) S (q_assign rfl) fun a S => ?_
   refine lx_nil (thenN ?_)
   refine wp_seq (region_plain ?_)
   refine lq (sv x97) S (q_move rfl) fun a S => ?_
   obtain ⟨x104, e105, hm⟩ := bind_some hm
   refine lx_call (xs := [.tmp 16]) S trivial (by decide) rfl rfl Tryz.call93 ((impl_ReadDecimal_ok (hG.ext H.ext)  e105).mono ?_)
   rintro e w102 ⟨rfl, Hc103⟩
   have H := H.call0 Hc103
   refine ⟨_, rfl, trivial, fun a S => ?_⟩
   refine lq (.tuple #[(.int .i64 x104.1), (.bool x104.2)]) S (q_move rfl) fun a S => ?_
   refine lq (.int .i64 x104.1) S (q_extract rfl rfl) fun a S => ?_
   refine lq (.bool x104.2) S (q_extract rfl rfl) fun a S => ?_
   refine lq (.int .i64 x104.1) S (q_assign rfl) fun a S => ?_
   refine lq (.bool x104.2) S (q_assign rfl) fun a S => ?_
   refine lx_nil (thenN ?_)
   refine wp_seq (wp_seq (region_plain ?_))
   refine lq (.bool x104.2) S (q_move rfl) fun a S => ?_
   refine lq (.bool (!x104.2)) S (q_not rfl) fun a S => ?_
   refine lx_nil (thenN ?_)
   refine cond_b S rfl (fun hc107 => ?_) (fun hc107 => ?_)
   ·have hm := ite_t hc107 hm
    refine wp_seq (region_plain ?_)
    refine lq (.slice none 0 0) S (q_assign rfl) fun a S => ?_
    refine lq (.bool false) S (q_assign rfl) fun a S => ?_
    refine lx_nil (thenN ?_)
    refine wp_ret (then_ret ?_)
    refine inBlock_ret ?_
    refine then_ret ?_
    refine then_ret ?_
    refine inBlock_ret ?_
    refine then_ret ?_
    refine then_ret ?_
    obtain rfl := it_brk hm hc95
    have hm := ctl_inr hk91
    obtain rfl := Option.some.inj hm
    have H : Heap w0 [oA (rList (rInt .i64)) (.slice none 0 0) ([] : List Int), oA (rList (rInt .i64)) v56 xs57] w102 := H.nilList (rInt .i64)
    have H : Heap w0 [oA (rList (rInt .i64)) (.slice none 0 0) ([] : List Int)] w102 := H.sel [0] (by decide)
    exact leave2 S rfl rfl rfl ⟨(.slice none 0 0), rfl, H⟩
   ·have hm := ite_f hc107 hm
    refine wp_skip (thenN ?_)
    refine region_plain ?_
    refine lq v56 S (q_move rfl) fun a S => ?_
    refine lq (.int .i64 x104.1) S (q_move rfl) fun a S => ?_
    refine lx_buildSlice (r := (rInt .i64)) (xs := [x104.1]) (ps := [(0, [(.int .i64 x104.1)])]) (cs := [(.int .i64 x104.1)]) (parts := [(0, .tmp 23)]) S trivial (by decide) rfl (H.put0 (A := eA) rfl) rfl Tryz.underlying61 Tryz.sizeOf2 Tryz.zeroValue2 (by decide) ⟨rfl, rfl, Nat.le_of_ble_eq_true rfl, trivial⟩ (by intro zs hz; exact fill_dense hz ⟨rfl, trivial⟩ rfl rfl) rfl (by decide) (fun w F hA => by cases (show F = [] from hA); exact ⟨_, _, [(.int .i64 x104.1)], _, rfl, rfl, ⟨rfl, rfl⟩, ⟨rfl, rfl⟩⟩) (fun v109 w110 H => ⟨trivial, fun a S => ?_⟩)
    obtain ⟨x112, e113, hm⟩ := bind_some hm
    obtain ⟨hle, hap⟩ := app_some e113
    replace hap := hap.symm
    subst hap
    have H : Heap w0 [oA (rList (rInt .i64)) v109 [x104.1], oA (rList (rInt .i64)) v56 xs57] w110 := H.front 0 rfl
    have H : Heap w0 [oA (rList (rInt .i64)) v56 xs57, oA (rList (rInt .i64)) v109 [x104.1]] w110 := H.front 1 rfl
    refine lx_appendOwn (r := (rInt .i64)) S trivial (by decide) rfl H rfl rfl Tryz.underlying61 Tryz.ti2 rfl rfl rfl (Nat.le_of_ble_eq_true rfl) (by decide) hle (fun v114 w115 H => ⟨trivial, fun a S => ?_⟩)
    refine lq v114 S (q_assign rfl) fun a S => ?_
    refine lx_nil ?_
    refine inBlock_norm ?_
    refine thenN ?_
    refine region_plain ?_
    refine lq (.int .i64 (W (x59 + (1 : Int)))) S (q_add rfl rfl) fun a S => ?_
    refine lq (.int .i64 (W (x59 + (1 : Int)))) S (q_move rfl) fun a S => ?_
    refine lx_nil ?_
    exact ⟨m93, Nat.lt_succ_self _, (xs57 ++ [x104.1]), (W (x59 + (1 : Int))), v114, S.sub ⟨rfl, rfl, rfl, rfl, trivial⟩, H, it_cont hm hc95⟩
  ·have hm := ite_f hc96 hm
   refine wp_exit ?_
   refine then_exit ?_
   refine then_exit ?_
   refine inBlock_exit ?_
   obtain rfl := it_brk hm hc95
   exact ⟨xs57, v56, S.sub ⟨rfl, trivial⟩, H, rfl⟩

/-- impl.isDigit -/
def impl_isDigit_m (_ : Nat) (a0 : Int) : Option (Bool) :=
  (if (decide ((48 : Int) ≤ a0)) = true then some (decide (a0 ≤ (57 : Int))) else some false).bind fun t31 => some (t31)
set_option maxRecDepth 20000 in
theorem impl_isDigit_ok [dr : Dr] {w0 : World} {fuel : Nat} {a0 : Int} {r : Bool} (hm : impl_isDigit_m fuel a0 = some r) :
  Calls Tryz.prog 91 #[.int .u8 a0] w0 fun e w => e = .returned (.bool r) ∧ Heap w0 [] w := by
 unfold impl_isDigit_m at hm
 have H := Heap.start w0
 refine enter (args := [.int .u8 a0]) Tryz.func91 rfl 9 rfl (Nat.le_of_ble_eq_true rfl) (fun a S => ?_)
 refine wp_seq (region_plain ?_)
 refine lq (.bool false) S (q_assign rfl) fun a S => ?_
 refine lx_nil (thenN ?_)
 refine wp_seq (region_plain ?_)
 refine lq (.int .u8 a0) S (q_move rfl) fun a S => ?_
 refine lq (.bool (decide ((48 : Int) ≤ a0))) S (q_geq rfl rfl) fun a S => ?_
 refine lq (.bool (decide ((48 : Int) ≤ a0))) S (q_move rfl) fun a S => ?_
 obtain ⟨t31, e32, hm⟩ := bind_some hm
 refine lx_cut 3 (fun a w => Slots a 9 [(8, (.bool t31))] ∧ Heap w0 [] w) ?_ ?_
 ·by_cases hc33 : (decide ((48 : Int) ≤ a0)) = true
  ·have hm := ite_t hc33 e32
   refine lx_q (.int .u8 a0) S (want_b rfl rfl hc33) (by decide) (q_move rfl) (fun a S => ?_)
   refine lx_q (.bool (decide (a0 ≤ (57 : Int)))) S (want_b rfl rfl hc33) (by decide) (q_leq rfl rfl) (fun a S => ?_)
   refine lq (.bool (decide (a0 ≤ (57 : Int)))) S (q_pickT' rfl hc33 rfl) fun a S => ?_
   refine lx_nil ?_
   obtain rfl := Option.some.inj hm
   exact ⟨S.sub ⟨rfl, trivial⟩, H⟩
  ·have hm := ite_f (eq_false_of_ne_true hc33) e32
   have hc33 : (decide ((48 : Int) ≤ a0)) = false := eq_false_of_ne_true hc33
   refine lx_skip S rfl rfl (isB_ne hc33) (by decide) (fun a S => ?_)
   refine lx_skip S rfl rfl (isB_ne hc33) (by decide) (fun a S => ?_)
   refine lq (.bool false) S (q_pickF' rfl hc33 rfl) fun a S => ?_
   refine lx_nil ?_
   obtain rfl := Option.some.inj hm
   exact ⟨S.sub ⟨rfl, trivial⟩, H⟩
 ·rintro a w ⟨S, H⟩
  refine lq (.bool t31) S (q_assign rfl) fun a S => ?_
  refine lx_nil (thenN ?_)
  refine wp_ret ?_
  obtain rfl := Option.some.inj hm
  exact leave1 S rfl rfl ⟨rfl, H⟩

/-- impl.IsName -/
def impl_IsName_m (fuel : Nat) (a0 : Str) : Option (Bool) :=
  (iter (fun (s : (Int)) => (match s with | (x54) => (if (decide (x54 < (a0.length : Int))) = true then (idx a0 x54).bind fun b90 => (if (decide ((97 : Int) ≤ (b90.toNat : Int))) = true then (idx a0 x54).bind fun b95 => some (decide ((b95.toNat : Int) ≤ (122 : Int))) else some false).bind fun t92 => (if (!t92) = true then (if (x54 == (0 : Int)) = true then some true else (idx a0 x54).bind fun b103 => (impl_isDigit_m fuel (b103.toNat : Int)).bind fun x107 => some (!x107)).bind fun t100 => some t100 else some false).bind fun t97 => (if t97 = true then some (.inr (.inr false)) else some (.inl ((W (x54 + (1 : Int)))))) else some (.inr (.inl ()))) : Option (((Int)) ⊕ ((Unit) ⊕ (Bool))))) fuel ((0 : Int))).bind fun res78 => ctl (β := Unit) (ρ := Bool) (τ := Bool) res78 (fun _ => (if (decide ((1 : Int) ≤ (a0.length : Int))) = true then some (decide ((a0.length : Int) ≤ (10 : Int))) else some false).bind fun t83 => some (t83)) (fun q => some (q))
set_option maxRecDepth 20000 in
theorem impl_IsName_ok [dr : Dr] {w0 : World} {fuel : Nat} {a0 : Str} {r : Bool} (hm : impl_IsName_m fuel a0 = some r) :
  Calls Tryz.prog 66 #[sv a0] w0 fun e w => e = .returned (.bool r) ∧ Heap w0 [] w := by
 unfold impl_IsName_m at hm
 have H := Heap.start w0
 refine enter (args := [sv a0]) Tryz.func66 rfl 42 rfl (Nat.le_of_ble_eq_true rfl) (fun a S => ?_)
 refine wp_seq (region_plain ?_)
 refine lq (.bool false) S (q_assign rfl) fun a S => ?_
 refine lx_nil (thenN ?_)
 refine wp_seq (wp_seq (region_plain ?_))
 refine lq (sv a0) S (q_move rfl) fun a S => ?_
 refine lq (.int .i64 (a0.length : Int)) S (q_lenStr rfl rfl Tryz.underlying9) fun a S => ?_
 refine lq (.int .i64 (0 : Int)) S (q_move rfl) fun a S => ?_
 refine lx_nil (thenN ?_)
 obtain ⟨res78, hit79, hk82⟩ := bind_some hm
 obtain ⟨f80, hf81, hit79⟩ := iter_name hit79
 refine block_loop (fun a w => Slots a 42 [(0, (sv a0))] ∧ Heap w0 [] w ∧ res78 = .inl ()) ?_ ?_
 ·rintro a w ⟨S, H, rfl⟩
  have hm := ctl_inl hk82
  refine thenN ?_
  refine wp_seq (region_plain ?_)
  refine lq (sv a0) S (q_move rfl) fun a S => ?_
  refine lq (.int .i64 (a0.length : Int)) S (q_lenStr rfl rfl Tryz.underlying9) fun a S => ?_
  refine lq (.bool (decide ((1 : Int) ≤ (a0.length : Int)))) S (q_geq rfl rfl) fun a S => ?_
  refine lq (.bool (decide ((1 : Int) ≤ (a0.length : Int)))) S (q_move rfl) fun a S => ?_
  obtain ⟨t83, e84, hm⟩ := bind_some hm
  refine lx_cut 4 (fun a w => Slots a 42 [(41, (.bool t83))] ∧ Heap w0 [] w) ?_ ?_
  ·by_cases hc85 : (decide ((1 : Int) ≤ (a0.length : Int))) = true
   ·have hm := ite_t hc85 e84
    refine lx_q (sv a0) S (want_b rfl rfl hc85) (by decide) (q_move rfl) (fun a S => ?_)
    refine lx_q (.int .i64 (a0.length : Int)) S (want_b rfl rfl hc85) (by decide) (q_lenStr rfl rfl Tryz.underlying9) (fun a S => ?_)
    refine lx_q (.bool (decide ((a0.length : Int) ≤ (10 : Int)))) S (want_b rfl rfl hc85) (by decide) (q_leq rfl rfl) (fun a S => ?_)
    refine lq (.bool (decide ((a0.length : Int) ≤ (10 : Int)))) S (q_pickT' rfl hc85 rfl) fun a S => ?_
    refine lx_nil ?_
    obtain rfl := Option.some.inj hm
    exact ⟨S.sub ⟨rfl, trivial⟩, H⟩
   ·have hm := ite_f (eq_false_of_ne_true hc85) e84
    have hc85 : (decide ((1 : Int) ≤ (a0.length : Int))) = false := eq_false_of_ne_true hc85
    refine lx_skip S rfl rfl (isB_ne hc85) (by decide) (fun a S => ?_)
    refine lx_skip S rfl rfl (isB_ne hc85) (by decide) (fun a S => ?_)
    refine lx_skip S rfl rfl (isB_ne hc85) (by decide) (fun a S => ?_)
    refine lq (.bool false) S (q_pickF' rfl hc85 rfl) fun a S => ?_
    refine lx_nil ?_
    obtain rfl := Option.some.inj hm
    exact ⟨S.sub ⟨rfl, trivial⟩, H⟩
  ·rintro a w ⟨S, H⟩
   refine lq (.bool t83) S (q_assign rfl) fun a S => ?_
   refine lx_nil (thenN ?_)
   refine wp_ret ?_
   obtain rfl := Option.some.inj hm
   exact leave1 S rfl rfl ⟨rfl, H⟩
 ·skip
  refine loop_ghost (fun n a w => ∃ (x54 : Int), Slots a 42 [(0, (sv a0)), (6, (.int .i64 (a0.length : Int))), (7, (.int .i64 x54))] ∧ Heap w0 [] w ∧ iter f80 n (x54) = some res78) _ ⟨(0 : Int), S.sub ⟨rfl, rfl, rfl, trivial⟩, H, hit79⟩ ?_
  rintro n a w ⟨x54, S, H, hit79⟩
  obtain ⟨m86, o87, rfl, hm, hc88⟩ := iter_step hit79
  rw [hf81] at hm
  refine wp_seq (region_plain ?_)
  refine lq (.bool (decide (x54 < (a0.length : Int)))) S (q_lss rfl rfl) fun a S => ?_
  refine lx_nil (thenN ?_)
  refine wp_seq ?_
  refine cond_b S rfl (fun hc89 => ?_) (fun hc89 => ?_)
  ·have hm := ite_t hc89 hm
   refine wp_skip (thenN ?_)
   refine wp_seq ?_
   refine wp_block ?_
   refine wp_seq (region_plain ?_)
   refine lq (.int .i64 x54) S (q_move rfl) fun a S => ?_
   refine lq (.int .i64 x54) S (q_assign rfl) fun a S => ?_
   refine lx_nil (thenN ?_)
   refine wp_seq (region_plain ?_)
   refine lq (sv a0) S (q_move rfl) fun a S => ?_
   refine lq (.int .i64 x54) S (q_move rfl) fun a S => ?_
   obtain ⟨b90, e91, hm⟩ := bind_some hm
   refine lq (.int .u8 (b90.toNat : Int)) S (q_sidx rfl rfl Tryz.underlying9 e91) fun a S => ?_
   refine lq (.bool (decide ((97 : Int) ≤ (b90.toNat : Int)))) S (q_geq rfl rfl) fun a S => ?_
   refine lq (.bool (decide ((97 : Int) ≤ (b90.toNat : Int)))) S (q_move rfl) fun a S => ?_
   obtain ⟨t92, e93, hm⟩ := bind_some hm
   refine lx_cut 5 (fun a w => Slots a 42 [(0, (sv a0)), (3, (.int .i64 x54)), (6, (.int .i64 (a0.length : Int))), (7, (.int .i64 x54)), (19, (.bool t92))] ∧ Heap w0 [] w) ?_ ?_
   ·by_cases hc94 : (decide ((97 : Int) ≤ (b90.toNat : Int))) = true
    ·have hm := ite_t hc94 e93
     refine lx_q (sv a0) S (want_b rfl rfl hc94) (by decide) (q_move rfl) (fun a S => ?_)
     refine lx_q (.int .i64 x54) S (want_b rfl rfl hc94) (by decide) (q_move rfl) (fun a S => ?_)
     obtain ⟨b95, e96, hm⟩ := bind_some hm
     refine lx_q (.int .u8 (b95.toNat : Int)) S (want_b rfl rfl hc94) (by decide) (q_sidx rfl rfl Tryz.underlying9 e96) (fun a S => ?_)
     refine lx_q (.bool (decide ((b95.toNat : Int) ≤ (122 : Int)))) S (want_b rfl rfl hc94) (by decide) (q_leq rfl rfl) (fun a S => ?_)
     refine lq (.bool (decide ((b95.toNat : Int) ≤ (122 : Int)))) S (q_pickT' rfl hc94 rfl) fun a S => ?_
     refine lx_nil ?_
     obtain rfl := Option.some.inj hm
     exact ⟨S.sub ⟨rfl, rfl, rfl, rfl, rfl, trivial⟩, H⟩
    ·have hm := ite_f (eq_false_of_ne_true hc94) e93
     have hc94 : (decide ((97 : Int) ≤ (b90.toNat : Int))) = false := eq_false_of_ne_true hc94
     refine lx_skip S rfl rfl (isB_ne hc94) (by decide) (fun a S => ?_)
     refine lx_skip S rfl rfl (isB_ne hc94) (by decide) (fun a S => ?_)
     refine lx_skip S rfl rfl (isB_ne hc94) (by decide) (fun a S => ?_)
     refine lx_skip S rfl rfl (isB_ne hc94) (by decide) (fun a S => ?_)
     refine lq (.bool false) S (q_pickF' rfl hc94 rfl) fun a S => ?_
     refine lx_nil ?_
     obtain rfl := Option.some.inj hm
     exact ⟨S.sub ⟨rfl, rfl, rfl, rfl, rfl, trivial⟩, H⟩
   ·rintro a w ⟨S, H⟩
    refine lq (.bool t92) S (q_assign rfl) fun a S => ?_
    refine lx_nil (thenN ?_)
    refine wp_seq (region_plain ?_)
    refine lq (.bool t92) S (q_move rfl) fun a S => ?_
    refine lq (.bool (!t92)) S (q_not rfl) fun a S => ?_
    refine lq (.bool (!t92)) S (q_move rfl) fun a S => ?_
    obtain ⟨t97, e98, hm⟩ := bind_some hm
    refine lx_cut 10 (fun a w => Slots a 42 [(0, (sv a0)), (6, (.int .i64 (a0.length : Int))), (7, (.int .i64 x54)), (32, (.bool t97))] ∧ Heap w0 [] w) ?_ ?_
    ·by_cases hc99 : (!t92) = true
     ·have hm := ite_t hc99 e98
      refine lx_q (.int .i64 x54) S (want_b rfl rfl hc99) (by decide) (q_move rfl) (fun a S => ?_)
      refine lx_q (.bool (x54 == (0 : Int))) S (want_b rfl rfl hc99) (by decide) (q_eql rfl rfl) (fun a S => ?_)
      refine lx_q (.bool (x54 == (0 : Int))) S (want_b rfl rfl hc99) (by decide) (q_move rfl) (fun a S => ?_)
      obtain ⟨t100, e101, hm⟩ := bind_some hm
      refine lx_cut 6 (fun a w => Slots a 42 [(0, (sv a0)), (6, (.int .i64 (a0.length : Int))), (7, (.int .i64 x54)), (22, (.bool (!t92))), (31, (.bool t100))] ∧ Heap w0 [] w) ?_ ?_
      ·by_cases hc102 : (x54 == (0 : Int)) = true
       ·have hm := ite_t hc102 e101
        refine lx_skip S rfl rfl (isB_ne hc102) (by decide) (fun a S => ?_)
        refine lx_skip S rfl rfl (isB_ne hc102) (by decide) (fun a S => ?_)
        refine lx_skip S rfl rfl (isB_ne hc102) (by decide) (fun a S => ?_)
        refine lx_skip S rfl rfl (isB_ne hc102) (by decide) (fun a S => ?_)
        refine lx_skip S rfl rfl (isB_ne hc102) (by decide) (fun a S => ?_)
        refine lx_q (.bool true) S (want_b rfl rfl hc99) (by decide) (q_pickT' rfl hc102 rfl) (fun a S => ?_)
        refine lx_nil ?_
        obtain rfl := Option.some.inj hm
        exact ⟨S.sub ⟨rfl, rfl, rfl, rfl, rfl, trivial⟩, H⟩
       ·have hm := ite_f (eq_false_of_ne_true hc102) e101
        have hc102 : (x54 == (0 : Int)) = false := eq_false_of_ne_true hc102
        refine lx_q (sv a0) S (want_b rfl rfl hc102) (by decide) (q_move rfl) (fun a S => ?_)
        refine lx_q (.int .i64 x54) S (want_b rfl rfl hc102) (by decide) (q_move rfl) (fun a S => ?_)
        obtain ⟨b103, e104, hm⟩ := bind_some hm
        refine lx_q (.int .u8 (b103.toNat : Int)) S (want_b rfl rfl hc102) (by decide) (q_sidx rfl rfl Tryz.underlying9 e104) (fun a S => ?_)
        obtain ⟨x107, e108, hm⟩ := bind_some hm
        refine lx_call (xs := [.tmp 28]) S (want_b rfl rfl hc102) (by decide) rfl rfl Tryz.call91 ((impl_isDigit_ok  e108).mono ?_)
        rintro e w105 ⟨rfl, Hc106⟩
        have H := H.call0 Hc106
        refine ⟨_, rfl, trivial, fun a S => ?_⟩
        refine lx_q (.bool (!x107)) S (want_b rfl rfl hc102) (by decide) (q_not rfl) (fun a S => ?_)
        refine lx_q (.bool (!x107)) S (want_b rfl rfl hc99) (by decide) (q_pickF' rfl hc102 rfl) (fun a S => ?_)
        refine lx_nil ?_
        obtain rfl := Option.some.inj hm
        exact ⟨S.sub ⟨rfl, rfl, rfl, rfl, rfl, trivial⟩, H⟩
      ·rintro a w ⟨S, H⟩
       refine lq (.bool t100) S (q_pickT' rfl hc99 rfl) fun a S => ?_
       refine lx_nil ?_
       obtain rfl := Option.some.inj hm
       exact ⟨S.sub ⟨rfl, rfl, rfl, rfl, trivial⟩, H⟩
     ·have hm := ite_f (eq_false_of_ne_true hc99) e98
      have hc99 : (!t92) = false := eq_false_of_ne_true hc99
      refine lx_skip S rfl rfl (isB_ne hc99) (by decide) (fun a S => ?_)
      refine lx_skip S rfl rfl (isB_ne hc99) (by decide) (fun a S => ?_)
      refine lx_skip S rfl rfl (isB_ne hc99) (by decide) (fun a S => ?_)
      refine lx_skip S rfl rfl rfl (by decide) (fun a S => ?_)
      refine lx_skip S rfl rfl rfl (by decide) (fun a S => ?_)
      refine lx_skip S rfl rfl rfl (by decide) (fun a S => ?_)
      refine lx_skip S rfl rfl rfl (by decide) (fun a S => ?_)
      refine lx_skip S rfl rfl rfl (by decide) (fun a S => ?_)
      refine lx_skip S rfl rfl (isB_ne hc99) (by decide) (fun a S => ?_)
      refine lq (.bool false) S (q_pickF' rfl hc99 rfl) fun a S => ?_
      refine lx_nil ?_
      obtain rfl := Option.some.inj hm
      exact ⟨S.sub ⟨rfl, rfl, rfl, rfl, trivial⟩, H⟩
    ·rintro a w ⟨S, H⟩
     refine lx_nil (thenN ?_)
     refine cond_b S rfl (fun hc110 => ?_) (fun hc110 => ?_)
     ·have hm := ite_t hc110 hm
      refine wp_seq (region_plain ?_)
      refine lq (.bool false) S (q_assign rfl) fun a S => ?_
      refine lx_nil (thenN ?_)
      refine wp_ret (inBlock_ret ?_)
      refine then_ret ?_
      refine then_ret ?_
      refine inBlock_ret ?_
      refine then_ret ?_
      refine then_ret ?_
      obtain rfl := it_brk hm hc88
      have hm := ctl_inr hk82
      obtain rfl := Option.some.inj hm
      exact leave1 S rfl rfl ⟨rfl, H⟩
     ·have hm := ite_f hc110 hm
      refine wp_skip ?_
      refine inBlock_norm ?_
      refine thenN ?_
      refine region_plain ?_
      refine lq (.int .i64 (W (x54 + (1 : Int)))) S (q_add rfl rfl) fun a S => ?_
      refine lq (.int .i64 (W (x54 + (1 : Int)))) S (q_move rfl) fun a S => ?_
      refine lx_nil ?_
      exact ⟨m86, Nat.lt_succ_self _, (W (x54 + (1 : Int))), S.sub ⟨rfl, rfl, rfl, trivial⟩, H, it_cont hm hc88⟩
  ·have hm := ite_f hc89 hm
   refine wp_exit ?_
   refine then_exit ?_
   refine then_exit ?_
   refine inBlock_exit ?_
   obtain rfl := it_brk hm hc88
   exact ⟨S.sub ⟨rfl, trivial⟩, H, rfl⟩
end Go.Proofs.YtldmecdkdoipdaaGreatDoor
