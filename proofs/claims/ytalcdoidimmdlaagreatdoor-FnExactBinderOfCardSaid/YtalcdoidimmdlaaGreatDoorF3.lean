/- The models of some functions and their walks (printed by a program of this repo). -/
import Derived.Test.YtalcdoidimmdlaaGreatDoorF0
import Derived.Test.YtalcdoidimmdlaaGreatDoorF2
import Derived.Test.YtalcdoidimmdlaaGreatDoorFS
import Derived.Test.YtalcdoidimmdlaaGreatDoorGxT
import Derived.Test.YtalcdoidimmdlaaGreatDoorGxY
namespace Go.Proofs.YtalcdoidimmdlaaGreatDoor
open Go.RowKit Go.Gx

/-- impl.labelOf -/
def impl_labelOf_m (fuel : Nat) (a0 : Str) (a1 : (List Int)) : Option ((Str × Bool)) :=
  (if (a0 == ([116, 97, 117] : Str)) = true then some ((([116, 97, 117] : Str), ((a1.length : Int) == (0 : Int)))) else (impl_IsAction_m fuel a0).bind fun x34 => (if (!x34) = true then some true else some (decide ((2 : Int) < (a1.length : Int)))).bind fun t37 => (if t37 = true then some true else (impl_areValues_m fuel a1).bind fun x45 => some (!x45)).bind fun t40 => (if t40 = true then some ((([] : Str), false)) else (if ((a1.length : Int) == (0 : Int)) = true then some ((a0, true)) else (cat a0 ([40] : Str)).bind fun x50 => (impl_joined_m fuel a1 ([44] : Str)).bind fun x54 => (cat x50 x54).bind fun x57 => (cat x57 ([41] : Str)).bind fun x59 => some ((x59, true)))))
set_option maxRecDepth 20000 in
theorem impl_labelOf_ok {w0 : World} {fuel : Nat} {p1 : Value} {a0 : Str} {a1 : (List Int)} {r : (Str × Bool)} (hG : Glob Tryz.prog w0) (h1 : Rd (rList (rInt .i64)) w0 p1 a1) (hm : impl_labelOf_m fuel a0 a1 = some r) :
  Calls Tryz.prog 111 #[sv a0, p1] w0 fun e w => e = .returned (.tuple #[sv r.1, .bool r.2]) ∧ Heap w0 [] w := by
 unfold impl_labelOf_m at hm
 have H := Heap.start w0
 refine enter (args := [sv a0, p1]) Tryz.func111 rfl 37 rfl (Nat.le_of_ble_eq_true rfl) (fun a S => ?_)
 refine wp_seq (region_plain ?_)
 refine lq (sv ([] : Str)) S (q_assign rfl) fun a S => ?_
 refine lq (.bool false) S (q_assign rfl) fun a S => ?_
 refine lx_nil (thenN ?_)
 refine wp_seq ?_
 refine wp_block ?_
 refine wp_seq (region_plain ?_)
 refine lq (sv a0) S (q_move rfl) fun a S => ?_
 refine lq (.bool (a0 == ([116, 97, 117] : Str))) S (q_seql rfl rfl) fun a S => ?_
 refine lq (.bool (a0 == ([116, 97, 117] : Str))) S (q_assign rfl) fun a S => ?_
 refine lx_nil (thenN ?_)
 refine cond_b S rfl (fun hc31 => ?_) (fun hc31 => ?_)
 ·have hm := ite_t hc31 hm
  refine wp_seq (region_plain ?_)
  refine lq p1 S (q_move rfl) fun a S => ?_
  refine lq (.int .i64 (a1.length : Int)) S (q_lenSl rfl (h1).isSl rfl Tryz.underlying45) fun a S => ?_
  refine lq (.bool ((a1.length : Int) == (0 : Int))) S (q_eql rfl rfl) fun a S => ?_
  refine lq (sv ([116, 97, 117] : Str)) S (q_assign rfl) fun a S => ?_
  refine lq (.bool ((a1.length : Int) == (0 : Int))) S (q_assign rfl) fun a S => ?_
  refine lx_nil (thenN ?_)
  refine wp_ret (inBlock_ret ?_)
  refine then_ret ?_
  obtain rfl := Option.some.inj hm
  exact leave2 S rfl rfl rfl ⟨rfl, H⟩
 ·have hm := ite_f hc31 hm
  refine wp_seq (region_plain ?_)
  refine lq (sv a0) S (q_move rfl) fun a S => ?_
  obtain ⟨x34, e35, hm⟩ := bind_some hm
  refine lx_call (xs := [.tmp 13]) S trivial (by decide) rfl rfl Tryz.call106 ((impl_IsAction_ok  e35).mono ?_)
  rintro e w32 ⟨rfl, Hc33⟩
  have H := H.call0 Hc33
  refine ⟨_, rfl, trivial, fun a S => ?_⟩
  refine lq (.bool (!x34)) S (q_not rfl) fun a S => ?_
  refine lq (.bool (!x34)) S (q_move rfl) fun a S => ?_
  obtain ⟨t37, e38, hm⟩ := bind_some hm
  refine lx_cut 4 (fun a w => Slots a 37 [(0, (sv a0)), (1, p1), (20, (.bool t37))] ∧ Heap w0 [] w) ?_ ?_
  ·by_cases hc39 : (!x34) = true
   ·have hm := ite_t hc39 e38
    refine lx_skip S rfl rfl (isB_ne hc39) (by decide) (fun a S => ?_)
    refine lx_skip S rfl rfl (isB_ne hc39) (by decide) (fun a S => ?_)
    refine lx_skip S rfl rfl (isB_ne hc39) (by decide) (fun a S => ?_)
    refine lq (.bool true) S (q_pickT' rfl hc39 rfl) fun a S => ?_
    refine lx_nil ?_
    obtain rfl := Option.some.inj hm
    exact ⟨S.sub ⟨rfl, rfl, rfl, trivial⟩, H⟩
   ·have hm := ite_f (eq_false_of_ne_true hc39) e38
    have hc39 : (!x34) = false := eq_false_of_ne_true hc39
    refine lx_q p1 S (want_b rfl rfl hc39) (by decide) (q_move rfl) (fun a S => ?_)
    refine lx_q (.int .i64 (a1.length : Int)) S (want_b rfl rfl hc39) (by decide) (q_lenSl rfl (h1).isSl rfl Tryz.underlying45) (fun a S => ?_)
    refine lx_q (.bool (decide ((2 : Int) < (a1.length : Int)))) S (want_b rfl rfl hc39) (by decide) (q_gtr rfl rfl) (fun a S => ?_)
    refine lq (.bool (decide ((2 : Int) < (a1.length : Int)))) S (q_pickF' rfl hc39 rfl) fun a S => ?_
    refine lx_nil ?_
    obtain rfl := Option.some.inj hm
    exact ⟨S.sub ⟨rfl, rfl, rfl, trivial⟩, H⟩
  ·rintro a w ⟨S, H⟩
   refine lq (.bool t37) S (q_move rfl) fun a S => ?_
   obtain ⟨t40, e41, hm⟩ := bind_some hm
   refine lx_cut 4 (fun a w => Slots a 37 [(0, (sv a0)), (1, p1), (25, (.bool t40))] ∧ Heap w0 [] w) ?_ ?_
   ·by_cases hc42 : t37 = true
    ·have hm := ite_t hc42 e41
     refine lx_skip S rfl rfl (isB_ne hc42) (by decide) (fun a S => ?_)
     refine lx_skip S rfl rfl (isB_ne hc42) (by decide) (fun a S => ?_)
     refine lx_skip S rfl rfl (isB_ne hc42) (by decide) (fun a S => ?_)
     refine lq (.bool true) S (q_pickT' rfl hc42 rfl) fun a S => ?_
     refine lx_nil ?_
     obtain rfl := Option.some.inj hm
     exact ⟨S.sub ⟨rfl, rfl, rfl, trivial⟩, H⟩
    ·have hm := ite_f (eq_false_of_ne_true hc42) e41
     have hc42 : t37 = false := eq_false_of_ne_true hc42
     refine lx_q p1 S (want_b rfl rfl hc42) (by decide) (q_move rfl) (fun a S => ?_)
     obtain ⟨x45, e46, hm⟩ := bind_some hm
     refine lx_call (xs := [.tmp 22]) S (want_b rfl rfl hc42) (by decide) rfl rfl Tryz.call123 ((impl_areValues_ok (H.arg h1) e46).mono ?_)
     rintro e w43 ⟨rfl, Hc44⟩
     have H := H.call0 Hc44
     refine ⟨_, rfl, trivial, fun a S => ?_⟩
     refine lx_q (.bool (!x45)) S (want_b rfl rfl hc42) (by decide) (q_not rfl) (fun a S => ?_)
     refine lq (.bool (!x45)) S (q_pickF' rfl hc42 rfl) fun a S => ?_
     refine lx_nil ?_
     obtain rfl := Option.some.inj hm
     exact ⟨S.sub ⟨rfl, rfl, rfl, trivial⟩, H⟩
   ·rintro a w ⟨S, H⟩
    refine lq (.bool t40) S (q_assign rfl) fun a S => ?_
    refine lx_nil (thenN ?_)
    refine cond_b S rfl (fun hc48 => ?_) (fun hc48 => ?_)
    ·have hm := ite_t hc48 hm
     refine wp_seq (region_plain ?_)
     refine lq (sv ([] : Str)) S (q_assign rfl) fun a S => ?_
     refine lq (.bool false) S (q_assign rfl) fun a S => ?_
     refine lx_nil (thenN ?_)
     refine wp_ret (inBlock_ret ?_)
     refine then_ret ?_
     obtain rfl := Option.some.inj hm
     exact leave2 S rfl rfl rfl ⟨rfl, H⟩
    ·have hm := ite_f hc48 hm
     refine wp_seq (region_plain ?_)
     refine lq p1 S (q_move rfl) fun a S => ?_
     refine lq (.int .i64 (a1.length : Int)) S (q_lenSl rfl (h1).isSl rfl Tryz.underlying45) fun a S => ?_
     refine lq (.bool ((a1.length : Int) == (0 : Int))) S (q_eql rfl rfl) fun a S => ?_
     refine lq (.bool ((a1.length : Int) == (0 : Int))) S (q_assign rfl) fun a S => ?_
     refine lx_nil (thenN ?_)
     refine cond_b S rfl (fun hc49 => ?_) (fun hc49 => ?_)
     ·have hm := ite_t hc49 hm
      refine wp_seq (region_plain ?_)
      refine lq (sv a0) S (q_move rfl) fun a S => ?_
      refine lq (sv a0) S (q_assign rfl) fun a S => ?_
      refine lq (.bool true) S (q_assign rfl) fun a S => ?_
      refine lx_nil (thenN ?_)
      refine wp_ret (inBlock_ret ?_)
      refine then_ret ?_
      obtain rfl := Option.some.inj hm
      exact leave2 S rfl rfl rfl ⟨rfl, H⟩
     ·have hm := ite_f hc49 hm
      refine wp_skip ?_
      refine inBlock_norm ?_
      refine thenN ?_
      refine wp_seq (region_plain ?_)
      refine lq (sv a0) S (q_move rfl) fun a S => ?_
      obtain ⟨x50, e51, hm⟩ := bind_some hm
      obtain ⟨hle, hcat⟩ := cat_some e51
      subst hcat
      refine lq (sv (a0 ++ ([40] : Str))) S (q_cat rfl rfl hle) fun a S => ?_
      refine lq p1 S (q_move rfl) fun a S => ?_
      obtain ⟨x54, e55, hm⟩ := bind_some hm
      refine lx_call (xs := [.tmp 33, .const (sv [44])]) S trivial (by decide) rfl rfl Tryz.call124 ((impl_joined_ok (hG.ext H.ext) (H.arg h1)  e55).mono ?_)
      rintro e w52 ⟨rfl, Hc53⟩
      have H := H.call0 Hc53
      refine ⟨_, rfl, trivial, fun a S => ?_⟩
      obtain ⟨x57, e58, hm⟩ := bind_some hm
      obtain ⟨hle, hcat⟩ := cat_some e58
      subst hcat
      refine lq (sv ((a0 ++ ([40] : Str)) ++ x54)) S (q_cat rfl rfl hle) fun a S => ?_
      obtain ⟨x59, e60, hm⟩ := bind_some hm
      obtain ⟨hle, hcat⟩ := cat_some e60
      subst hcat
      refine lq (sv (((a0 ++ ([40] : Str)) ++ x54) ++ ([41] : Str))) S (q_cat rfl rfl hle) fun a S => ?_
      refine lq (sv (((a0 ++ ([40] : Str)) ++ x54) ++ ([41] : Str))) S (q_assign rfl) fun a S => ?_
      refine lq (.bool true) S (q_assign rfl) fun a S => ?_
      refine lx_nil (thenN ?_)
      refine wp_ret ?_
      obtain rfl := Option.some.inj hm
      exact leave2 S rfl rfl rfl ⟨rfl, H⟩

/-- impl.readLabel -/
def impl_readLabel_m (fuel : Nat) (a0 : Str) : Option ((Str × (List Int) × Bool)) :=
  (strings_Cut_m fuel a0 ([40] : Str)).bind fun x33 => join (κ := List Int → Option (Str × (List Int) × Bool)) (fun (xs37 : List Int) => (impl_labelOf_m fuel x33.1 xs37).bind fun x43 => (if (!x43.2) = true then some true else some (x43.1 != a0)).bind fun t46 => (if t46 = true then some ((([] : Str), [], false)) else some ((x33.1, xs37, true)))) (fun K39 => (if x33.2.2 = true then (strings_TrimSuffix_m fuel x33.2.1 ([41] : Str)).bind fun x54 => (strings_Split_m fuel x54 ([44] : Str)).bind fun x59 => (impl_readNumbers_m fuel x59).bind fun x66 => (if (!x66.2) = true then some ((([] : Str), [], false)) else (K39 x66.1)) else (K39 [])))
set_option maxRecDepth 20000 in
theorem impl_readLabel_ok {w0 : World} {fuel : Nat} {a0 : Str} {r : (Str × (List Int) × Bool)} (hG : GlobE Tryz.prog w0) (hm : impl_readLabel_m fuel a0 = some r) :
  Calls Tryz.prog 95 #[sv a0] w0 fun e w => ∃ (v0 : Value), e = .returned (.tuple #[sv r.1, v0, .bool r.2.2]) ∧ Heap w0 [oA (rList (rInt .i64)) v0 r.2.1] w := by
 unfold impl_readLabel_m at hm
 have H := Heap.start w0
 refine enter (args := [sv a0]) Tryz.func95 rfl 43 rfl (Nat.le_of_ble_eq_true rfl) (fun a S => ?_)
 refine wp_seq (region_plain ?_)
 refine lq (sv ([] : Str)) S (q_assign rfl) fun a S => ?_
 refine lq (.slice none 0 0) S (q_assign rfl) fun a S => ?_
 refine lq (.bool false) S (q_assign rfl) fun a S => ?_
 refine lx_nil (thenN ?_)
 refine wp_seq (region_plain ?_)
 refine lq (sv a0) S (q_move rfl) fun a S => ?_
 obtain ⟨x33, e34, hm⟩ := bind_some hm
 refine lx_call (xs := [.tmp 13, .const (sv [40])]) S trivial (by decide) rfl rfl Tryz.call107 ((strings_Cut_ok (hG.ext H.ext).toGlob   e34).mono ?_)
 rintro e w31 ⟨rfl, Hc32⟩
 have H := H.call0 Hc32
 refine ⟨_, rfl, trivial, fun a S => ?_⟩
 refine lq (.tuple #[(sv x33.1), (sv x33.2.1), (.bool x33.2.2)]) S (q_move rfl) fun a S => ?_
 refine lq (sv x33.1) S (q_extract rfl rfl) fun a S => ?_
 refine lq (sv x33.2.1) S (q_extract rfl rfl) fun a S => ?_
 refine lq (.bool x33.2.2) S (q_extract rfl rfl) fun a S => ?_
 refine lq (sv x33.1) S (q_assign rfl) fun a S => ?_
 refine lq (sv x33.2.1) S (q_assign rfl) fun a S => ?_
 refine lq (.bool x33.2.2) S (q_assign rfl) fun a S => ?_
 refine lx_nil (thenN ?_)
 refine wp_seq (region_plain ?_)
 refine lq (.slice none 0 0) S (q_assign rfl) fun a S => ?_
 refine lx_nil (thenN ?_)
 obtain ⟨K39, hK40, hm⟩ := join_elim hm
 refine seq_cut (fun a w => ∃ (xs37 : List Int) (v36 : Value), Slots a 43 [(0, (sv a0)), (5, (sv x33.1)), (8, v36)] ∧ Heap w0 [oA (rList (rInt .i64)) v36 xs37] w ∧ K39 xs37 = some r) ?_ ?_
 ·rintro a w ⟨xs37, v36, S, H, hm⟩
  subst hK40
  refine wp_seq (wp_seq (region_plain ?_))
  refine lq (sv x33.1) S (q_move rfl) fun a S => ?_
  refine lq v36 S (q_move rfl) fun a S => ?_
  obtain ⟨x43, e44, hm⟩ := bind_some hm
  refine lx_call (xs := [.tmp 29, .tmp 30]) S trivial (by decide) rfl rfl Tryz.call111 ((impl_labelOf_ok (hG.ext H.ext).toGlob  (H.rdAt 0 rfl) e44).mono ?_)
  rintro e w41 ⟨rfl, Hc42⟩
  have H := H.call0 Hc42
  refine ⟨_, rfl, trivial, fun a S => ?_⟩
  refine lq (.tuple #[(sv x43.1), (.bool x43.2)]) S (q_move rfl) fun a S => ?_
  refine lq (sv x43.1) S (q_extract rfl rfl) fun a S => ?_
  refine lq (.bool x43.2) S (q_extract rfl rfl) fun a S => ?_
  refine lq (sv x43.1) S (q_assign rfl) fun a S => ?_
  refine lq (.bool x43.2) S (q_assign rfl) fun a S => ?_
  refine lx_nil (thenN ?_)
  refine wp_seq (region_plain ?_)
  refine lq (.bool x43.2) S (q_move rfl) fun a S => ?_
  refine lq (.bool (!x43.2)) S (q_not rfl) fun a S => ?_
  refine lq (.bool (!x43.2)) S (q_move rfl) fun a S => ?_
  obtain ⟨t46, e47, hm⟩ := bind_some hm
  refine lx_cut 4 (fun a w => Slots a 43 [(5, (sv x33.1)), (8, v36), (40, (.bool t46))] ∧ Heap w0 [oA (rList (rInt .i64)) v36 xs37] w) ?_ ?_
  ·by_cases hc48 : (!x43.2) = true
   ·have hm := ite_t hc48 e47
    refine lx_skip S rfl rfl (isB_ne hc48) (by decide) (fun a S => ?_)
    refine lx_skip S rfl rfl (isB_ne hc48) (by decide) (fun a S => ?_)
    refine lx_skip S rfl rfl (isB_ne hc48) (by decide) (fun a S => ?_)
    refine lq (.bool true) S (q_pickT' rfl hc48 rfl) fun a S => ?_
    refine lx_nil ?_
    obtain rfl := Option.some.inj hm
    exact ⟨S.sub ⟨rfl, rfl, rfl, trivial⟩, H⟩
   ·have hm := ite_f (eq_false_of_ne_true hc48) e47
    have hc48 : (!x43.2) = false := eq_false_of_ne_true hc48
    refine lx_q (sv x43.1) S (want_b rfl rfl hc48) (by decide) (q_move rfl) (fun a S => ?_)
    refine lx_q (sv a0) S (want_b rfl rfl hc48) (by decide) (q_move rfl) (fun a S => ?_)
    refine lx_q (.bool (x43.1 != a0)) S (want_b rfl rfl hc48) (by decide) (q_sneq rfl rfl) (fun a S => ?_)
    refine lq (.bool (x43.1 != a0)) S (q_pickF' rfl hc48 rfl) fun a S => ?_
    refine lx_nil ?_
    obtain rfl := Option.some.inj hm
    exact ⟨S.sub ⟨rfl, rfl, rfl, trivial⟩, H⟩
  ·rintro a w ⟨S, H⟩
   refine lx_nil (thenN ?_)
   refine cond_b S rfl (fun hc49 => ?_) (fun hc49 => ?_)
   ·have hm := ite_t hc49 hm
    refine wp_seq (region_plain ?_)
    refine lq (sv ([] : Str)) S (q_assign rfl) fun a S => ?_
    refine lq (.slice none 0 0) S (q_assign rfl) fun a S => ?_
    refine lq (.bool false) S (q_assign rfl) fun a S => ?_
    refine lx_nil (thenN ?_)
    refine wp_ret (then_ret ?_)
    obtain rfl := Option.some.inj hm
    have H : Heap w0 [oA (rList (rInt .i64)) (.slice none 0 0) ([] : List Int), oA (rList (rInt .i64)) v36 xs37] w := H.nilList (rInt .i64)
    have H : Heap w0 [oA (rList (rInt .i64)) (.slice none 0 0) ([] : List Int)] w := H.sel [0] (by decide)
    exact leave3 S rfl rfl rfl rfl ⟨(.slice none 0 0), rfl, H⟩
   ·have hm := ite_f hc49 hm
    refine wp_skip (thenN ?_)
    refine wp_seq (region_plain ?_)
    refine lq (sv x33.1) S (q_move rfl) fun a S => ?_
    refine lq v36 S (q_move rfl) fun a S => ?_
    refine lq (sv x33.1) S (q_assign rfl) fun a S => ?_
    refine lq v36 S (q_assign rfl) fun a S => ?_
    refine lq (.bool true) S (q_assign rfl) fun a S => ?_
    refine lx_nil (thenN ?_)
    refine wp_ret ?_
    obtain rfl := Option.some.inj hm
    exact leave3 S rfl rfl rfl rfl ⟨v36, rfl, H⟩
 ·skip
  refine wp_seq (region_plain ?_)
  refine lq (.bool x33.2.2) S (q_move rfl) fun a S => ?_
  refine lx_nil (thenN ?_)
  refine cond_b S rfl (fun hc51 => ?_) (fun hc51 => ?_)
  ·have hm := ite_t hc51 hm
   refine wp_seq (region_plain ?_)
   refine lq (.bool false) S (q_assign rfl) fun a S => ?_
   refine lx_nil (thenN ?_)
   refine wp_seq (region_plain ?_)
   refine lq (sv x33.2.1) S (q_move rfl) fun a S => ?_
   obtain ⟨x54, e55, hm⟩ := bind_some hm
   refine lx_call (xs := [.tmp 20, .const (sv [41])]) S trivial (by decide) rfl rfl Tryz.call110 ((strings_TrimSuffix_ok   e55).mono ?_)
   rintro e w52 ⟨rfl, Hc53⟩
   have H := H.call0 Hc53
   refine ⟨_, rfl, trivial, fun a S => ?_⟩
   obtain ⟨x59, e60, hm⟩ := bind_some hm
   refine lx_call (xs := [.tmp 21, .const (sv [44])]) S trivial (by decide) rfl rfl Tryz.call109 ((strings_Split_ok (hG.ext H.ext).toGlob   e60).mono ?_)
   rintro e w57 ⟨v61, rfl, Hc58⟩
   have H := H.call1 Hc58
   refine ⟨_, rfl, trivial, fun a S => ?_⟩
   obtain ⟨x66, e67, hm⟩ := bind_some hm
   refine lx_call (xs := [.tmp 22]) S trivial (by decide) rfl rfl Tryz.call108 ((impl_readNumbers_ok (hG.ext H.ext) (H.rdAt 0 rfl) e67).mono ?_)
   rintro e w64 ⟨v68, rfl, Hc65⟩
   have H := H.call1 Hc65
   refine ⟨_, rfl, trivial, fun a S => ?_⟩
   refine lq (.tuple #[v68, (.bool x66.2)]) S (q_move rfl) fun a S => ?_
   refine lq v68 S (q_extract rfl rfl) fun a S => ?_
   refine lq (.bool x66.2) S (q_extract rfl rfl) fun a S => ?_
   refine lq v68 S (q_assign rfl) fun a S => ?_
   refine lq (.bool x66.2) S (q_assign rfl) fun a S => ?_
   refine lx_nil (thenN ?_)
   refine wp_seq (region_plain ?_)
   refine lq (.bool x66.2) S (q_move rfl) fun a S => ?_
   refine lq (.bool (!x66.2)) S (q_not rfl) fun a S => ?_
   refine lx_nil (thenN ?_)
   refine cond_b S rfl (fun hc71 => ?_) (fun hc71 => ?_)
   ·have hm := ite_t hc71 hm
    refine wp_seq (region_plain ?_)
    refine lq (sv ([] : Str)) S (q_assign rfl) fun a S => ?_
    refine lq (.slice none 0 0) S (q_assign rfl) fun a S => ?_
    refine lq (.bool false) S (q_assign rfl) fun a S => ?_
    refine lx_nil (thenN ?_)
    refine wp_ret (then_ret ?_)
    obtain rfl := Option.some.inj hm
    have H : Heap w0 [oA (rList (rInt .i64)) (.slice none 0 0) ([] : List Int), oA (rList (rInt .i64)) v68 x66.1, oA (rList rStr) v61 x59] w64 := H.nilList (rInt .i64)
    have H : Heap w0 [oA (rList (rInt .i64)) (.slice none 0 0) ([] : List Int)] w64 := H.sel [0] (by decide)
    exact leave3 S rfl rfl rfl rfl ⟨(.slice none 0 0), rfl, H⟩
   ·have hm := ite_f hc71 hm
    refine wp_skip ?_
    have H : Heap w0 [oA (rList (rInt .i64)) v68 x66.1] w64 := H.sel [0] (by decide)
    exact ⟨x66.1, v68, S.sub ⟨rfl, rfl, rfl, trivial⟩, H, hm⟩
  ·have hm := ite_f hc51 hm
   refine wp_skip ?_
   have H : Heap w0 [oA (rList (rInt .i64)) (.slice none 0 0) ([] : List Int)] w31 := H.nilList (rInt .i64)
   exact ⟨[], (.slice none 0 0), S.sub ⟨rfl, rfl, rfl, trivial⟩, H, hm⟩

/-- impl.IsLabel -/
def impl_IsLabel_m (fuel : Nat) (a0 : Str) : Option (Bool) :=
  (impl_readLabel_m fuel a0).bind fun x33 => some (x33.2.2)
set_option maxRecDepth 20000 in
theorem impl_IsLabel_ok {w0 : World} {fuel : Nat} {a0 : Str} {r : Bool} (hG : GlobE Tryz.prog w0) (hm : impl_IsLabel_m fuel a0 = some r) :
  Calls Tryz.prog 83 #[sv a0] w0 fun e w => e = .returned (.bool r) ∧ Heap w0 [] w := by
 unfold impl_IsLabel_m at hm
 have H := Heap.start w0
 refine enter (args := [sv a0]) Tryz.func83 rfl 13 rfl (Nat.le_of_ble_eq_true rfl) (fun a S => ?_)
 refine wp_seq (region_plain ?_)
 refine lq (.bool false) S (q_assign rfl) fun a S => ?_
 refine lx_nil (thenN ?_)
 refine wp_seq (region_plain ?_)
 refine lq (sv a0) S (q_move rfl) fun a S => ?_
 obtain ⟨x33, e34, hm⟩ := bind_some hm
 refine lx_call (xs := [.tmp 7]) S trivial (by decide) rfl rfl Tryz.call95 ((impl_readLabel_ok (hG.ext H.ext)  e34).mono ?_)
 rintro e w31 ⟨v35, rfl, Hc32⟩
 have H := H.call1 Hc32
 refine ⟨_, rfl, trivial, fun a S => ?_⟩
 refine lq (.tuple #[(sv x33.1), v35, (.bool x33.2.2)]) S (q_move rfl) fun a S => ?_
 refine lq (sv x33.1) S (q_extract rfl rfl) fun a S => ?_
 refine lq v35 S (q_extract rfl rfl) fun a S => ?_
 refine lq (.bool x33.2.2) S (q_extract rfl rfl) fun a S => ?_
 refine lq (sv x33.1) S (q_assign rfl) fun a S => ?_
 refine lq v35 S (q_assign rfl) fun a S => ?_
 refine lq (.bool x33.2.2) S (q_assign rfl) fun a S => ?_
 refine lx_nil (thenN ?_)
 refine wp_seq (region_plain ?_)
 refine lq (.bool x33.2.2) S (q_move rfl) fun a S => ?_
 refine lq (.bool x33.2.2) S (q_assign rfl) fun a S => ?_
 refine lx_nil (thenN ?_)
 refine wp_ret ?_
 obtain rfl := Option.some.inj hm
 have H : Heap w0 [] w31 := H.sel [] (by decide)
 exact leave1 S rfl rfl ⟨rfl, H⟩

/-- impl.IsPattern -/
def impl_IsPattern_m (fuel : Nat) (a0 : Str) : Option (Bool) :=
  (strings_CutSuffix_m fuel a0 ([42] : Str)).bind fun x33 => (if (a0 == ([] : Str)) = true then some true else (impl_IsLabel_m fuel a0).bind fun x41 => some x41).bind fun t36 => (if t36 = true then some true else (if x33.2 = true then (impl_IsAction_m fuel x33.1).bind fun x52 => some x52 else some false).bind fun t47 => some t47).bind fun t44 => some (t44)
set_option maxRecDepth 20000 in
theorem impl_IsPattern_ok {w0 : World} {fuel : Nat} {a0 : Str} {r : Bool} (hG : GlobE Tryz.prog w0) (hm : impl_IsPattern_m fuel a0 = some r) :
  Calls Tryz.prog 94 #[sv a0] w0 fun e w => e = .returned (.bool r) ∧ Heap w0 [] w := by
 unfold impl_IsPattern_m at hm
 have H := Heap.start w0
 refine enter (args := [sv a0]) Tryz.func94 rfl 23 rfl (Nat.le_of_ble_eq_true rfl) (fun a S => ?_)
 refine wp_seq (region_plain ?_)
 refine lq (.bool false) S (q_assign rfl) fun a S => ?_
 refine lx_nil (thenN ?_)
 refine wp_seq (region_plain ?_)
 refine lq (sv a0) S (q_move rfl) fun a S => ?_
 obtain ⟨x33, e34, hm⟩ := bind_some hm
 refine lx_call (xs := [.tmp 6, .const (sv [42])]) S trivial (by decide) rfl rfl Tryz.call102 ((strings_CutSuffix_ok   e34).mono ?_)
 rintro e w31 ⟨rfl, Hc32⟩
 have H := H.call0 Hc32
 refine ⟨_, rfl, trivial, fun a S => ?_⟩
 refine lq (.tuple #[(sv x33.1), (.bool x33.2)]) S (q_move rfl) fun a S => ?_
 refine lq (sv x33.1) S (q_extract rfl rfl) fun a S => ?_
 refine lq (.bool x33.2) S (q_extract rfl rfl) fun a S => ?_
 refine lq (sv x33.1) S (q_assign rfl) fun a S => ?_
 refine lq (.bool x33.2) S (q_assign rfl) fun a S => ?_
 refine lx_nil (thenN ?_)
 refine wp_seq (region_plain ?_)
 refine lq (sv a0) S (q_move rfl) fun a S => ?_
 refine lq (.bool (a0 == ([] : Str))) S (q_seql rfl rfl) fun a S => ?_
 refine lq (.bool (a0 == ([] : Str))) S (q_move rfl) fun a S => ?_
 obtain ⟨t36, e37, hm⟩ := bind_some hm
 refine lx_cut 3 (fun a w => Slots a 23 [(3, (sv x33.1)), (4, (.bool x33.2)), (15, (.bool t36))] ∧ Heap w0 [] w) ?_ ?_
 ·by_cases hc38 : (a0 == ([] : Str)) = true
  ·have hm := ite_t hc38 e37
   refine lx_skip S rfl rfl (isB_ne hc38) (by decide) (fun a S => ?_)
   refine lx_skip S rfl rfl (isB_ne hc38) (by decide) (fun a S => ?_)
   refine lq (.bool true) S (q_pickT' rfl hc38 rfl) fun a S => ?_
   refine lx_nil ?_
   obtain rfl := Option.some.inj hm
   exact ⟨S.sub ⟨rfl, rfl, rfl, trivial⟩, H⟩
  ·have hm := ite_f (eq_false_of_ne_true hc38) e37
   have hc38 : (a0 == ([] : Str)) = false := eq_false_of_ne_true hc38
   refine lx_q (sv a0) S (want_b rfl rfl hc38) (by decide) (q_move rfl) (fun a S => ?_)
   obtain ⟨x41, e42, hm⟩ := bind_some hm
   refine lx_call (xs := [.tmp 13]) S (want_b rfl rfl hc38) (by decide) rfl rfl Tryz.call83 ((impl_IsLabel_ok (hG.ext H.ext)  e42).mono ?_)
   rintro e w39 ⟨rfl, Hc40⟩
   have H := H.call0 Hc40
   refine ⟨_, rfl, trivial, fun a S => ?_⟩
   refine lq (.bool x41) S (q_pickF' rfl hc38 rfl) fun a S => ?_
   refine lx_nil ?_
   obtain rfl := Option.some.inj hm
   exact ⟨S.sub ⟨rfl, rfl, rfl, trivial⟩, H⟩
 ·rintro a w ⟨S, H⟩
  refine lq (.bool t36) S (q_move rfl) fun a S => ?_
  obtain ⟨t44, e45, hm⟩ := bind_some hm
  refine lx_cut 6 (fun a w => Slots a 23 [(22, (.bool t44))] ∧ Heap w0 [] w) ?_ ?_
  ·by_cases hc46 : t36 = true
   ·have hm := ite_t hc46 e45
    refine lx_skip S rfl rfl (isB_ne hc46) (by decide) (fun a S => ?_)
    refine lx_skip S rfl rfl (isB_ne hc46) (by decide) (fun a S => ?_)
    refine lx_skip S rfl rfl rfl (by decide) (fun a S => ?_)
    refine lx_skip S rfl rfl rfl (by decide) (fun a S => ?_)
    refine lx_skip S rfl rfl (isB_ne hc46) (by decide) (fun a S => ?_)
    refine lq (.bool true) S (q_pickT' rfl hc46 rfl) fun a S => ?_
    refine lx_nil ?_
    obtain rfl := Option.some.inj hm
    exact ⟨S.sub ⟨rfl, trivial⟩, H⟩
   ·have hm := ite_f (eq_false_of_ne_true hc46) e45
    have hc46 : t36 = false := eq_false_of_ne_true hc46
    refine lx_q (.bool x33.2) S (want_b rfl rfl hc46) (by decide) (q_move rfl) (fun a S => ?_)
    refine lx_q (.bool x33.2) S (want_b rfl rfl hc46) (by decide) (q_move rfl) (fun a S => ?_)
    obtain ⟨t47, e48, hm⟩ := bind_some hm
    refine lx_cut 3 (fun a w => Slots a 23 [(16, (.bool t36)), (21, (.bool t47))] ∧ Heap w0 [] w) ?_ ?_
    ·by_cases hc49 : x33.2 = true
     ·have hm := ite_t hc49 e48
      refine lx_q (sv x33.1) S (want_b rfl rfl hc49) (by decide) (q_move rfl) (fun a S => ?_)
      obtain ⟨x52, e53, hm⟩ := bind_some hm
      refine lx_call (xs := [.tmp 19]) S (want_b rfl rfl hc49) (by decide) rfl rfl Tryz.call106 ((impl_IsAction_ok  e53).mono ?_)
      rintro e w50 ⟨rfl, Hc51⟩
      have H := H.call0 Hc51
      refine ⟨_, rfl, trivial, fun a S => ?_⟩
      refine lx_q (.bool x52) S (want_b rfl rfl hc46) (by decide) (q_pickT' rfl hc49 rfl) (fun a S => ?_)
      refine lx_nil ?_
      obtain rfl := Option.some.inj hm
      exact ⟨S.sub ⟨rfl, rfl, trivial⟩, H⟩
     ·have hm := ite_f (eq_false_of_ne_true hc49) e48
      have hc49 : x33.2 = false := eq_false_of_ne_true hc49
      refine lx_skip S rfl rfl (isB_ne hc49) (by decide) (fun a S => ?_)
      refine lx_skip S rfl rfl (isB_ne hc49) (by decide) (fun a S => ?_)
      refine lx_q (.bool false) S (want_b rfl rfl hc46) (by decide) (q_pickF' rfl hc49 rfl) (fun a S => ?_)
      refine lx_nil ?_
      obtain rfl := Option.some.inj hm
      exact ⟨S.sub ⟨rfl, rfl, trivial⟩, H⟩
    ·rintro a w ⟨S, H⟩
     refine lq (.bool t47) S (q_pickF' rfl hc46 rfl) fun a S => ?_
     refine lx_nil ?_
     obtain rfl := Option.some.inj hm
     exact ⟨S.sub ⟨rfl, trivial⟩, H⟩
  ·rintro a w ⟨S, H⟩
   refine lq (.bool t44) S (q_assign rfl) fun a S => ?_
   refine lx_nil (thenN ?_)
   refine wp_ret ?_
   obtain rfl := Option.some.inj hm
   exact leave1 S rfl rfl ⟨rfl, H⟩

/-- (impl.Node).fieldsOk -/
def impl_Node_fieldsOk_m (fuel : Nat) (a0 : Timpl_Node) : Option (Bool) :=
  (impl_Node_isModality_m fuel (a0.1, a0.2.1, a0.2.2.1, a0.2.2.2)).bind fun x50 => (if x50 = true then (impl_IsPattern_m fuel a0.2.2.1).bind fun x56 => some (x56) else (if (a0.2.2.1 == ([] : Str)) = true then some (!a0.2.2.2) else some false).bind fun t59 => some (t59))
set_option maxRecDepth 20000 in
theorem impl_Node_fieldsOk_ok {w0 : World} {fuel : Nat} {p0 : Value} {a0 : Timpl_Node} {r : Bool} (hG : GlobE Tryz.prog w0) (h0 : Rd Rimpl_Node w0 p0 a0) (hm : impl_Node_fieldsOk_m fuel a0 = some r) :
  Calls Tryz.prog 81 #[p0] w0 fun e w => e = .returned (.bool r) ∧ Heap w0 [] w := by
 unfold impl_Node_fieldsOk_m at hm
 have H := Heap.start w0
 obtain ⟨c31, rfl, h32⟩ := h0
 obtain ⟨c33, c34, rfl, h35, h36⟩ := h32
 obtain rfl := h35
 obtain ⟨c37, c38, rfl, h39, h40⟩ := h36
 obtain rfl := h39
 obtain ⟨c41, c42, rfl, h43, h44⟩ := h40
 obtain rfl := h43
 obtain rfl := h44
 refine enter (args := [(.agg #[(.int .i64 a0.1), (.int .i64 a0.2.1), (sv a0.2.2.1), (.bool a0.2.2.2)])]) Tryz.func81 rfl 16 rfl (Nat.le_of_ble_eq_true rfl) (fun a S => ?_)
 refine wp_seq (region_plain ?_)
 refine lx_box S trivial (by decide) rfl H rfl rfl (fun b45 w46 H => ⟨trivial, fun a S => ?_⟩)
 refine lq (.bool false) S (q_assign rfl) fun a S => ?_
 refine lx_nil (thenN ?_)
 refine wp_seq (wp_seq (region_plain ?_))
 refine lx_e (.agg #[(.int .i64 a0.1), (.int .i64 a0.2.1), (sv a0.2.2.1), (.bool a0.2.2.2)]) S trivial (by decide) rfl trivial (q_loadA (cs := [(.int .i64 a0.1), (.int .i64 a0.2.1), (sv a0.2.2.1), (.bool a0.2.2.2)]) rfl (isP_bp _) Tryz.isAgg57 Tryz.sizeOf57 (by rintro _ rfl; exact (fun j u hu => boxAt (i := 0) H rfl hu))) (fun a S => ?_)
 obtain ⟨x50, e51, hm⟩ := bind_some hm
 refine lx_call (xs := [.tmp 3]) S trivial (by decide) rfl rfl Tryz.call73 ((impl_Node_isModality_ok ⟨[(.int .i64 a0.1), (.int .i64 a0.2.1), (sv a0.2.2.1), (.bool a0.2.2.2)], rfl, ⟨[(.int .i64 a0.1)], [(.int .i64 a0.2.1), (sv a0.2.2.1), (.bool a0.2.2.2)], rfl, rfl, ⟨[(.int .i64 a0.2.1)], [(sv a0.2.2.1), (.bool a0.2.2.2)], rfl, rfl, ⟨[(sv a0.2.2.1)], [(.bool a0.2.2.2)], rfl, rfl, rfl⟩⟩⟩⟩ e51).mono ?_)
 rintro e w48 ⟨rfl, Hc49⟩
 have H := H.call0 Hc49
 refine ⟨_, rfl, trivial, fun a S => ?_⟩
 refine lx_nil (thenN ?_)
 refine cond_b S rfl (fun hc53 => ?_) (fun hc53 => ?_)
 ·have hm := ite_t hc53 hm
  refine wp_seq (region_plain ?_)
  refine lq (pAdd (bp b45) 2) S (q_fieldAddr' 2 9 rfl (isP_bp _) Tryz.underlying57 rfl Tryz.sizeOf9) fun a S => ?_
  refine lx_e (sv a0.2.2.1) S trivial (by decide) rfl trivial (q_load1 rfl Tryz.isAgg9 (by rintro _ rfl; exact (At.of_add (m := 2) (j := 0) (boxAt (i := 0) H rfl (j := 2) rfl)))) (fun a S => ?_)
  obtain ⟨x56, e57, hm⟩ := bind_some hm
  refine lx_call (xs := [.tmp 6]) S trivial (by decide) rfl rfl Tryz.call94 ((impl_IsPattern_ok (hG.ext H.ext)  e57).mono ?_)
  rintro e w54 ⟨rfl, Hc55⟩
  have H := H.call0 Hc55
  refine ⟨_, rfl, trivial, fun a S => ?_⟩
  refine lq (.bool x56) S (q_assign rfl) fun a S => ?_
  refine lx_nil (thenN ?_)
  refine wp_ret (then_ret ?_)
  obtain rfl := Option.some.inj hm
  have H : Heap w0 [] w54 := H.sel [] (by decide)
  exact leave1 S rfl rfl ⟨rfl, H⟩
 ·have hm := ite_f hc53 hm
  refine wp_skip (thenN ?_)
  refine wp_seq (region_plain ?_)
  refine lq (pAdd (bp b45) 2) S (q_fieldAddr' 2 9 rfl (isP_bp _) Tryz.underlying57 rfl Tryz.sizeOf9) fun a S => ?_
  refine lx_e (sv a0.2.2.1) S trivial (by decide) rfl trivial (q_load1 rfl Tryz.isAgg9 (by rintro _ rfl; exact (At.of_add (m := 2) (j := 0) (boxAt (i := 0) H rfl (j := 2) rfl)))) (fun a S => ?_)
  refine lq (.bool (a0.2.2.1 == ([] : Str))) S (q_seql rfl rfl) fun a S => ?_
  refine lq (.bool (a0.2.2.1 == ([] : Str))) S (q_move rfl) fun a S => ?_
  obtain ⟨t59, e60, hm⟩ := bind_some hm
  refine lx_cut 4 (fun a w => Slots a 16 [(15, (.bool t59))] ∧ Heap w0 [] w) ?_ ?_
  ·by_cases hc61 : (a0.2.2.1 == ([] : Str)) = true
   ·have hm := ite_t hc61 e60
    refine lx_q (pAdd (bp b45) 3) S (want_b rfl rfl hc61) (by decide) (q_fieldAddr' 3 4 rfl (isP_bp _) Tryz.underlying57 rfl Tryz.sizeOf4) (fun a S => ?_)
    refine lx_e (.bool a0.2.2.2) S (want_b rfl rfl hc61) (by decide) rfl trivial (q_load1 rfl Tryz.isAgg4 (by rintro _ rfl; exact (At.of_add (m := 3) (j := 0) (boxAt (i := 0) H rfl (j := 3) rfl)))) (fun a S => ?_)
    refine lx_q (.bool (!a0.2.2.2)) S (want_b rfl rfl hc61) (by decide) (q_not rfl) (fun a S => ?_)
    refine lq (.bool (!a0.2.2.2)) S (q_pickT' rfl hc61 rfl) fun a S => ?_
    refine lx_nil ?_
    obtain rfl := Option.some.inj hm
    have H := H.sel [] (by decide)
    exact ⟨S.sub ⟨rfl, trivial⟩, H⟩
   ·have hm := ite_f (eq_false_of_ne_true hc61) e60
    have hc61 : (a0.2.2.1 == ([] : Str)) = false := eq_false_of_ne_true hc61
    refine lx_skip S rfl rfl (isB_ne hc61) (by decide) (fun a S => ?_)
    refine lx_skip S rfl rfl (isB_ne hc61) (by decide) (fun a S => ?_)
    refine lx_skip S rfl rfl (isB_ne hc61) (by decide) (fun a S => ?_)
    refine lq (.bool false) S (q_pickF' rfl hc61 rfl) fun a S => ?_
    refine lx_nil ?_
    obtain rfl := Option.some.inj hm
    have H := H.sel [] (by decide)
    exact ⟨S.sub ⟨rfl, trivial⟩, H⟩
  ·rintro a w ⟨S, H⟩
   refine lq (.bool t59) S (q_assign rfl) fun a S => ?_
   refine lx_nil (thenN ?_)
   refine wp_ret ?_
   obtain rfl := Option.some.inj hm
   exact leave1 S rfl rfl ⟨rfl, H⟩

/-- impl.index -/
def impl_index_m (fuel : Nat) (a0 : Int) (a1 : Int) : Option (Bool) :=
  (impl_within_m fuel a0 (0 : Int) (W (a1 - (1 : Int)))).bind fun x33 => some (x33)
set_option maxRecDepth 20000 in
theorem impl_index_ok {w0 : World} {fuel : Nat} {a0 : Int} {a1 : Int} {r : Bool} (hm : impl_index_m fuel a0 a1 = some r) :
  Calls Tryz.prog 62 #[.int .i64 a0, .int .i64 a1] w0 fun e w => e = .returned (.bool r) ∧ Heap w0 [] w := by
 unfold impl_index_m at hm
 have H := Heap.start w0
 refine enter (args := [.int .i64 a0, .int .i64 a1]) Tryz.func62 rfl 9 rfl (Nat.le_of_ble_eq_true rfl) (fun a S => ?_)
 refine wp_seq (region_plain ?_)
 refine lq (.bool false) S (q_assign rfl) fun a S => ?_
 refine lx_nil (thenN ?_)
 refine wp_seq (region_plain ?_)
 refine lq (.int .i64 a0) S (q_move rfl) fun a S => ?_
 refine lq (.int .i64 a1) S (q_move rfl) fun a S => ?_
 refine lq (.int .i64 (W (a1 - (1 : Int)))) S (q_sub rfl rfl) fun a S => ?_
 obtain ⟨x33, e34, hm⟩ := bind_some hm
 refine lx_call (xs := [.tmp 5, .const (.int .i64 (0)), .tmp 7]) S trivial (by decide) rfl rfl Tryz.call77 ((impl_within_ok    e34).mono ?_)
 rintro e w31 ⟨rfl, Hc32⟩
 have H := H.call0 Hc32
 refine ⟨_, rfl, trivial, fun a S => ?_⟩
 refine lq (.bool x33) S (q_assign rfl) fun a S => ?_
 refine lx_nil (thenN ?_)
 refine wp_ret ?_
 obtain rfl := Option.some.inj hm
 exact leave1 S rfl rfl ⟨rfl, H⟩

/-- laws.eqNode -/
def laws_eqNode_m (_ : Nat) (a0 : Timpl_Node) (a1 : Timpl_Node) : Option (Bool) :=
  (if (a0.1 != a1.1) = true then some (false) else (if (a0.2.1 != a1.2.1) = true then some (false) else (if (a0.2.2.1 != a1.2.2.1) = true then some (false) else (if (a0.2.2.2 != a1.2.2.2) = true then some (false) else some (true)))))
set_option maxRecDepth 20000 in
theorem laws_eqNode_ok {w0 : World} {fuel : Nat} {p0 p1 : Value} {a0 : Timpl_Node} {a1 : Timpl_Node} {r : Bool} (h0 : Rd Rimpl_Node w0 p0 a0) (h1 : Rd Rimpl_Node w0 p1 a1) (hm : laws_eqNode_m fuel a0 a1 = some r) :
  Calls Tryz.prog 35 #[p0, p1] w0 fun e w => e = .returned (.bool r) ∧ Heap w0 [] w := by
 unfold laws_eqNode_m at hm
 have H := Heap.start w0
 obtain ⟨c31, rfl, h32⟩ := h0
 obtain ⟨c33, c34, rfl, h35, h36⟩ := h32
 obtain rfl := h35
 obtain ⟨c37, c38, rfl, h39, h40⟩ := h36
 obtain rfl := h39
 obtain ⟨c41, c42, rfl, h43, h44⟩ := h40
 obtain rfl := h43
 obtain rfl := h44
 obtain ⟨c45, rfl, h46⟩ := h1
 obtain ⟨c47, c48, rfl, h49, h50⟩ := h46
 obtain rfl := h49
 obtain ⟨c51, c52, rfl, h53, h54⟩ := h50
 obtain rfl := h53
 obtain ⟨c55, c56, rfl, h57, h58⟩ := h54
 obtain rfl := h57
 obtain rfl := h58
 refine enter (args := [(.agg #[(.int .i64 a0.1), (.int .i64 a0.2.1), (sv a0.2.2.1), (.bool a0.2.2.2)]), (.agg #[(.int .i64 a1.1), (.int .i64 a1.2.1), (sv a1.2.2.1), (.bool a1.2.2.2)])]) Tryz.func35 rfl 25 rfl (Nat.le_of_ble_eq_true rfl) (fun a S => ?_)
 refine wp_seq (region_plain ?_)
 refine lx_box S trivial (by decide) rfl H rfl rfl (fun b59 w60 H => ⟨trivial, fun a S => ?_⟩)
 refine lx_box S trivial (by decide) rfl H rfl rfl (fun b62 w63 H => ⟨trivial, fun a S => ?_⟩)
 refine lq (.bool false) S (q_assign rfl) fun a S => ?_
 refine lx_nil (thenN ?_)
 refine wp_seq (wp_seq (region_plain ?_))
 refine lq (pAdd (bp b59) 0) S (q_fieldAddr' 0 2 rfl (isP_bp _) Tryz.underlying57 rfl Tryz.sizeOf2) fun a S => ?_
 refine lx_e (.int .i64 a0.1) S trivial (by decide) rfl trivial (q_load1 rfl Tryz.isAgg2 (by rintro _ rfl; exact (At.of_add (m := 0) (j := 0) (boxAt (i := 1) H rfl (j := 0) rfl)))) (fun a S => ?_)
 refine lq (pAdd (bp b62) 0) S (q_fieldAddr' 0 2 rfl (isP_bp _) Tryz.underlying57 rfl Tryz.sizeOf2) fun a S => ?_
 refine lx_e (.int .i64 a1.1) S trivial (by decide) rfl trivial (q_load1 rfl Tryz.isAgg2 (by rintro _ rfl; exact (At.of_add (m := 0) (j := 0) (boxAt (i := 0) H rfl (j := 0) rfl)))) (fun a S => ?_)
 refine lq (.bool (a0.1 != a1.1)) S (q_neq rfl rfl) fun a S => ?_
 refine lx_nil (thenN ?_)
 refine cond_b S rfl (fun hc65 => ?_) (fun hc65 => ?_)
 ·have hm := ite_t hc65 hm
  refine wp_seq (region_plain ?_)
  refine lq (.bool false) S (q_assign rfl) fun a S => ?_
  refine lx_nil (thenN ?_)
  refine wp_ret (then_ret ?_)
  obtain rfl := Option.some.inj hm
  have H : Heap w0 [] w63 := H.sel [] (by decide)
  exact leave1 S rfl rfl ⟨rfl, H⟩
 ·have hm := ite_f hc65 hm
  refine wp_skip (thenN ?_)
  refine wp_seq (wp_seq (region_plain ?_))
  refine lq (pAdd (bp b59) 1) S (q_fieldAddr' 1 2 rfl (isP_bp _) Tryz.underlying57 rfl Tryz.sizeOf2) fun a S => ?_
  refine lx_e (.int .i64 a0.2.1) S trivial (by decide) rfl trivial (q_load1 rfl Tryz.isAgg2 (by rintro _ rfl; exact (At.of_add (m := 1) (j := 0) (boxAt (i := 1) H rfl (j := 1) rfl)))) (fun a S => ?_)
  refine lq (pAdd (bp b62) 1) S (q_fieldAddr' 1 2 rfl (isP_bp _) Tryz.underlying57 rfl Tryz.sizeOf2) fun a S => ?_
  refine lx_e (.int .i64 a1.2.1) S trivial (by decide) rfl trivial (q_load1 rfl Tryz.isAgg2 (by rintro _ rfl; exact (At.of_add (m := 1) (j := 0) (boxAt (i := 0) H rfl (j := 1) rfl)))) (fun a S => ?_)
  refine lq (.bool (a0.2.1 != a1.2.1)) S (q_neq rfl rfl) fun a S => ?_
  refine lx_nil (thenN ?_)
  refine cond_b S rfl (fun hc66 => ?_) (fun hc66 => ?_)
  ·have hm := ite_t hc66 hm
   refine wp_seq (region_plain ?_)
   refine lq (.bool false) S (q_assign rfl) fun a S => ?_
   refine lx_nil (thenN ?_)
   refine wp_ret (then_ret ?_)
   obtain rfl := Option.some.inj hm
   have H : Heap w0 [] w63 := H.sel [] (by decide)
   exact leave1 S rfl rfl ⟨rfl, H⟩
  ·have hm := ite_f hc66 hm
   refine wp_skip (thenN ?_)
   refine wp_seq (wp_seq (region_plain ?_))
   refine lq (pAdd (bp b59) 2) S (q_fieldAddr' 2 9 rfl (isP_bp _) Tryz.underlying57 rfl Tryz.sizeOf9) fun a S => ?_
   refine lx_e (sv a0.2.2.1) S trivial (by decide) rfl trivial (q_load1 rfl Tryz.isAgg9 (by rintro _ rfl; exact (At.of_add (m := 2) (j := 0) (boxAt (i := 1) H rfl (j := 2) rfl)))) (fun a S => ?_)
   refine lq (pAdd (bp b62) 2) S (q_fieldAddr' 2 9 rfl (isP_bp _) Tryz.underlying57 rfl Tryz.sizeOf9) fun a S => ?_
   refine lx_e (sv a1.2.2.1) S trivial (by decide) rfl trivial (q_load1 rfl Tryz.isAgg9 (by rintro _ rfl; exact (At.of_add (m := 2) (j := 0) (boxAt (i := 0) H rfl (j := 2) rfl)))) (fun a S => ?_)
   refine lq (.bool (a0.2.2.1 != a1.2.2.1)) S (q_sneq rfl rfl) fun a S => ?_
   refine lx_nil (thenN ?_)
   refine cond_b S rfl (fun hc67 => ?_) (fun hc67 => ?_)
   ·have hm := ite_t hc67 hm
    refine wp_seq (region_plain ?_)
    refine lq (.bool false) S (q_assign rfl) fun a S => ?_
    refine lx_nil (thenN ?_)
    refine wp_ret (then_ret ?_)
    obtain rfl := Option.some.inj hm
    have H : Heap w0 [] w63 := H.sel [] (by decide)
    exact leave1 S rfl rfl ⟨rfl, H⟩
   ·have hm := ite_f hc67 hm
    refine wp_skip (thenN ?_)
    refine wp_seq (wp_seq (region_plain ?_))
    refine lq (pAdd (bp b59) 3) S (q_fieldAddr' 3 4 rfl (isP_bp _) Tryz.underlying57 rfl Tryz.sizeOf4) fun a S => ?_
    refine lx_e (.bool a0.2.2.2) S trivial (by decide) rfl trivial (q_load1 rfl Tryz.isAgg4 (by rintro _ rfl; exact (At.of_add (m := 3) (j := 0) (boxAt (i := 1) H rfl (j := 3) rfl)))) (fun a S => ?_)
    refine lq (pAdd (bp b62) 3) S (q_fieldAddr' 3 4 rfl (isP_bp _) Tryz.underlying57 rfl Tryz.sizeOf4) fun a S => ?_
    refine lx_e (.bool a1.2.2.2) S trivial (by decide) rfl trivial (q_load1 rfl Tryz.isAgg4 (by rintro _ rfl; exact (At.of_add (m := 3) (j := 0) (boxAt (i := 0) H rfl (j := 3) rfl)))) (fun a S => ?_)
    refine lq (.bool (a0.2.2.2 != a1.2.2.2)) S (q_bneq rfl rfl Tryz.underlying4) fun a S => ?_
    refine lx_nil (thenN ?_)
    refine cond_b S rfl (fun hc68 => ?_) (fun hc68 => ?_)
    ·have hm := ite_t hc68 hm
     refine wp_seq (region_plain ?_)
     refine lq (.bool false) S (q_assign rfl) fun a S => ?_
     refine lx_nil (thenN ?_)
     refine wp_ret (then_ret ?_)
     obtain rfl := Option.some.inj hm
     have H : Heap w0 [] w63 := H.sel [] (by decide)
     exact leave1 S rfl rfl ⟨rfl, H⟩
    ·have hm := ite_f hc68 hm
     refine wp_skip (thenN ?_)
     refine wp_seq (region_plain ?_)
     refine lq (.bool true) S (q_assign rfl) fun a S => ?_
     refine lx_nil (thenN ?_)
     refine wp_ret ?_
     obtain rfl := Option.some.inj hm
     have H : Heap w0 [] w63 := H.sel [] (by decide)
     exact leave1 S rfl rfl ⟨rfl, H⟩

/-- laws.eqNodeS -/
def laws_eqNodeS_m (fuel : Nat) (a0 : (List Timpl_Node)) (a1 : (List Timpl_Node)) : Option (Bool) :=
  (if ((a0.length : Int) != (a1.length : Int)) = true then some (false) else (iter (fun (s : (Int)) => (match s with | (x76) => (if (decide (x76 < (a0.length : Int))) = true then (idx a0 x76).bind fun x132 => (idx a1 x76).bind fun x149 => (laws_eqNode_m fuel (x132.1, x132.2.1, x132.2.2.1, x132.2.2.2) (x149.1, x149.2.1, x149.2.2.1, x149.2.2.2)).bind fun x168 => (if (!x168) = true then some (.inr (.inr false)) else some (.inl ((W (x76 + (1 : Int)))))) else some (.inr (.inl ()))) : Option (((Int)) ⊕ ((Unit) ⊕ (Bool))))) fuel ((0 : Int))).bind fun res121 => ctl (β := Unit) (ρ := Bool) (τ := Bool) res121 (fun _ => some (true)) (fun q => some (q)))
set_option maxRecDepth 20000 in
theorem laws_eqNodeS_ok {w0 : World} {fuel : Nat} {p0 p1 : Value} {a0 : (List Timpl_Node)} {a1 : (List Timpl_Node)} {r : Bool} (h0 : Rd (rList Rimpl_Node) w0 p0 a0) (h1 : Rd (rList Rimpl_Node) w0 p1 a1) (hm : laws_eqNodeS_m fuel a0 a1 = some r) :
  Calls Tryz.prog 12 #[p0, p1] w0 fun e w => e = .returned (.bool r) ∧ Heap w0 [] w := by
 unfold laws_eqNodeS_m at hm
 have H := Heap.start w0
 refine enter (args := [p0, p1]) Tryz.func12 rfl 27 rfl (Nat.le_of_ble_eq_true rfl) (fun a S => ?_)
 refine wp_seq (region_plain ?_)
 refine lq (.bool false) S (q_assign rfl) fun a S => ?_
 refine lx_nil (thenN ?_)
 refine wp_seq (wp_seq (region_plain ?_))
 refine lq p0 S (q_move rfl) fun a S => ?_
 refine lq (.int .i64 (a0.length : Int)) S (q_lenSl rfl (h0).isSl rfl Tryz.underlying26) fun a S => ?_
 refine lq p1 S (q_move rfl) fun a S => ?_
 refine lq (.int .i64 (a1.length : Int)) S (q_lenSl rfl (h1).isSl rfl Tryz.underlying26) fun a S => ?_
 refine lq (.bool ((a0.length : Int) != (a1.length : Int))) S (q_neq rfl rfl) fun a S => ?_
 refine lx_nil (thenN ?_)
 refine cond_b S rfl (fun hc31 => ?_) (fun hc31 => ?_)
 ·have hm := ite_t hc31 hm
  refine wp_seq (region_plain ?_)
  refine lq (.bool false) S (q_assign rfl) fun a S => ?_
  refine lx_nil (thenN ?_)
  refine wp_ret (then_ret ?_)
  obtain rfl := Option.some.inj hm
  exact leave1 S rfl rfl ⟨rfl, H⟩
 ·have hm := ite_f hc31 hm
  refine wp_skip (thenN ?_)
  refine wp_seq (wp_seq (region_plain ?_))
  refine lq (.int .i64 (0 : Int)) S (q_assign rfl) fun a S => ?_
  refine lx_nil (thenN ?_)
  obtain ⟨res121, hit122, hk125⟩ := bind_some hm
  obtain ⟨f123, hf124, hit122⟩ := iter_name hit122
  refine block_loop (fun a w => Slots a 27 [] ∧ Heap w0 [] w ∧ res121 = .inl ()) ?_ ?_
  ·rintro a w ⟨S, H, rfl⟩
   have hm := ctl_inl hk125
   refine thenN ?_
   refine wp_seq (region_plain ?_)
   refine lq (.bool true) S (q_assign rfl) fun a S => ?_
   refine lx_nil (thenN ?_)
   refine wp_ret ?_
   obtain rfl := Option.some.inj hm
   exact leave1 S rfl rfl ⟨rfl, H⟩
  ·skip
   refine loop_ghost (fun n a w => ∃ (x76 : Int), Slots a 27 [(0, p0), (1, p1), (5, (.int .i64 x76))] ∧ Heap w0 [] w ∧ iter f123 n (x76) = some res121) _ ⟨(0 : Int), S.sub ⟨rfl, rfl, rfl, trivial⟩, H, hit122⟩ ?_
   rintro n a w ⟨x76, S, H, hit122⟩
   obtain ⟨m126, o127, rfl, hm, hc128⟩ := iter_step hit122
   rw [hf124] at hm
   refine wp_seq (wp_seq (region_plain ?_))
   refine lq (.int .i64 x76) S (q_move rfl) fun a S => ?_
   refine lq p0 S (q_move rfl) fun a S => ?_
   refine lq (.int .i64 (a0.length : Int)) S (q_lenSl rfl (h0).isSl rfl Tryz.underlying26) fun a S => ?_
   refine lq (.bool (decide (x76 < (a0.length : Int)))) S (q_lss rfl rfl) fun a S => ?_
   refine lx_nil (thenN ?_)
   refine cond_b S rfl (fun hc129 => ?_) (fun hc129 => ?_)
   ·have hm := ite_t hc129 hm
    refine wp_skip (thenN ?_)
    refine wp_seq ?_
    refine wp_block ?_
    refine wp_seq ?_
    refine region_drawG (fun w1 => Heap w0 [] w1) (fun i => [8].contains i) mixed (by kernel_rfl) (fun w131 he130 => ?_)
    have H := H.later he130
    refine ⟨H.sel [] (by decide), ?_⟩
    refine lq p0 S (q_move rfl) fun a S => ?_
    refine lq (.int .i64 x76) S (q_move rfl) fun a S => ?_
    obtain ⟨x132, e133, hm⟩ := bind_some hm
    obtain ⟨c134, h135, hat136⟩ := (h0).elem (idx_some e133).2
    obtain ⟨c137, c138, rfl, h139, h140⟩ := h135
    obtain rfl := h139
    obtain ⟨c141, c142, rfl, h143, h144⟩ := h140
    obtain rfl := h143
    obtain ⟨c145, c146, rfl, h147, h148⟩ := h144
    obtain rfl := h147
    obtain rfl := h148
    have hlt := lt_of_idx (idx_some e133).2
    refine lq (ePtr p0 (x76.toNat * 4)) S (q_indexAddr rfl (h0).isSl rfl (idx_some e133).1 hlt Tryz.underlying26 Tryz.sizeOf57) fun a S => ?_
    refine lq (.agg #[(.int .i64 x132.1), (.int .i64 x132.2.1), (sv x132.2.2.1), (.bool x132.2.2.2)]) S (q_loadA (cs := [(.int .i64 x132.1), (.int .i64 x132.2.1), (sv x132.2.2.1), (.bool x132.2.2.2)]) rfl ((hat136 0 _ rfl).isP) Tryz.isAgg57 Tryz.sizeOf57 (fun w1 hC => (fun j u hu => (hat136 j u hu).ext hC.ext))) fun a S => ?_
    refine lq p1 S (q_move rfl) fun a S => ?_
    refine lq (.int .i64 x76) S (q_move rfl) fun a S => ?_
    obtain ⟨x149, e150, hm⟩ := bind_some hm
    obtain ⟨c151, h152, hat153⟩ := (h1).elem (idx_some e150).2
    obtain ⟨c154, c155, rfl, h156, h157⟩ := h152
    obtain rfl := h156
    obtain ⟨c158, c159, rfl, h160, h161⟩ := h157
    obtain rfl := h160
    obtain ⟨c162, c163, rfl, h164, h165⟩ := h161
    obtain rfl := h164
    obtain rfl := h165
    have hlt := lt_of_idx (idx_some e150).2
    refine lq (ePtr p1 (x76.toNat * 4)) S (q_indexAddr rfl (h1).isSl rfl (idx_some e150).1 hlt Tryz.underlying26 Tryz.sizeOf57) fun a S => ?_
    refine lq (.agg #[(.int .i64 x149.1), (.int .i64 x149.2.1), (sv x149.2.2.1), (.bool x149.2.2.2)]) S (q_loadA (cs := [(.int .i64 x149.1), (.int .i64 x149.2.1), (sv x149.2.2.1), (.bool x149.2.2.2)]) rfl ((hat153 0 _ rfl).isP) Tryz.isAgg57 Tryz.sizeOf57 (fun w1 hC => (fun j u hu => (hat153 j u hu).ext hC.ext))) fun a S => ?_
    obtain ⟨x168, e169, hm⟩ := bind_some hm
    refine lx_call (xs := [.tmp 20, .tmp 24]) S trivial (by decide) rfl rfl Tryz.call35 ((laws_eqNode_ok ⟨[(.int .i64 x132.1), (.int .i64 x132.2.1), (sv x132.2.2.1), (.bool x132.2.2.2)], rfl, ⟨[(.int .i64 x132.1)], [(.int .i64 x132.2.1), (sv x132.2.2.1), (.bool x132.2.2.2)], rfl, rfl, ⟨[(.int .i64 x132.2.1)], [(sv x132.2.2.1), (.bool x132.2.2.2)], rfl, rfl, ⟨[(sv x132.2.2.1)], [(.bool x132.2.2.2)], rfl, rfl, rfl⟩⟩⟩⟩ ⟨[(.int .i64 x149.1), (.int .i64 x149.2.1), (sv x149.2.2.1), (.bool x149.2.2.2)], rfl, ⟨[(.int .i64 x149.1)], [(.int .i64 x149.2.1), (sv x149.2.2.1), (.bool x149.2.2.2)], rfl, rfl, ⟨[(.int .i64 x149.2.1)], [(sv x149.2.2.1), (.bool x149.2.2.2)], rfl, rfl, ⟨[(sv x149.2.2.1)], [(.bool x149.2.2.2)], rfl, rfl, rfl⟩⟩⟩⟩ e169).mono ?_)
    rintro e w166 ⟨rfl, Hc167⟩
    have H := H.call0 Hc167
    refine ⟨_, rfl, H.sel [] (by decide), fun a S => ?_⟩
    refine lq (.bool (!x168)) S (q_not rfl) fun a S => ?_
    refine lx_nil (thenN ?_)
    refine cond_b S rfl (fun hc171 => ?_) (fun hc171 => ?_)
    ·have hm := ite_t hc171 hm
     refine wp_seq (region_plain ?_)
     refine lq (.bool false) S (q_assign rfl) fun a S => ?_
     refine lx_nil (thenN ?_)
     refine wp_ret (inBlock_ret ?_)
     refine then_ret ?_
     refine then_ret ?_
     refine inBlock_ret ?_
     refine then_ret ?_
     refine then_ret ?_
     obtain rfl := it_brk hm hc128
     have hm := ctl_inr hk125
     obtain rfl := Option.some.inj hm
     exact leave1 S rfl rfl ⟨rfl, H⟩
    ·have hm := ite_f hc171 hm
     refine wp_skip ?_
     refine inBlock_norm ?_
     refine thenN ?_
     refine region_plain ?_
     refine lq (.int .i64 x76) S (q_move rfl) fun a S => ?_
     refine lq (.int .i64 (W (x76 + (1 : Int)))) S (q_add rfl rfl) fun a S => ?_
     refine lq (.int .i64 (W (x76 + (1 : Int)))) S (q_assign rfl) fun a S => ?_
     refine lx_nil ?_
     exact ⟨m126, Nat.lt_succ_self _, (W (x76 + (1 : Int))), S.sub ⟨rfl, rfl, rfl, trivial⟩, H, it_cont hm hc128⟩
   ·have hm := ite_f hc129 hm
    refine wp_exit ?_
    refine then_exit ?_
    refine then_exit ?_
    refine inBlock_exit ?_
    obtain rfl := it_brk hm hc128
    exact ⟨S.sub trivial, H, rfl⟩
end Go.Proofs.YtalcdoidimmdlaaGreatDoor
