/- The model of a statement and its walk (printed by a program of this repo). -/
import Derived.Test.YtcddkipbedfhkaaF0
import Derived.Test.YtcddkipbedfhkaaF1
import Derived.Test.YtcddkipbedfhkaaF2
import Derived.Test.YtcddkipbedfhkaaF4
import Derived.Test.YtcddkipbedfhkaaGxAr
import Derived.Test.YtcddkipbedfhkaaGxT
import Derived.Test.YtcddkipbedfhkaaGxY
namespace Go.Proofs.Ytcddkipbedfhkaa
open Go.RowKit Go.Gx

/-- impl.IsMeasure -/
def impl_IsMeasure_m (fuel : Nat) (a0 : (List Timpl_Vertex)) (a1 : Int) (a2 : (List (List Int))) : Option (Bool) :=
  (impl_ValidGame_m fuel a0).bind fun x36 => (if (!x36) = true then some true else (impl_playerOk_m fuel a1).bind fun x44 => some (!x44)).bind fun t39 => (if t39 = true then some true else some ((a2.length : Int) != (a0.length : Int))).bind fun t47 => (if t47 = true then some (false) else (impl_newMeasured_m fuel a0 a1).bind fun x53 => (slices_ContainsFunc___int64__int64_m fuel a2 (fun (z0 : (List Int)) => impl_IsMeasure_1_m fuel z0 x53)).bind fun x73 => (if x73 = true then some (false) else (iter (fun (s : (Int)) => (match s with | (x141) => (if (decide (x141 < (a0.length : Int))) = true then join (κ := Option (((Int)) ⊕ ((Unit) ⊕ (Bool)))) (some (.inl ((W (x141 + (1 : Int)))))) (fun K214 => (idx a0 x141).bind fun x216 => (if (x216.1 == a1) = true then (idx a2 x141).bind fun x244 => (if (decide ((0 : Int) < (x244.length : Int))) = true then (slices_ContainsFunc__int64_int64_m fuel x216.2.2 (fun (z0 : Int) => impl_IsMeasure_2_m fuel z0 x53 a2 x141 (x216.1, x216.2.1, x216.2.2))).bind fun x256 => some (!x256) else some false).bind fun t251 => (if t251 = true then some (.inr (.inr false)) else K214) else (slices_ContainsFunc__int64_int64_m fuel x216.2.2 (fun (z0 : Int) => impl_IsMeasure_3_m fuel z0 x53 a2 x141 (x216.1, x216.2.1, x216.2.2))).bind fun x266 => (if x266 = true then some (.inr (.inr false)) else K214))) else some (.inr (.inl ()))) : Option (((Int)) ⊕ ((Unit) ⊕ (Bool))))) fuel ((0 : Int))).bind fun res205 => ctl (β := Unit) (ρ := Bool) (τ := Bool) res205 (fun _ => some (true)) (fun q => some (q))))
set_option maxRecDepth 20000 in
theorem impl_IsMeasure_ok [dr : Dr] {w0 : World} {fuel : Nat} {p0 p2 : Value} {a0 : (List Timpl_Vertex)} {a1 : Int} {a2 : (List (List Int))} {r : Bool} (h0 : Rd (rList Rimpl_Vertex) w0 p0 a0) (h2 : Rd (rList (rList (rInt .i64))) w0 p2 a2) (hm : impl_IsMeasure_m fuel a0 a1 a2 = some r) :
  Calls Try.prog 11 #[p0, .int .i64 a1, p2] w0 fun e w => e = .returned (.bool r) ∧ Heap w0 [] w := by
 unfold impl_IsMeasure_m at hm
 have H := Heap.start w0
 refine enter (args := [p0, .int .i64 a1, p2]) Try.func11 rfl 62 rfl (Nat.le_of_ble_eq_true rfl) (fun a S => ?_)
 refine wp_seq (region_plain ?_)
 refine lx_box S trivial (by decide) rfl H rfl (cells_sl (h2).isSl) (fun b31 w32 H => ⟨trivial, fun a S => ?_⟩)
 refine lq (.bool false) S (q_assign rfl) fun a S => ?_
 refine lx_nil (thenN ?_)
 refine wp_seq (wp_seq (region_plain ?_))
 refine lq p0 S (q_move rfl) fun a S => ?_
 obtain ⟨x36, e37, hm⟩ := bind_some hm
 refine lx_call (xs := [.tmp 11]) S trivial (by decide) rfl rfl Try.call35 ((impl_ValidGame_ok (H.arg h0) e37).mono ?_)
 rintro e w34 ⟨rfl, Hc35⟩
 have H := H.call0 Hc35
 refine ⟨_, rfl, trivial, fun a S => ?_⟩
 refine lq (.bool (!x36)) S (q_not rfl) fun a S => ?_
 refine lq (.bool (!x36)) S (q_move rfl) fun a S => ?_
 obtain ⟨t39, e40, hm⟩ := bind_some hm
 refine lx_cut 4 (fun a w => Slots a 62 [(0, p0), (1, (.int .i64 a1)), (5, (bp b31)), (18, (.bool t39))] ∧ Heap w0 [bA b31 [p2] 23] w) ?_ ?_
 ·by_cases hc41 : (!x36) = true
  ·have hm := ite_t hc41 e40
   refine lx_skip S rfl rfl (isB_ne hc41) (by decide) (fun a S => ?_)
   refine lx_skip S rfl rfl (isB_ne hc41) (by decide) (fun a S => ?_)
   refine lx_skip S rfl rfl (isB_ne hc41) (by decide) (fun a S => ?_)
   refine lq (.bool true) S (q_pickT' rfl hc41 rfl) fun a S => ?_
   refine lx_nil ?_
   obtain rfl := Option.some.inj hm
   exact ⟨S.sub ⟨rfl, rfl, rfl, rfl, trivial⟩, H⟩
  ·have hm := ite_f (eq_false_of_ne_true hc41) e40
   have hc41 : (!x36) = false := eq_false_of_ne_true hc41
   refine lx_q (.int .i64 a1) S (want_b rfl rfl hc41) (by decide) (q_move rfl) (fun a S => ?_)
   obtain ⟨x44, e45, hm⟩ := bind_some hm
   refine lx_call (xs := [.tmp 15]) S (want_b rfl rfl hc41) (by decide) rfl rfl Try.call36 ((impl_playerOk_ok  e45).mono ?_)
   rintro e w42 ⟨rfl, Hc43⟩
   have H := H.call0 Hc43
   refine ⟨_, rfl, trivial, fun a S => ?_⟩
   refine lx_q (.bool (!x44)) S (want_b rfl rfl hc41) (by decide) (q_not rfl) (fun a S => ?_)
   refine lq (.bool (!x44)) S (q_pickF' rfl hc41 rfl) fun a S => ?_
   refine lx_nil ?_
   obtain rfl := Option.some.inj hm
   exact ⟨S.sub ⟨rfl, rfl, rfl, rfl, trivial⟩, H⟩
 ·rintro a w ⟨S, H⟩
  refine lq (.bool t39) S (q_move rfl) fun a S => ?_
  obtain ⟨t47, e48, hm⟩ := bind_some hm
  refine lx_cut 6 (fun a w => Slots a 62 [(0, p0), (1, (.int .i64 a1)), (5, (bp b31)), (25, (.bool t47))] ∧ Heap w0 [bA b31 [p2] 23] w) ?_ ?_
  ·by_cases hc49 : t39 = true
   ·have hm := ite_t hc49 e48
    refine lx_skip S rfl rfl (isB_ne hc49) (by decide) (fun a S => ?_)
    refine lx_skip S rfl rfl (isB_ne hc49) (by decide) (fun a S => ?_)
    refine lx_skip S rfl rfl (isB_ne hc49) (by decide) (fun a S => ?_)
    refine lx_skip S rfl rfl (isB_ne hc49) (by decide) (fun a S => ?_)
    refine lx_skip S rfl rfl (isB_ne hc49) (by decide) (fun a S => ?_)
    refine lq (.bool true) S (q_pickT' rfl hc49 rfl) fun a S => ?_
    refine lx_nil ?_
    obtain rfl := Option.some.inj hm
    exact ⟨S.sub ⟨rfl, rfl, rfl, rfl, trivial⟩, H⟩
   ·have hm := ite_f (eq_false_of_ne_true hc49) e48
    have hc49 : t39 = false := eq_false_of_ne_true hc49
    refine lx_e p2 S (want_b rfl rfl hc49) (by decide) rfl trivial (q_load1 rfl Try.isAgg23 (by rintro _ rfl; exact (boxAt (i := 0) H rfl (j := 0) rfl))) (fun a S => ?_)
    refine lx_q (.int .i64 (a2.length : Int)) S (want_b rfl rfl hc49) (by decide) (q_lenSl rfl (h2).isSl rfl Try.underlying23) (fun a S => ?_)
    refine lx_q p0 S (want_b rfl rfl hc49) (by decide) (q_move rfl) (fun a S => ?_)
    refine lx_q (.int .i64 (a0.length : Int)) S (want_b rfl rfl hc49) (by decide) (q_lenSl rfl (h0).isSl rfl Try.underlying27) (fun a S => ?_)
    refine lx_q (.bool ((a2.length : Int) != (a0.length : Int))) S (want_b rfl rfl hc49) (by decide) (q_neq rfl rfl) (fun a S => ?_)
    refine lq (.bool ((a2.length : Int) != (a0.length : Int))) S (q_pickF' rfl hc49 rfl) fun a S => ?_
    refine lx_nil ?_
    obtain rfl := Option.some.inj hm
    exact ⟨S.sub ⟨rfl, rfl, rfl, rfl, trivial⟩, H⟩
  ·rintro a w ⟨S, H⟩
   refine lx_nil (thenN ?_)
   refine cond_b S rfl (fun hc50 => ?_) (fun hc50 => ?_)
   ·have hm := ite_t hc50 hm
    refine wp_seq (region_plain ?_)
    refine lq (.bool false) S (q_assign rfl) fun a S => ?_
    refine lx_nil (thenN ?_)
    refine wp_ret (then_ret ?_)
    obtain rfl := Option.some.inj hm
    have H : Heap w0 [] w := H.sel [] (by decide)
    exact leave1 S rfl rfl ⟨rfl, H⟩
   ·have hm := ite_f hc50 hm
    refine wp_skip (thenN ?_)
    refine wp_seq (region_plain ?_)
    refine lq p0 S (q_move rfl) fun a S => ?_
    refine lq (.int .i64 a1) S (q_move rfl) fun a S => ?_
    obtain ⟨x53, e54, hm⟩ := bind_some hm
    refine lx_call (xs := [.tmp 26, .tmp 27]) S trivial (by decide) rfl rfl Try.call37 ((impl_newMeasured_ok (H.arg h0)  e54).mono ?_)
    rintro e w51 ⟨v55, rfl, hs57, Hc52⟩
    have H := H.call0 Hc52
    refine ⟨_, rfl, trivial, fun a S => ?_⟩
    have H0 := H
    have hb59 : Rd (rPtr (rList (rList (rInt .i64)))) w51 (bp b31) a2 := (rdPtr_box H 0 rfl ((H.arg h2)).list_rd)
    obtain ⟨c60, h61, hat62⟩ := hb59.ptr
    obtain ⟨v63, rfl, h64⟩ := rd_list h61
    have h65 := H0.arg h0
    have h66 := hs57.ext (Ext.refl _)
    have H := Heap.start w51
    refine lx_alloc S trivial (by decide) rfl H Try.zeroValue57 rfl (fun b67 w68 H => ⟨trivial, fun a S => ?_⟩)
    refine lx_storeBox (o := 0) (i := 0) (us := [v55]) (cs' := [v55]) S trivial rfl H rfl rfl rfl (cells_pq (H.arg h66).isP) Try.sizeOf57 (Nat.le_of_ble_eq_true rfl) (List.forall_mem_cons.2 ⟨one_p (H.arg h66).isP, (List.forall_mem_nil _)⟩) rfl (fun w70 H => ⟨trivial, fun a S => ?_⟩)
    change Heap w51 [bA b67 [v55] 57] w70 at H
    refine lx_nil (thenN ?_)
    refine wp_seq (wp_seq (region_plain ?_))
    refine lx_e v63 S trivial (by decide) rfl trivial (q_load1 rfl Try.isAgg23 (by rintro _ rfl; exact ((hat62 0 _ rfl).ext H.ext))) (fun a S => ?_)
    refine lq (.func (.func 39) #[] #[(bp b67)]) S (q_makeFunc (xs := []) (ys := [.tmp 7]) rfl rfl) fun a S => ?_
    obtain ⟨x73, e74, hm⟩ := bind_some hm
    have hcap75 : Rd (rPtr (rPtr Rimpl_measured)) w70 (bp b67) x53 := (rdPtr_box H 0 rfl (pp_rd (H.arg h66)))
    refine lx_call (xs := [.tmp 29, .tmp 30]) S trivial (by decide) rfl rfl Try.call38 ((slices_ContainsFunc___int64__int64_ok (f1 := 39) (fs1 := ([] : List Value)) (cp1 := ([(bp b67)] : List Value)) (a1 := (fun (z0 : (List Int)) => impl_IsMeasure_1_m fuel z0 x53)) (H.arg h64) Try.call39 (fun he h0_ hm => impl_IsMeasure_1_ok  h0_ (hcap75.ext he) hm) e74).mono ?_)
    rintro e w71 ⟨rfl, Hc72⟩
    have H := H.call0 Hc72
    refine ⟨_, rfl, trivial, fun a S => ?_⟩
    refine lx_nil (thenN ?_)
    refine cond_b S rfl (fun hc77 => ?_) (fun hc77 => ?_)
    ·have hm := ite_t hc77 hm
     refine wp_seq (region_plain ?_)
     refine lq (.bool false) S (q_assign rfl) fun a S => ?_
     refine lx_nil (thenN ?_)
     refine wp_ret (then_ret ?_)
     obtain rfl := Option.some.inj hm
     have H : Heap w0 [bA b67 [v55] 57, bA b31 [p2] 23] w71 := H0.call H
     have H : Heap w0 [] w71 := H.sel [] (by decide)
     exact leave1 S rfl rfl ⟨rfl, H⟩
    ·have hm := ite_f hc77 hm
     refine wp_skip (thenN ?_)
     refine wp_seq (wp_seq (region_plain ?_))
     refine lq p0 S (q_move rfl) fun a S => ?_
     refine lq (.int .i64 (a0.length : Int)) S (q_lenSl rfl (h65).isSl rfl Try.underlying27) fun a S => ?_
     refine lq (.int .i64 (0 : Int)) S (q_move rfl) fun a S => ?_
     refine lx_nil (thenN ?_)
     obtain ⟨res205, hit206, hk209⟩ := bind_some hm
     obtain ⟨f207, hf208, hit206⟩ := iter_name hit206
     refine block_loop (fun a w => Slots a 62 [] ∧ Heap w51 [] w ∧ res205 = .inl ()) ?_ ?_
     ·rintro a w ⟨S, H, rfl⟩
      have hm := ctl_inl hk209
      refine thenN ?_
      refine wp_seq (region_plain ?_)
      refine lq (.bool true) S (q_assign rfl) fun a S => ?_
      refine lx_nil (thenN ?_)
      refine wp_ret ?_
      obtain rfl := Option.some.inj hm
      have H : Heap w0 [bA b31 [p2] 23] w := H0.call H
      have H : Heap w0 [] w := H.sel [] (by decide)
      exact leave1 S rfl rfl ⟨rfl, H⟩
     ·skip
      refine loop_ghost (fun n a w => ∃ (x141 : Int), Slots a 62 [(1, (.int .i64 a1)), (5, (bp b31)), (7, (bp b67)), (32, p0), (33, (.int .i64 (a0.length : Int))), (34, (.int .i64 x141))] ∧ Heap w51 [bA b67 [v55] 57] w ∧ iter f207 n (x141) = some res205) _ ⟨(0 : Int), S.sub ⟨rfl, rfl, rfl, rfl, rfl, rfl, trivial⟩, H, hit206⟩ ?_
      rintro n a w ⟨x141, S, H, hit206⟩
      obtain ⟨m210, o211, rfl, hm, hc212⟩ := iter_step hit206
      rw [hf208] at hm
      refine wp_seq (region_plain ?_)
      refine lq (.bool (decide (x141 < (a0.length : Int)))) S (q_lss rfl rfl) fun a S => ?_
      refine lx_nil (thenN ?_)
      refine wp_seq ?_
      refine cond_b S rfl (fun hc213 => ?_) (fun hc213 => ?_)
      ·have hm := ite_t hc213 hm
       refine wp_skip (thenN ?_)
       obtain ⟨K214, hK215, hm⟩ := join_elim hm
       refine seq_cut (fun a w => Slots a 62 [(1, (.int .i64 a1)), (5, (bp b31)), (7, (bp b67)), (32, p0), (33, (.int .i64 (a0.length : Int))), (34, (.int .i64 x141))] ∧ Heap w51 [bA b67 [v55] 57] w ∧ K214 = some o211) ?_ ?_
       ·rintro a w ⟨S, H, hm⟩
        subst hK215
        refine region_plain ?_
        refine lq (.int .i64 (W (x141 + (1 : Int)))) S (q_add rfl rfl) fun a S => ?_
        refine lq (.int .i64 (W (x141 + (1 : Int)))) S (q_move rfl) fun a S => ?_
        refine lx_nil ?_
        exact ⟨m210, Nat.lt_succ_self _, (W (x141 + (1 : Int))), S.sub ⟨rfl, rfl, rfl, rfl, rfl, rfl, trivial⟩, H, it_cont hm hc212⟩
       ·skip
        refine wp_block ?_
        refine wp_seq (region_plain ?_)
        refine lq (.int .i64 x141) S (q_move rfl) fun a S => ?_
        obtain ⟨x216, e217, hm⟩ := bind_some hm
        obtain ⟨c218, h219, hat220⟩ := (h65).elem (idx_some e217).2
        obtain ⟨c223, c224, rfl, h225, h226⟩ := h219
        obtain rfl := h225
        obtain ⟨c227, c228, rfl, h229, h230⟩ := h226
        obtain rfl := h229
        obtain ⟨v221, rfl, h222⟩ := rd_list h230
        have hlt := lt_of_idx (idx_some e217).2
        refine lq (ePtr p0 (x141.toNat * 3)) S (q_indexAddr rfl (h65).isSl rfl (idx_some e217).1 hlt Try.underlying27 Try.sizeOf53) fun a S => ?_
        refine lx_e (.agg #[(.int .i64 x216.1), (.int .i64 x216.2.1), v221]) S trivial (by decide) rfl trivial (q_loadA (cs := [(.int .i64 x216.1), (.int .i64 x216.2.1), v221]) rfl ((hat220 0 _ rfl).isP) Try.isAgg53 Try.sizeOf53 (by rintro _ rfl; exact (fun j u hu => (hat220 j u hu).ext H.ext))) (fun a S => ?_)
        refine lx_alloc S trivial (by decide) rfl H Try.zeroValue3 rfl (fun b231 w232 H => ⟨trivial, fun a S => ?_⟩)
        refine lx_alloc S trivial (by decide) rfl H Try.zeroValue53 rfl (fun b234 w235 H => ⟨trivial, fun a S => ?_⟩)
        refine lx_storeBox (o := 0) (i := 1) (us := [(.int .i64 x141)]) (cs' := [(.int .i64 x141)]) S trivial rfl H rfl rfl rfl rfl Try.sizeOf3 (Nat.le_of_ble_eq_true rfl) (List.forall_mem_cons.2 ⟨rfl, (List.forall_mem_nil _)⟩) rfl (fun w237 H => ⟨trivial, fun a S => ?_⟩)
        change Heap w51 [bA b234 [(.int .i64 (0 : Int)), (.int .i64 (0 : Int)), (.slice none 0 0)] 53, bA b231 [(.int .i64 x141)] 3, bA b67 [v55] 57] w237 at H
        refine lx_storeBox (o := 0) (i := 0) (us := [(.int .i64 x216.1), (.int .i64 x216.2.1), v221]) (cs' := [(.int .i64 x216.1), (.int .i64 x216.2.1), v221]) S trivial rfl H rfl rfl rfl rfl Try.sizeOf53 (Nat.le_of_ble_eq_true rfl) (List.forall_mem_cons.2 ⟨rfl, (List.forall_mem_cons.2 ⟨rfl, (List.forall_mem_cons.2 ⟨one_sl (h222).isSl, (List.forall_mem_nil _)⟩)⟩)⟩) rfl (fun w238 H => ⟨trivial, fun a S => ?_⟩)
        change Heap w51 [bA b234 [(.int .i64 x216.1), (.int .i64 x216.2.1), v221] 53, bA b231 [(.int .i64 x141)] 3, bA b67 [v55] 57] w238 at H
        refine lx_nil (thenN ?_)
        refine wp_seq (region_plain ?_)
        refine lq (.func (.func 41) #[] #[(bp b67), (bp b31), (bp b231), (bp b234)]) S (q_makeFunc (xs := []) (ys := [.tmp 7, .tmp 5, .tmp 8, .tmp 9]) rfl rfl) fun a S => ?_
        refine lx_alloc S trivial (by decide) rfl H Try.zeroValue56 rfl (fun b239 w240 H => ⟨trivial, fun a S => ?_⟩)
        refine lx_storeBox (o := 0) (i := 0) (us := [(.func (.func 41) #[] #[(bp b67), (bp b31), (bp b231), (bp b234)])]) (cs' := [(.func (.func 41) #[] #[(bp b67), (bp b31), (bp b231), (bp b234)])]) S trivial rfl H rfl rfl rfl rfl Try.sizeOf56 (Nat.le_of_ble_eq_true rfl) (List.forall_mem_cons.2 ⟨rfl, (List.forall_mem_nil _)⟩) rfl (fun w242 H => ⟨trivial, fun a S => ?_⟩)
        change Heap w51 [bA b239 [(.func (.func 41) #[] #[(bp b67), (bp b31), (bp b231), (bp b234)])] 56, bA b234 [(.int .i64 x216.1), (.int .i64 x216.2.1), v221] 53, bA b231 [(.int .i64 x141)] 3, bA b67 [v55] 57] w242 at H
        refine lx_nil (thenN ?_)
        refine wp_seq (region_plain ?_)
        refine lq (pAdd (bp b234) 0) S (q_fieldAddr' 0 2 rfl (isP_bp _) Try.underlying53 rfl Try.sizeOf2) fun a S => ?_
        refine lx_e (.int .i64 x216.1) S trivial (by decide) rfl trivial (q_load1 rfl Try.isAgg2 (by rintro _ rfl; exact (At.of_add (m := 0) (j := 0) (boxAt (i := 1) H rfl (j := 0) rfl)))) (fun a S => ?_)
        refine lq (.int .i64 a1) S (q_move rfl) fun a S => ?_
        refine lq (.bool (x216.1 == a1)) S (q_eql rfl rfl) fun a S => ?_
        refine lx_nil (thenN ?_)
        refine cond_b S rfl (fun hc243 => ?_) (fun hc243 => ?_)
        ·have hm := ite_t hc243 hm
         refine wp_seq (region_plain ?_)
         refine lx_e v63 S trivial (by decide) rfl trivial (q_load1 rfl Try.isAgg23 (by rintro _ rfl; exact ((hat62 0 _ rfl).ext H.ext))) (fun a S => ?_)
         refine lx_e (.int .i64 x141) S trivial (by decide) rfl trivial (q_load1 rfl Try.isAgg3 (by rintro _ rfl; exact (boxAt (i := 2) H rfl (j := 0) rfl))) (fun a S => ?_)
         obtain ⟨x244, e245, hm⟩ := bind_some hm
         obtain ⟨c246, h247, hat248⟩ := (h64).elem (idx_some e245).2
         obtain ⟨v249, rfl, h250⟩ := rd_list h247
         have hlt := lt_of_idx (idx_some e245).2
         refine lq (ePtr v63 (x141.toNat * 1)) S (q_indexAddr rfl (h64).isSl rfl (idx_some e245).1 hlt Try.underlying23 Try.sizeOf38) fun a S => ?_
         refine lx_e v249 S trivial (by decide) rfl trivial (q_load1 rfl Try.isAgg38 (by rintro _ rfl; exact ((hat248 0 _ rfl).ext H.ext))) (fun a S => ?_)
         refine lq (.int .i64 (x244.length : Int)) S (q_lenSl rfl (h250).isSl rfl Try.underlying38) fun a S => ?_
         refine lq (.bool (decide ((0 : Int) < (x244.length : Int)))) S (q_gtr rfl rfl) fun a S => ?_
         refine lq (.bool (decide ((0 : Int) < (x244.length : Int)))) S (q_move rfl) fun a S => ?_
         obtain ⟨t251, e252, hm⟩ := bind_some hm
         refine lx_cut 6 (fun a w => Slots a 62 [(1, (.int .i64 a1)), (5, (bp b31)), (7, (bp b67)), (32, p0), (33, (.int .i64 (a0.length : Int))), (34, (.int .i64 x141)), (56, (.bool t251))] ∧ Heap w51 [bA b67 [v55] 57] w) ?_ ?_
         ·by_cases hc253 : (decide ((0 : Int) < (x244.length : Int))) = true
          ·have hm := ite_t hc253 e252
           refine lx_q (pAdd (bp b234) 2) S (want_b rfl rfl hc253) (by decide) (q_fieldAddr' 2 38 rfl (isP_bp _) Try.underlying53 rfl Try.sizeOf38) (fun a S => ?_)
           refine lx_e v221 S (want_b rfl rfl hc253) (by decide) rfl trivial (q_load1 rfl Try.isAgg38 (by rintro _ rfl; exact (At.of_add (m := 2) (j := 0) (boxAt (i := 1) H rfl (j := 2) rfl)))) (fun a S => ?_)
           refine lx_e (.func (.func 41) #[] #[(bp b67), (bp b31), (bp b231), (bp b234)]) S (want_b rfl rfl hc253) (by decide) rfl trivial (q_load1 rfl Try.isAgg56 (by rintro _ rfl; exact (boxAt (i := 0) H rfl (j := 0) rfl))) (fun a S => ?_)
           obtain ⟨x256, e257, hm⟩ := bind_some hm
           have hcap258 : Rd (rPtr (rPtr Rimpl_measured)) w242 (bp b67) x53 := (rdPtr_box H 3 rfl (pp_rd (H.arg h66)))
           have hcap259 : Rd (rPtr (rList (rList (rInt .i64)))) w242 (bp b31) a2 := (H.arg hb59)
           have hcap260 : Rd (rPtr (rInt .i64)) w242 (bp b231) x141 := (rdPtr_box H 2 rfl rfl)
           have hcap261 : Rd (rPtr Rimpl_Vertex) w242 (bp b234) (x216.1, x216.2.1, x216.2.2) := (rdPtr_box H 1 rfl ⟨[(.int .i64 x216.1)], [(.int .i64 x216.2.1), v221], rfl, rfl, ⟨[(.int .i64 x216.2.1)], [v221], rfl, rfl, ((H.arg h222)).list_rd⟩⟩)
           refine lx_call (xs := [.tmp 52, .tmp 53]) S (want_b rfl rfl hc253) (by decide) rfl rfl Try.call43 ((slices_ContainsFunc__int64_int64_ok (f1 := 41) (fs1 := ([] : List Value)) (cp1 := ([(bp b67), (bp b31), (bp b231), (bp b234)] : List Value)) (a1 := (fun (z0 : Int) => impl_IsMeasure_2_m fuel z0 x53 a2 x141 (x216.1, x216.2.1, x216.2.2))) (H.arg h222) Try.call41 (fun he  hm => impl_IsMeasure_2_ok   (hcap258.ext he) (hcap259.ext he) (hcap260.ext he) (hcap261.ext he) hm) e257).mono ?_)
           rintro e w254 ⟨rfl, Hc255⟩
           have H := H.call0 Hc255
           refine ⟨_, rfl, trivial, fun a S => ?_⟩
           refine lx_q (.bool (!x256)) S (want_b rfl rfl hc253) (by decide) (q_not rfl) (fun a S => ?_)
           refine lq (.bool (!x256)) S (q_pickT' rfl hc253 rfl) fun a S => ?_
           refine lx_nil ?_
           obtain rfl := Option.some.inj hm
           have H := H.sel [3] (by decide)
           exact ⟨S.sub ⟨rfl, rfl, rfl, rfl, rfl, rfl, rfl, trivial⟩, H⟩
          ·have hm := ite_f (eq_false_of_ne_true hc253) e252
           have hc253 : (decide ((0 : Int) < (x244.length : Int))) = false := eq_false_of_ne_true hc253
           refine lx_skip S rfl rfl (isB_ne hc253) (by decide) (fun a S => ?_)
           refine lx_skip S rfl rfl (isB_ne hc253) (by decide) (fun a S => ?_)
           refine lx_skip S rfl rfl (isB_ne hc253) (by decide) (fun a S => ?_)
           refine lx_skip S rfl rfl (isB_ne hc253) (by decide) (fun a S => ?_)
           refine lx_skip S rfl rfl (isB_ne hc253) (by decide) (fun a S => ?_)
           refine lq (.bool false) S (q_pickF' rfl hc253 rfl) fun a S => ?_
           refine lx_nil ?_
           obtain rfl := Option.some.inj hm
           have H := H.sel [3] (by decide)
           exact ⟨S.sub ⟨rfl, rfl, rfl, rfl, rfl, rfl, rfl, trivial⟩, H⟩
         ·rintro a w ⟨S, H⟩
          refine lx_nil (thenN ?_)
          refine cond_b S rfl (fun hc263 => ?_) (fun hc263 => ?_)
          ·have hm := ite_t hc263 hm
           refine wp_seq (region_plain ?_)
           refine lq (.bool false) S (q_assign rfl) fun a S => ?_
           refine lx_nil (thenN ?_)
           refine wp_ret (inBlock_ret ?_)
           refine then_ret ?_
           refine then_ret ?_
           refine inBlock_ret ?_
           refine then_ret ?_
           refine then_ret ?_
           obtain rfl := it_brk hm hc212
           have hm := ctl_inr hk209
           obtain rfl := Option.some.inj hm
           have H : Heap w0 [bA b67 [v55] 57, bA b31 [p2] 23] w := H0.call H
           have H : Heap w0 [] w := H.sel [] (by decide)
           exact leave1 S rfl rfl ⟨rfl, H⟩
          ·have hm := ite_f hc263 hm
           refine wp_skip ?_
           refine inBlock_norm ?_
           exact ⟨S.sub ⟨rfl, rfl, rfl, rfl, rfl, rfl, trivial⟩, H, hm⟩
        ·have hm := ite_f hc243 hm
         refine wp_seq (region_plain ?_)
         refine lq (pAdd (bp b234) 2) S (q_fieldAddr' 2 38 rfl (isP_bp _) Try.underlying53 rfl Try.sizeOf38) fun a S => ?_
         refine lx_e v221 S trivial (by decide) rfl trivial (q_load1 rfl Try.isAgg38 (by rintro _ rfl; exact (At.of_add (m := 2) (j := 0) (boxAt (i := 1) H rfl (j := 2) rfl)))) (fun a S => ?_)
         refine lq (.func (.func 44) #[] #[(bp b239)]) S (q_makeFunc (xs := []) (ys := [.tmp 10]) rfl rfl) fun a S => ?_
         obtain ⟨x266, e267, hm⟩ := bind_some hm
         have hcap268 : At w242 (bp b239) 0 (.func (.func 41) #[] #[(bp b67), (bp b31), (bp b231), (bp b234)]) := boxAt (i := 0) H rfl (j := 0) rfl
         have hcap269 : Rd (rPtr (rPtr Rimpl_measured)) w242 (bp b67) x53 := (rdPtr_box H 3 rfl (pp_rd (H.arg h66)))
         have hcap270 : Rd (rPtr (rList (rList (rInt .i64)))) w242 (bp b31) a2 := (H.arg hb59)
         have hcap271 : Rd (rPtr (rInt .i64)) w242 (bp b231) x141 := (rdPtr_box H 2 rfl rfl)
         have hcap272 : Rd (rPtr Rimpl_Vertex) w242 (bp b234) (x216.1, x216.2.1, x216.2.2) := (rdPtr_box H 1 rfl ⟨[(.int .i64 x216.1)], [(.int .i64 x216.2.1), v221], rfl, rfl, ⟨[(.int .i64 x216.2.1)], [v221], rfl, rfl, ((H.arg h222)).list_rd⟩⟩)
         refine lx_call (xs := [.tmp 58, .tmp 59]) S trivial (by decide) rfl rfl Try.call43 ((slices_ContainsFunc__int64_int64_ok (f1 := 44) (fs1 := ([] : List Value)) (cp1 := ([(bp b239)] : List Value)) (a1 := (fun (z0 : Int) => impl_IsMeasure_3_m fuel z0 x53 a2 x141 (x216.1, x216.2.1, x216.2.2))) (H.arg h222) Try.call44 (fun he  hm => impl_IsMeasure_3_ok   (hcap268.ext he) (hcap269.ext he) (hcap270.ext he) (hcap271.ext he) (hcap272.ext he) hm) e267).mono ?_)
         rintro e w264 ⟨rfl, Hc265⟩
         have H := H.call0 Hc265
         refine ⟨_, rfl, trivial, fun a S => ?_⟩
         refine lx_nil (thenN ?_)
         refine cond_b S rfl (fun hc274 => ?_) (fun hc274 => ?_)
         ·have hm := ite_t hc274 hm
          refine wp_seq (region_plain ?_)
          refine lq (.bool false) S (q_assign rfl) fun a S => ?_
          refine lx_nil (thenN ?_)
          refine wp_ret (inBlock_ret ?_)
          refine then_ret ?_
          refine then_ret ?_
          refine inBlock_ret ?_
          refine then_ret ?_
          refine then_ret ?_
          obtain rfl := it_brk hm hc212
          have hm := ctl_inr hk209
          obtain rfl := Option.some.inj hm
          have H : Heap w0 [bA b239 [(.func (.func 41) #[] #[(bp b67), (bp b31), (bp b231), (bp b234)])] 56, bA b234 [(.int .i64 x216.1), (.int .i64 x216.2.1), v221] 53, bA b231 [(.int .i64 x141)] 3, bA b67 [v55] 57, bA b31 [p2] 23] w264 := H0.call H
          have H : Heap w0 [] w264 := H.sel [] (by decide)
          exact leave1 S rfl rfl ⟨rfl, H⟩
         ·have hm := ite_f hc274 hm
          refine wp_skip ?_
          refine inBlock_norm ?_
          have H : Heap w51 [bA b67 [v55] 57] w264 := H.sel [3] (by decide)
          exact ⟨S.sub ⟨rfl, rfl, rfl, rfl, rfl, rfl, trivial⟩, H, hm⟩
      ·have hm := ite_f hc213 hm
       refine wp_exit ?_
       refine then_exit ?_
       refine then_exit ?_
       refine inBlock_exit ?_
       obtain rfl := it_brk hm hc212
       have H : Heap w51 [] w := H.sel [] (by decide)
       exact ⟨S.sub trivial, H, rfl⟩

/-- laws.FnExactIsMeasure -/
def laws_FnExactIsMeasure_m (fuel : Nat) (a0 : (List Tlaws_Vertex)) (a1 : Int) (a2 : (List (List Int))) : Option (Bool) :=
  (laws_szVertexS_m fuel a0 (1048576 : Int)).bind fun x33 => (if (decide (x33 < (0 : Int))) = true then some (true) else (laws_szInt64SS_m fuel a2 x33).bind fun x39 => (if (decide (x39 < (0 : Int))) = true then some (true) else (laws_toVertexS_m fuel a0).bind fun x45 => (laws_toInt64SS_m fuel a2).bind fun x52 => (spec_IsMeasure_m fuel x45 a1 x52).bind fun x59 => (laws_toVertexS_m fuel a0).bind fun x64 => (laws_toInt64SS_m fuel a2).bind fun x71 => (impl_IsMeasure_m fuel x64 a1 x71).bind fun x78 => (if (x78 != x59) = true then some (false) else (laws_toVertexS_m fuel a0).bind fun x84 => (laws_eqVertexS_m fuel x64 x84).bind fun x91 => (if (!x91) = true then some (false) else (laws_toInt64SS_m fuel a2).bind fun x97 => (laws_eqInt64SS_m fuel x71 x97).bind fun x104 => (if (!x104) = true then some (false) else some (true))))))
set_option maxRecDepth 20000 in
theorem laws_FnExactIsMeasure_ok [dr : Dr] {w0 : World} {fuel : Nat} {p0 p2 : Value} {a0 : (List Tlaws_Vertex)} {a1 : Int} {a2 : (List (List Int))} {r : Bool} (h0 : Rd (rList Rlaws_Vertex) w0 p0 a0) (h2 : Rd (rList (rList (rInt .i64))) w0 p2 a2) (hm : laws_FnExactIsMeasure_m fuel a0 a1 a2 = some r) :
  Calls Try.prog 3 #[p0, .int .i64 a1, p2] w0 fun e w => e = .returned (.bool r) ∧ Heap w0 [] w := by
 unfold laws_FnExactIsMeasure_m at hm
 have H := Heap.start w0
 refine enter (args := [p0, .int .i64 a1, p2]) Try.func3 rfl 49 rfl (Nat.le_of_ble_eq_true rfl) (fun a S => ?_)
 refine wp_seq (region_plain ?_)
 refine lq (.bool false) S (q_assign rfl) fun a S => ?_
 refine lx_nil (thenN ?_)
 refine wp_seq (region_plain ?_)
 refine lq (.int .i64 (1048576 : Int)) S (q_assign rfl) fun a S => ?_
 refine lx_nil (thenN ?_)
 refine wp_seq (region_plain ?_)
 refine lq p0 S (q_move rfl) fun a S => ?_
 refine lq (.int .i64 (1048576 : Int)) S (q_move rfl) fun a S => ?_
 obtain ⟨x33, e34, hm⟩ := bind_some hm
 refine lx_call (xs := [.tmp 12, .tmp 13]) S trivial (by decide) rfl rfl Try.call6 ((laws_szVertexS_ok (H.arg h0)  e34).mono ?_)
 rintro e w31 ⟨rfl, Hc32⟩
 have H := H.call0 Hc32
 refine ⟨_, rfl, trivial, fun a S => ?_⟩
 refine lq (.int .i64 x33) S (q_assign rfl) fun a S => ?_
 refine lx_nil (thenN ?_)
 refine wp_seq (wp_seq (region_plain ?_))
 refine lq (.int .i64 x33) S (q_move rfl) fun a S => ?_
 refine lq (.bool (decide (x33 < (0 : Int)))) S (q_lss rfl rfl) fun a S => ?_
 refine lx_nil (thenN ?_)
 refine cond_b S rfl (fun hc36 => ?_) (fun hc36 => ?_)
 ·have hm := ite_t hc36 hm
  refine wp_seq (region_plain ?_)
  refine lq (.bool true) S (q_assign rfl) fun a S => ?_
  refine lx_nil (thenN ?_)
  refine wp_ret (then_ret ?_)
  obtain rfl := Option.some.inj hm
  exact leave1 S rfl rfl ⟨rfl, H⟩
 ·have hm := ite_f hc36 hm
  refine wp_skip (thenN ?_)
  refine wp_seq (region_plain ?_)
  refine lq p2 S (q_move rfl) fun a S => ?_
  refine lq (.int .i64 x33) S (q_move rfl) fun a S => ?_
  obtain ⟨x39, e40, hm⟩ := bind_some hm
  refine lx_call (xs := [.tmp 17, .tmp 18]) S trivial (by decide) rfl rfl Try.call7 ((laws_szInt64SS_ok (H.arg h2)  e40).mono ?_)
  rintro e w37 ⟨rfl, Hc38⟩
  have H := H.call0 Hc38
  refine ⟨_, rfl, trivial, fun a S => ?_⟩
  refine lq (.int .i64 x39) S (q_assign rfl) fun a S => ?_
  refine lx_nil (thenN ?_)
  refine wp_seq (wp_seq (region_plain ?_))
  refine lq (.int .i64 x39) S (q_move rfl) fun a S => ?_
  refine lq (.bool (decide (x39 < (0 : Int)))) S (q_lss rfl rfl) fun a S => ?_
  refine lx_nil (thenN ?_)
  refine cond_b S rfl (fun hc42 => ?_) (fun hc42 => ?_)
  ·have hm := ite_t hc42 hm
   refine wp_seq (region_plain ?_)
   refine lq (.bool true) S (q_assign rfl) fun a S => ?_
   refine lx_nil (thenN ?_)
   refine wp_ret (then_ret ?_)
   obtain rfl := Option.some.inj hm
   exact leave1 S rfl rfl ⟨rfl, H⟩
  ·have hm := ite_f hc42 hm
   refine wp_skip (thenN ?_)
   refine wp_seq (region_plain ?_)
   refine lq p0 S (q_move rfl) fun a S => ?_
   obtain ⟨x45, e46, hm⟩ := bind_some hm
   refine lx_call (xs := [.tmp 22]) S trivial (by decide) rfl rfl Try.call9 ((laws_toVertexS_ok (H.arg h0) e46).mono ?_)
   rintro e w43 ⟨v47, rfl, Hc44⟩
   have H := H.call1 Hc44
   refine ⟨_, rfl, trivial, fun a S => ?_⟩
   refine lq (.int .i64 a1) S (q_move rfl) fun a S => ?_
   refine lq p2 S (q_move rfl) fun a S => ?_
   obtain ⟨x52, e53, hm⟩ := bind_some hm
   refine lx_call (xs := [.tmp 25]) S trivial (by decide) rfl rfl Try.call10 ((laws_toInt64SS_ok (H.arg h2) e53).mono ?_)
   rintro e w50 ⟨v54, rfl, Hc51⟩
   have H := H.call1 Hc51
   refine ⟨_, rfl, trivial, fun a S => ?_⟩
   obtain ⟨x59, e60, hm⟩ := bind_some hm
   refine lx_call (xs := [.tmp 23, .tmp 24, .tmp 26]) S trivial (by decide) rfl rfl Try.call8 ((spec_IsMeasure_ok (H.rdAt 1 rfl)  (H.rdAt 0 rfl) e60).mono ?_)
   rintro e w57 ⟨rfl, Hc58⟩
   have H := H.call0 Hc58
   refine ⟨_, rfl, trivial, fun a S => ?_⟩
   refine lq (.bool x59) S (q_assign rfl) fun a S => ?_
   refine lx_nil (thenN ?_)
   refine wp_seq (region_plain ?_)
   refine lq p0 S (q_move rfl) fun a S => ?_
   obtain ⟨x64, e65, hm⟩ := bind_some hm
   refine lx_call (xs := [.tmp 28]) S trivial (by decide) rfl rfl Try.call9 ((laws_toVertexS_ok (H.arg h0) e65).mono ?_)
   rintro e w62 ⟨v66, rfl, Hc63⟩
   have H := H.call1 Hc63
   refine ⟨_, rfl, trivial, fun a S => ?_⟩
   refine lq v66 S (q_assign rfl) fun a S => ?_
   refine lx_nil (thenN ?_)
   refine wp_seq (region_plain ?_)
   refine lq p2 S (q_move rfl) fun a S => ?_
   obtain ⟨x71, e72, hm⟩ := bind_some hm
   refine lx_call (xs := [.tmp 30]) S trivial (by decide) rfl rfl Try.call10 ((laws_toInt64SS_ok (H.arg h2) e72).mono ?_)
   rintro e w69 ⟨v73, rfl, Hc70⟩
   have H := H.call1 Hc70
   refine ⟨_, rfl, trivial, fun a S => ?_⟩
   refine lq v73 S (q_assign rfl) fun a S => ?_
   refine lx_nil (thenN ?_)
   refine wp_seq (region_plain ?_)
   refine lq v66 S (q_move rfl) fun a S => ?_
   refine lq (.int .i64 a1) S (q_move rfl) fun a S => ?_
   refine lq v73 S (q_move rfl) fun a S => ?_
   obtain ⟨x78, e79, hm⟩ := bind_some hm
   refine lx_call (xs := [.tmp 32, .tmp 33, .tmp 34]) S trivial (by decide) rfl rfl Try.call11 ((impl_IsMeasure_ok (H.rdAt 1 rfl)  (H.rdAt 0 rfl) e79).mono ?_)
   rintro e w76 ⟨rfl, Hc77⟩
   have H := H.call0 Hc77
   refine ⟨_, rfl, trivial, fun a S => ?_⟩
   refine lq (.bool x78) S (q_assign rfl) fun a S => ?_
   refine lx_nil (thenN ?_)
   refine wp_seq (wp_seq (region_plain ?_))
   refine lq (.bool x78) S (q_move rfl) fun a S => ?_
   refine lq (.bool x59) S (q_move rfl) fun a S => ?_
   refine lq (.bool (x78 != x59)) S (q_bneq rfl rfl Try.underlying4) fun a S => ?_
   refine lx_nil (thenN ?_)
   refine cond_b S rfl (fun hc81 => ?_) (fun hc81 => ?_)
   ·have hm := ite_t hc81 hm
    refine wp_seq (region_plain ?_)
    refine lq (.bool false) S (q_assign rfl) fun a S => ?_
    refine lx_nil (thenN ?_)
    refine wp_ret (then_ret ?_)
    obtain rfl := Option.some.inj hm
    have H : Heap w0 [] w76 := H.sel [] (by decide)
    exact leave1 S rfl rfl ⟨rfl, H⟩
   ·have hm := ite_f hc81 hm
    refine wp_skip (thenN ?_)
    refine wp_seq (wp_seq (region_plain ?_))
    refine lq v66 S (q_move rfl) fun a S => ?_
    refine lq p0 S (q_move rfl) fun a S => ?_
    obtain ⟨x84, e85, hm⟩ := bind_some hm
    refine lx_call (xs := [.tmp 40]) S trivial (by decide) rfl rfl Try.call9 ((laws_toVertexS_ok (H.arg h0) e85).mono ?_)
    rintro e w82 ⟨v86, rfl, Hc83⟩
    have H := H.call1 Hc83
    refine ⟨_, rfl, trivial, fun a S => ?_⟩
    obtain ⟨x91, e92, hm⟩ := bind_some hm
    refine lx_call (xs := [.tmp 39, .tmp 41]) S trivial (by decide) rfl rfl Try.call12 ((laws_eqVertexS_ok (H.rdAt 2 rfl) (H.rdAt 0 rfl) e92).mono ?_)
    rintro e w89 ⟨rfl, Hc90⟩
    have H := H.call0 Hc90
    refine ⟨_, rfl, trivial, fun a S => ?_⟩
    refine lq (.bool (!x91)) S (q_not rfl) fun a S => ?_
    refine lx_nil (thenN ?_)
    refine cond_b S rfl (fun hc94 => ?_) (fun hc94 => ?_)
    ·have hm := ite_t hc94 hm
     refine wp_seq (region_plain ?_)
     refine lq (.bool false) S (q_assign rfl) fun a S => ?_
     refine lx_nil (thenN ?_)
     refine wp_ret (then_ret ?_)
     obtain rfl := Option.some.inj hm
     have H : Heap w0 [] w89 := H.sel [] (by decide)
     exact leave1 S rfl rfl ⟨rfl, H⟩
    ·have hm := ite_f hc94 hm
     refine wp_skip (thenN ?_)
     refine wp_seq (wp_seq (region_plain ?_))
     refine lq v73 S (q_move rfl) fun a S => ?_
     refine lq p2 S (q_move rfl) fun a S => ?_
     obtain ⟨x97, e98, hm⟩ := bind_some hm
     refine lx_call (xs := [.tmp 45]) S trivial (by decide) rfl rfl Try.call10 ((laws_toInt64SS_ok (H.arg h2) e98).mono ?_)
     rintro e w95 ⟨v99, rfl, Hc96⟩
     have H := H.call1 Hc96
     refine ⟨_, rfl, trivial, fun a S => ?_⟩
     obtain ⟨x104, e105, hm⟩ := bind_some hm
     refine lx_call (xs := [.tmp 44, .tmp 46]) S trivial (by decide) rfl rfl Try.call13 ((laws_eqInt64SS_ok (H.rdAt 2 rfl) (H.rdAt 0 rfl) e105).mono ?_)
     rintro e w102 ⟨rfl, Hc103⟩
     have H := H.call0 Hc103
     refine ⟨_, rfl, trivial, fun a S => ?_⟩
     refine lq (.bool (!x104)) S (q_not rfl) fun a S => ?_
     refine lx_nil (thenN ?_)
     refine cond_b S rfl (fun hc107 => ?_) (fun hc107 => ?_)
     ·have hm := ite_t hc107 hm
      refine wp_seq (region_plain ?_)
      refine lq (.bool false) S (q_assign rfl) fun a S => ?_
      refine lx_nil (thenN ?_)
      refine wp_ret (then_ret ?_)
      obtain rfl := Option.some.inj hm
      have H : Heap w0 [] w102 := H.sel [] (by decide)
      exact leave1 S rfl rfl ⟨rfl, H⟩
     ·have hm := ite_f hc107 hm
      refine wp_skip (thenN ?_)
      refine wp_seq (region_plain ?_)
      refine lq (.bool true) S (q_assign rfl) fun a S => ?_
      refine lx_nil (thenN ?_)
      refine wp_ret ?_
      obtain rfl := Option.some.inj hm
      have H : Heap w0 [] w102 := H.sel [] (by decide)
      exact leave1 S rfl rfl ⟨rfl, H⟩
end Go.Proofs.Ytcddkipbedfhkaa
