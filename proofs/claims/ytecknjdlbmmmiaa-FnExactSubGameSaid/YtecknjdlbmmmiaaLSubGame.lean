/- The model of a statement and its walk (printed by a program of this repo). -/
import Derived.Test.YtecknjdlbmmmiaaF0
import Derived.Test.YtecknjdlbmmmiaaF1
import Derived.Test.YtecknjdlbmmmiaaF2
import Derived.Test.YtecknjdlbmmmiaaF3
import Derived.Test.YtecknjdlbmmmiaaF4
import Derived.Test.YtecknjdlbmmmiaaF5
import Derived.Test.YtecknjdlbmmmiaaF6
import Derived.Test.YtecknjdlbmmmiaaF7
import Derived.Test.YtecknjdlbmmmiaaGxT
namespace Go.Proofs.Ytecknjdlbmmmiaa
open Go.RowKit Go.Gx

/-- spec.SubGame -/
def spec_SubGame_m (fuel : Nat) (a0 : (List Timpl_Vertex)) (a1 : (List Int)) : Option (((List Timpl_Vertex) × Int)) :=
  (spec_l23Is_m fuel a0).bind fun x33 => (if (!x33) = true then some (([], (1 : Int))) else (spec_l00Rises_m fuel a1 (0 : Int) (W ((a0.length : Int) - (1 : Int)))).bind fun x40 => (if (!x40) = true then some (([], (2 : Int))) else (if ((a1.length : Int) == (0 : Int)) = true then some (([], (3 : Int))) else (iter (fun (s : (List Timpl_Vertex) × (Int)) => (match s with | (xs4196, x4198) => (if (decide (x4198 < (a1.length : Int))) = true then join (κ := Int → Int → List Int → Option (((List Timpl_Vertex) × (Int)) ⊕ (((List Timpl_Vertex)) ⊕ (((List Timpl_Vertex) × Int))))) (fun (x8358 : Int) (x8359 : Int) (xs8361 : List Int) => (idx a1 x4198).bind fun x8365 => (idx a0 x8365).bind fun x8370 => (iter (fun (s : (List Int) × (Int)) => (match s with | (xs8416, x8418) => (if (decide (x8418 < (x8370.2.2.length : Int))) = true then join (κ := List Int → Option (((List Int) × (Int)) ⊕ (((List Int)) ⊕ (((List Timpl_Vertex) × Int))))) (fun (xs8470 : List Int) => some (.inl (xs8470, (W (x8418 + (1 : Int)))))) (fun K8472 => (idx x8370.2.2 x8418).bind fun x8474 => (spec_l11Place_m fuel a1 x8474).bind fun x8481 => (if (decide ((0 : Int) ≤ x8481)) = true then (app xs8416 [x8481]).bind fun x8488 => (K8472 x8488) else (K8472 xs8416))) else some (.inr (.inl (xs8416)))) : Option (((List Int) × (Int)) ⊕ (((List Int)) ⊕ (((List Timpl_Vertex) × Int)))))) fuel (xs8361, (0 : Int))).bind fun res8452 => ctl (β := (List Int)) (ρ := ((List Timpl_Vertex) × Int)) (τ := (((List Timpl_Vertex) × (Int)) ⊕ (((List Timpl_Vertex)) ⊕ (((List Timpl_Vertex) × Int))))) res8452 (fun (xs8450) => (app xs4196 [(x8358, x8359, xs8450)]).bind fun x8460 => some (.inl (x8460, (W (x4198 + (1 : Int)))))) (fun q => some (.inr (.inr q)))) (fun K8363 => (idx a1 x4198).bind fun x8496 => (idx a0 x8496).bind fun x8501 => (idx a1 x4198).bind fun x8516 => (idx a0 x8516).bind fun x8521 => (K8363 x8501.1 x8521.2.1 ([] : List Int))) else some (.inr (.inl (xs4196)))) : Option (((List Timpl_Vertex) × (Int)) ⊕ (((List Timpl_Vertex)) ⊕ (((List Timpl_Vertex) × Int)))))) fuel (([] : List Timpl_Vertex), (0 : Int))).bind fun res8347 => ctl (β := (List Timpl_Vertex)) (ρ := ((List Timpl_Vertex) × Int)) (τ := ((List Timpl_Vertex) × Int)) res8347 (fun (xs8345) => some ((xs8345, (0 : Int)))) (fun q => some (q)))))
set_option maxRecDepth 20000 in
theorem spec_SubGame_ok {w0 : World} {fuel : Nat} {p0 p1 : Value} {a0 : (List Timpl_Vertex)} {a1 : (List Int)} {r : ((List Timpl_Vertex) × Int)} (h0 : Rd (rList Rimpl_Vertex) w0 p0 a0) (h1 : Rd (rList (rInt .i64)) w0 p1 a1) (hm : spec_SubGame_m fuel a0 a1 = some r) :
  Calls Try.prog 43 #[p0, p1] w0 fun e w => ∃ (v0 : Value), e = .returned (.tuple #[v0, .int .i64 r.2]) ∧ Heap w0 [oA (rList Rimpl_Vertex) v0 r.1] w := by
 unfold spec_SubGame_m at hm
 have H := Heap.start w0
 refine enter (args := [p0, p1]) Try.func43 rfl 82 rfl (Nat.le_of_ble_eq_true rfl) (fun a S => ?_)
 refine wp_seq (region_plain ?_)
 refine lq (.slice none 0 0) S (q_assign rfl) fun a S => ?_
 refine lq (.int .i64 (0 : Int)) S (q_assign rfl) fun a S => ?_
 refine lx_nil (thenN ?_)
 refine wp_seq (wp_seq (region_plain ?_))
 refine lq p0 S (q_move rfl) fun a S => ?_
 obtain ⟨x33, e34, hm⟩ := bind_some hm
 refine lx_call (xs := [.tmp 12]) S trivial (by decide) rfl rfl Try.call53 ((spec_l23Is_ok (H.arg h0) e34).mono ?_)
 rintro e w31 ⟨rfl, Hc32⟩
 have H := H.call0 Hc32
 refine ⟨_, rfl, trivial, fun a S => ?_⟩
 refine lq (.bool (!x33)) S (q_not rfl) fun a S => ?_
 refine lx_nil (thenN ?_)
 refine cond_b S rfl (fun hc36 => ?_) (fun hc36 => ?_)
 ·have hm := ite_t hc36 hm
  refine wp_seq (region_plain ?_)
  refine lq (.slice none 0 0) S (q_assign rfl) fun a S => ?_
  refine lq (.int .i64 (1 : Int)) S (q_assign rfl) fun a S => ?_
  refine lx_nil (thenN ?_)
  refine wp_ret (then_ret ?_)
  obtain rfl := Option.some.inj hm
  have H : Heap w0 [oA (rList Rimpl_Vertex) (.slice none 0 0) ([] : List Timpl_Vertex)] w31 := H.nilList Rimpl_Vertex
  exact leave2 S rfl rfl rfl ⟨(.slice none 0 0), rfl, H⟩
 ·have hm := ite_f hc36 hm
  refine wp_skip (thenN ?_)
  refine wp_seq (wp_seq (region_plain ?_))
  refine lq p1 S (q_move rfl) fun a S => ?_
  refine lq p0 S (q_move rfl) fun a S => ?_
  refine lq (.int .i64 (a0.length : Int)) S (q_lenSl rfl (h0).isSl rfl Try.underlying26) fun a S => ?_
  refine lq (.int .i64 (W ((a0.length : Int) - (1 : Int)))) S (q_sub rfl rfl) fun a S => ?_
  obtain ⟨x40, e41, hm⟩ := bind_some hm
  refine lx_call (xs := [.tmp 15, .const (.int .i64 (0)), .tmp 18]) S trivial (by decide) rfl rfl Try.call55 ((spec_l00Rises_ok (H.arg h1)   e41).mono ?_)
  rintro e w38 ⟨rfl, Hc39⟩
  have H := H.call0 Hc39
  refine ⟨_, rfl, trivial, fun a S => ?_⟩
  refine lq (.bool (!x40)) S (q_not rfl) fun a S => ?_
  refine lx_nil (thenN ?_)
  refine cond_b S rfl (fun hc43 => ?_) (fun hc43 => ?_)
  ·have hm := ite_t hc43 hm
   refine wp_seq (region_plain ?_)
   refine lq (.slice none 0 0) S (q_assign rfl) fun a S => ?_
   refine lq (.int .i64 (2 : Int)) S (q_assign rfl) fun a S => ?_
   refine lx_nil (thenN ?_)
   refine wp_ret (then_ret ?_)
   obtain rfl := Option.some.inj hm
   have H : Heap w0 [oA (rList Rimpl_Vertex) (.slice none 0 0) ([] : List Timpl_Vertex)] w38 := H.nilList Rimpl_Vertex
   exact leave2 S rfl rfl rfl ⟨(.slice none 0 0), rfl, H⟩
  ·have hm := ite_f hc43 hm
   refine wp_skip (thenN ?_)
   refine wp_seq (wp_seq (region_plain ?_))
   refine lq p1 S (q_move rfl) fun a S => ?_
   refine lq (.int .i64 (a1.length : Int)) S (q_lenSl rfl (h1).isSl rfl Try.underlying23) fun a S => ?_
   refine lq (.bool ((a1.length : Int) == (0 : Int))) S (q_eql rfl rfl) fun a S => ?_
   refine lx_nil (thenN ?_)
   refine cond_b S rfl (fun hc45 => ?_) (fun hc45 => ?_)
   ·have hm := ite_t hc45 hm
    refine wp_seq (region_plain ?_)
    refine lq (.slice none 0 0) S (q_assign rfl) fun a S => ?_
    refine lq (.int .i64 (3 : Int)) S (q_assign rfl) fun a S => ?_
    refine lx_nil (thenN ?_)
    refine wp_ret (then_ret ?_)
    obtain rfl := Option.some.inj hm
    have H : Heap w0 [oA (rList Rimpl_Vertex) (.slice none 0 0) ([] : List Timpl_Vertex)] w38 := H.nilList Rimpl_Vertex
    exact leave2 S rfl rfl rfl ⟨(.slice none 0 0), rfl, H⟩
   ·have hm := ite_f hc45 hm
    refine wp_skip (thenN ?_)
    refine wp_seq (region_plain ?_)
    refine lx_buildSlice0 (r := Rimpl_Vertex) S trivial (by decide) rfl H Try.underlying26 Try.sizeOf71 (fun v47 w48 H => ⟨trivial, fun a S => ?_⟩)
    refine lq v47 S (q_assign rfl) fun a S => ?_
    refine lx_nil (thenN ?_)
    refine wp_seq (wp_seq (region_plain ?_))
    refine lq (.int .i64 (0 : Int)) S (q_assign rfl) fun a S => ?_
    refine lx_nil (thenN ?_)
    obtain ⟨res8347, hit8348, hk8351⟩ := bind_some hm
    obtain ⟨f8349, hf8350, hit8348⟩ := iter_name hit8348
    refine block_loop (fun a w => ∃ (xs8345 : List Timpl_Vertex) (v8344 : Value), Slots a 82 [(6, v8344)] ∧ Heap w0 [oA (rList Rimpl_Vertex) v8344 xs8345] w ∧ res8347 = .inl (xs8345)) ?_ ?_
    ·rintro a w ⟨xs8345, v8344, S, H, rfl⟩
     have hm := ctl_inl hk8351
     refine thenN ?_
     refine wp_seq (region_plain ?_)
     refine lq v8344 S (q_move rfl) fun a S => ?_
     refine lq v8344 S (q_assign rfl) fun a S => ?_
     refine lq (.int .i64 (0 : Int)) S (q_assign rfl) fun a S => ?_
     refine lx_nil (thenN ?_)
     refine wp_ret ?_
     obtain rfl := Option.some.inj hm
     exact leave2 S rfl rfl rfl ⟨v8344, rfl, H⟩
    ·skip
     refine loop_ghost (fun n a w => ∃ (xs4196 : List Timpl_Vertex) (x4198 : Int) (v4195 : Value), Slots a 82 [(0, p0), (1, p1), (6, v4195), (7, (.int .i64 x4198))] ∧ Heap w0 [oA (rList Rimpl_Vertex) v4195 xs4196] w ∧ iter f8349 n (xs4196, x4198) = some res8347) _ ⟨([] : List Timpl_Vertex), (0 : Int), v47, S.sub ⟨rfl, rfl, rfl, rfl, trivial⟩, H, hit8348⟩ ?_
     rintro n a w ⟨xs4196, x4198, v4195, S, H, hit8348⟩
     obtain ⟨m8352, o8353, rfl, hm, hc8354⟩ := iter_step hit8348
     rw [hf8350] at hm
     refine wp_seq (wp_seq (region_plain ?_))
     refine lq (.int .i64 x4198) S (q_move rfl) fun a S => ?_
     refine lq p1 S (q_move rfl) fun a S => ?_
     refine lq (.int .i64 (a1.length : Int)) S (q_lenSl rfl (h1).isSl rfl Try.underlying23) fun a S => ?_
     refine lq (.bool (decide (x4198 < (a1.length : Int)))) S (q_lss rfl rfl) fun a S => ?_
     refine lx_nil (thenN ?_)
     refine cond_b S rfl (fun hc8355 => ?_) (fun hc8355 => ?_)
     ·have hm := ite_t hc8355 hm
      refine wp_skip (thenN ?_)
      refine wp_seq ?_
      refine wp_block ?_
      obtain ⟨K8363, hK8364, hm⟩ := join_elim hm
      refine seq_cut (fun a w => ∃ (x8358 : Int) (x8359 : Int) (xs8361 : List Int) (b8356 : Nat) (v8360 : Value), Slots a 82 [(0, p0), (1, p1), (6, v4195), (7, (.int .i64 x4198)), (8, (bp b8356))] ∧ Heap w0 [oA (rList Rimpl_Vertex) v4195 xs4196, bA b8356 [(.int .i64 x8358), (.int .i64 x8359), v8360] 71, oA (rList (rInt .i64)) v8360 xs8361] w ∧ K8363 x8358 x8359 xs8361 = some o8353) ?_ ?_
      ·rintro a w ⟨x8358, x8359, xs8361, b8356, v8360, S, H, hm⟩
       subst hK8364
       refine wp_seq (region_plain ?_)
       refine lq p0 S (q_move rfl) fun a S => ?_
       refine lq p1 S (q_move rfl) fun a S => ?_
       refine lq (.int .i64 x4198) S (q_move rfl) fun a S => ?_
       obtain ⟨x8365, e8366, hm⟩ := bind_some hm
       obtain ⟨c8367, h8368, hat8369⟩ := (h1).elem (idx_some e8366).2
       obtain rfl := h8368
       have hlt := lt_of_idx (idx_some e8366).2
       refine lq (ePtr p1 (x4198.toNat * 1)) S (q_indexAddr rfl (h1).isSl rfl (idx_some e8366).1 hlt Try.underlying23 Try.sizeOf2) fun a S => ?_
       refine lx_e (.int .i64 x8365) S trivial (by decide) rfl trivial (q_load1 rfl Try.isAgg2 (by rintro _ rfl; exact ((hat8369 0 _ rfl).ext H.ext))) (fun a S => ?_)
       obtain ⟨x8370, e8371, hm⟩ := bind_some hm
       obtain ⟨c8372, h8373, hat8374⟩ := (h0).elem (idx_some e8371).2
       obtain ⟨c8377, c8378, rfl, h8379, h8380⟩ := h8373
       obtain rfl := h8379
       obtain ⟨c8381, c8382, rfl, h8383, h8384⟩ := h8380
       obtain rfl := h8383
       obtain ⟨v8375, rfl, h8376⟩ := rd_list h8384
       have hlt := lt_of_idx (idx_some e8371).2
       refine lq (ePtr p0 (x8365.toNat * 3)) S (q_indexAddr rfl (h0).isSl rfl (idx_some e8371).1 hlt Try.underlying26 Try.sizeOf71) fun a S => ?_
       refine lq (pAdd (ePtr p0 (x8365.toNat * 3)) 2) S (q_fieldAddr' 2 23 rfl ((hat8374 0 _ rfl).isP) Try.underlying71 rfl Try.sizeOf23) fun a S => ?_
       refine lx_e v8375 S trivial (by decide) rfl trivial (q_load1 rfl Try.isAgg23 (by rintro _ rfl; exact (At.of_add (m := 2) (j := 0) ((hat8374 2 _ rfl).ext H.ext)))) (fun a S => ?_)
       refine lq v8375 S (q_assign rfl) fun a S => ?_
       refine lx_nil (thenN ?_)
       refine wp_seq (wp_seq (region_plain ?_))
       refine lq (.int .i64 (0 : Int)) S (q_assign rfl) fun a S => ?_
       refine lx_nil (thenN ?_)
       obtain ⟨res8452, hit8453, hk8456⟩ := bind_some hm
       obtain ⟨f8454, hf8455, hit8453⟩ := iter_name hit8453
       refine block_loop (fun a w => ∃ (xs8450 : List Int) (v8449 : Value), Slots a 82 [(0, p0), (1, p1), (6, v4195), (7, (.int .i64 x4198)), (8, (bp b8356))] ∧ Heap w0 [oA (rList Rimpl_Vertex) v4195 xs4196, bA b8356 [(.int .i64 x8358), (.int .i64 x8359), v8449] 71, oA (rList (rInt .i64)) v8449 xs8450] w ∧ res8452 = .inl (xs8450)) ?_ ?_
       ·rintro a w ⟨xs8450, v8449, S, H, rfl⟩
        have hm := ctl_inl hk8456
        refine thenN ?_
        refine region_plain ?_
        refine lq v4195 S (q_move rfl) fun a S => ?_
        refine lx_e (.agg #[(.int .i64 x8358), (.int .i64 x8359), v8449]) S trivial (by decide) rfl trivial (q_loadA (cs := [(.int .i64 x8358), (.int .i64 x8359), v8449]) rfl (isP_bp _) Try.isAgg71 Try.sizeOf71 (by rintro _ rfl; exact (fun j u hu => boxAt (i := 1) H rfl hu))) (fun a S => ?_)
        have H : Heap w0 [oA (rList (rInt .i64)) v8449 xs8450, oA (rList Rimpl_Vertex) v4195 xs4196, bA b8356 [(.int .i64 x8358), (.int .i64 x8359), v8449] 71] w := H.front 2 rfl
        refine lx_buildSlice (r := Rimpl_Vertex) (xs := [(x8358, x8359, xs8450)]) (ps := [(0, [(.int .i64 x8358), (.int .i64 x8359), v8449])]) (cs := [(.int .i64 x8358), (.int .i64 x8359), v8449]) (parts := [(0, .tmp 78)]) S trivial (by decide) rfl H rfl Try.underlying26 Try.sizeOf71 Try.zeroValue71 (by decide) ⟨rfl, rfl, Nat.le_of_ble_eq_true rfl, trivial⟩ (by intro zs hz; exact fill_dense hz ⟨rfl, trivial⟩ rfl rfl) rfl (by decide) (fun w F hA => ownL_one_mk (ownF ⟨_, _, [(.int .i64 x8358)], [(.int .i64 x8359), v8449], rfl, rfl, ⟨rfl, rfl⟩, ⟨_, _, [(.int .i64 x8359)], [v8449], rfl, rfl, ⟨rfl, rfl⟩, (oA_list.1 hA)⟩⟩)) (fun v8457 w8458 H => ⟨trivial, fun a S => ?_⟩)
        obtain ⟨x8460, e8461, hm⟩ := bind_some hm
        obtain ⟨hle, hap⟩ := app_some e8461
        replace hap := hap.symm
        subst hap
        have H : Heap w0 [oA (rList Rimpl_Vertex) v8457 [(x8358, x8359, xs8450)], oA (rList Rimpl_Vertex) v4195 xs4196, bA b8356 [(.int .i64 x8358), (.int .i64 x8359), v8449] 71] w8458 := H.front 0 rfl
        have H : Heap w0 [oA (rList Rimpl_Vertex) v4195 xs4196, oA (rList Rimpl_Vertex) v8457 [(x8358, x8359, xs8450)], bA b8356 [(.int .i64 x8358), (.int .i64 x8359), v8449] 71] w8458 := H.front 1 rfl
        refine lx_appendOwn (r := Rimpl_Vertex) S trivial (by decide) rfl H rfl rfl Try.underlying26 Try.ti71 rfl rfl rfl (by decide) (by decide) hle (fun v8462 w8463 H => ⟨trivial, fun a S => ?_⟩)
        refine lq v8462 S (q_assign rfl) fun a S => ?_
        refine lx_nil ?_
        refine inBlock_norm ?_
        refine thenN ?_
        refine region_plain ?_
        refine lq (.int .i64 x4198) S (q_move rfl) fun a S => ?_
        refine lq (.int .i64 (W (x4198 + (1 : Int)))) S (q_add rfl rfl) fun a S => ?_
        refine lq (.int .i64 (W (x4198 + (1 : Int)))) S (q_assign rfl) fun a S => ?_
        refine lx_nil ?_
        have H : Heap w0 [oA (rList Rimpl_Vertex) v8462 (xs4196 ++ [(x8358, x8359, xs8450)])] w8463 := H.sel [0] (by decide)
        exact ⟨m8352, Nat.lt_succ_self _, (xs4196 ++ [(x8358, x8359, xs8450)]), (W (x4198 + (1 : Int))), v8462, S.sub ⟨rfl, rfl, rfl, rfl, trivial⟩, H, it_cont hm hc8354⟩
       ·skip
        refine loop_ghost (fun n a w => ∃ (xs8416 : List Int) (x8418 : Int) (v8415 : Value), Slots a 82 [(0, p0), (1, p1), (6, v4195), (7, (.int .i64 x4198)), (8, (bp b8356)), (9, v8375), (10, (.int .i64 x8418))] ∧ Heap w0 [oA (rList Rimpl_Vertex) v4195 xs4196, bA b8356 [(.int .i64 x8358), (.int .i64 x8359), v8415] 71, oA (rList (rInt .i64)) v8415 xs8416] w ∧ iter f8454 n (xs8416, x8418) = some res8452) _ ⟨xs8361, (0 : Int), v8360, S.sub ⟨rfl, rfl, rfl, rfl, rfl, rfl, rfl, trivial⟩, H, hit8453⟩ ?_
        rintro n a w ⟨xs8416, x8418, v8415, S, H, hit8453⟩
        obtain ⟨m8465, o8466, rfl, hm, hc8467⟩ := iter_step hit8453
        rw [hf8455] at hm
        refine wp_seq (wp_seq (region_plain ?_))
        refine lq (.int .i64 x8418) S (q_move rfl) fun a S => ?_
        refine lq v8375 S (q_move rfl) fun a S => ?_
        refine lq (.int .i64 (x8370.2.2.length : Int)) S (q_lenSl rfl (h8376).isSl rfl Try.underlying23) fun a S => ?_
        refine lq (.bool (decide (x8418 < (x8370.2.2.length : Int)))) S (q_lss rfl rfl) fun a S => ?_
        refine lx_nil (thenN ?_)
        refine cond_b S rfl (fun hc8468 => ?_) (fun hc8468 => ?_)
        ·have hm := ite_t hc8468 hm
         refine wp_skip (thenN ?_)
         obtain ⟨K8472, hK8473, hm⟩ := join_elim hm
         refine seq_cut (fun a w => ∃ (xs8470 : List Int) (v8469 : Value), Slots a 82 [(0, p0), (1, p1), (6, v4195), (7, (.int .i64 x4198)), (8, (bp b8356)), (9, v8375), (10, (.int .i64 x8418))] ∧ Heap w0 [oA (rList Rimpl_Vertex) v4195 xs4196, bA b8356 [(.int .i64 x8358), (.int .i64 x8359), v8469] 71, oA (rList (rInt .i64)) v8469 xs8470] w ∧ K8472 xs8470 = some o8466) ?_ ?_
         ·rintro a w ⟨xs8470, v8469, S, H, hm⟩
          subst hK8473
          refine region_plain ?_
          refine lq (.int .i64 x8418) S (q_move rfl) fun a S => ?_
          refine lq (.int .i64 (W (x8418 + (1 : Int)))) S (q_add rfl rfl) fun a S => ?_
          refine lq (.int .i64 (W (x8418 + (1 : Int)))) S (q_assign rfl) fun a S => ?_
          refine lx_nil ?_
          exact ⟨m8465, Nat.lt_succ_self _, xs8470, (W (x8418 + (1 : Int))), v8469, S.sub ⟨rfl, rfl, rfl, rfl, rfl, rfl, rfl, trivial⟩, H, it_cont hm hc8467⟩
         ·skip
          refine wp_block ?_
          refine wp_seq (region_plain ?_)
          refine lq p1 S (q_move rfl) fun a S => ?_
          refine lq v8375 S (q_move rfl) fun a S => ?_
          refine lq (.int .i64 x8418) S (q_move rfl) fun a S => ?_
          obtain ⟨x8474, e8475, hm⟩ := bind_some hm
          obtain ⟨c8476, h8477, hat8478⟩ := (h8376).elem (idx_some e8475).2
          obtain rfl := h8477
          have hlt := lt_of_idx (idx_some e8475).2
          refine lq (ePtr v8375 (x8418.toNat * 1)) S (q_indexAddr rfl (h8376).isSl rfl (idx_some e8475).1 hlt Try.underlying23 Try.sizeOf2) fun a S => ?_
          refine lx_e (.int .i64 x8474) S trivial (by decide) rfl trivial (q_load1 rfl Try.isAgg2 (by rintro _ rfl; exact ((hat8478 0 _ rfl).ext H.ext))) (fun a S => ?_)
          obtain ⟨x8481, e8482, hm⟩ := bind_some hm
          refine lx_call (xs := [.tmp 63, .tmp 67]) S trivial (by decide) rfl rfl Try.call94 ((spec_l11Place_ok (H.arg h1)  e8482).mono ?_)
          rintro e w8479 ⟨rfl, Hc8480⟩
          have H := H.call0 Hc8480
          refine ⟨_, rfl, trivial, fun a S => ?_⟩
          refine lq (.int .i64 x8481) S (q_assign rfl) fun a S => ?_
          refine lx_nil (thenN ?_)
          refine wp_seq (region_plain ?_)
          refine lq (.int .i64 x8481) S (q_move rfl) fun a S => ?_
          refine lq (.bool (decide ((0 : Int) ≤ x8481))) S (q_geq rfl rfl) fun a S => ?_
          refine lx_nil (thenN ?_)
          refine cond_b S rfl (fun hc8484 => ?_) (fun hc8484 => ?_)
          ·have hm := ite_t hc8484 hm
           refine region_plain ?_
           refine lq (pAdd (bp b8356) 2) S (q_fieldAddr' 2 23 rfl (isP_bp _) Try.underlying71 rfl Try.sizeOf23) fun a S => ?_
           refine lx_e v8415 S trivial (by decide) rfl trivial (q_load1 rfl Try.isAgg23 (by rintro _ rfl; exact (At.of_add (m := 2) (j := 0) (boxAt (i := 1) H rfl (j := 2) rfl)))) (fun a S => ?_)
           refine lq (.int .i64 x8481) S (q_move rfl) fun a S => ?_
           refine lx_buildSlice (r := (rInt .i64)) (xs := [x8481]) (ps := [(0, [(.int .i64 x8481)])]) (cs := [(.int .i64 x8481)]) (parts := [(0, .tmp 73)]) S trivial (by decide) rfl (H.put0 (A := eA) rfl) rfl Try.underlying23 Try.sizeOf2 Try.zeroValue2 (by decide) ⟨rfl, rfl, Nat.le_of_ble_eq_true rfl, trivial⟩ (by intro zs hz; exact fill_dense hz ⟨rfl, trivial⟩ rfl rfl) rfl (by decide) (fun w F hA => by cases (show F = [] from hA); exact ⟨_, _, [(.int .i64 x8481)], _, rfl, rfl, ⟨rfl, rfl⟩, ⟨rfl, rfl⟩⟩) (fun v8485 w8486 H => ⟨trivial, fun a S => ?_⟩)
           obtain ⟨x8488, e8489, hm⟩ := bind_some hm
           obtain ⟨hle, hap⟩ := app_some e8489
           replace hap := hap.symm
           subst hap
           have H : Heap w0 [oA (rList (rInt .i64)) v8485 [x8481], oA (rList Rimpl_Vertex) v4195 xs4196, bA b8356 [(.int .i64 x8358), (.int .i64 x8359), v8415] 71, oA (rList (rInt .i64)) v8415 xs8416] w8486 := H.front 0 rfl
           have H : Heap w0 [oA (rList (rInt .i64)) v8415 xs8416, oA (rList (rInt .i64)) v8485 [x8481], oA (rList Rimpl_Vertex) v4195 xs4196, bA b8356 [(.int .i64 x8358), (.int .i64 x8359), v8415] 71] w8486 := H.front 3 rfl
           refine lx_appendOwn (r := (rInt .i64)) S trivial (by decide) rfl H rfl rfl Try.underlying23 Try.ti2 rfl rfl rfl (by decide) (by decide) hle (fun v8490 w8491 H => ⟨trivial, fun a S => ?_⟩)
           refine lq (pAdd (bp b8356) 2) S (q_fieldAddr' 2 23 rfl (isP_bp _) Try.underlying71 rfl Try.sizeOf23) fun a S => ?_
           refine lx_storeBox (o := 2) (i := 2) (us := [v8490]) (cs' := [(.int .i64 x8358), (.int .i64 x8359), v8490]) S trivial rfl H rfl rfl rfl (cells_sl (H.isSl 0 rfl)) Try.sizeOf23 (Nat.le_of_ble_eq_true rfl) (List.forall_mem_cons.2 ⟨one_sl (H.isSl 0 rfl), (fun _ h => nomatch h)⟩) rfl (fun w8493 H => ⟨trivial, fun a S => ?_⟩)
           change Heap w0 [oA (rList (rInt .i64)) v8490 (xs8416 ++ [x8481]), oA (rList Rimpl_Vertex) v4195 xs4196, bA b8356 [(.int .i64 x8358), (.int .i64 x8359), v8490] 71] w8493 at H
           refine lx_nil ?_
           refine inBlock_norm ?_
           have H : Heap w0 [bA b8356 [(.int .i64 x8358), (.int .i64 x8359), v8490] 71, oA (rList (rInt .i64)) v8490 (xs8416 ++ [x8481]), oA (rList Rimpl_Vertex) v4195 xs4196] w8493 := H.front 2 rfl
           have H : Heap w0 [oA (rList Rimpl_Vertex) v4195 xs4196, bA b8356 [(.int .i64 x8358), (.int .i64 x8359), v8490] 71, oA (rList (rInt .i64)) v8490 (xs8416 ++ [x8481])] w8493 := H.front 2 rfl
           exact ⟨(xs8416 ++ [x8481]), v8490, S.sub ⟨rfl, rfl, rfl, rfl, rfl, rfl, rfl, trivial⟩, H, hm⟩
          ·have hm := ite_f hc8484 hm
           refine wp_skip ?_
           refine inBlock_norm ?_
           exact ⟨xs8416, v8415, S.sub ⟨rfl, rfl, rfl, rfl, rfl, rfl, rfl, trivial⟩, H, hm⟩
        ·have hm := ite_f hc8468 hm
         refine wp_exit ?_
         refine then_exit ?_
         refine then_exit ?_
         refine inBlock_exit ?_
         obtain rfl := it_brk hm hc8467
         exact ⟨xs8416, v8415, S.sub ⟨rfl, rfl, rfl, rfl, rfl, trivial⟩, H, rfl⟩
      ·skip
       refine region_draw2 (m := [_, _, _, _, _, _, _, _, _, _, _, _, _, _, _, _, _, _, _, _]) (fun w1 => Heap w0 [] w1) (fun i => [16, 18, 19].contains i) (fun i => [17, 0, 19].contains i) [18, 0, 1, 2, 3, 4, 5, 6, 7, 8, 9, 10, 11, 12, 13, 14, 15, 16, 17, 19] 16 18 mixed (by kernel_rfl) rfl rfl rfl (fun w8495 he8494 => ?_)
       have H := H.later he8494
       refine ⟨⟨H.sel [] (by decide), ?_⟩, ?_⟩
       ·skip
        refine lq p0 S (q_move rfl) fun a S => ?_
        refine lq p1 S (q_move rfl) fun a S => ?_
        refine lq (.int .i64 x4198) S (q_move rfl) fun a S => ?_
        obtain ⟨x8496, e8497, hm⟩ := bind_some hm
        obtain ⟨c8498, h8499, hat8500⟩ := (h1).elem (idx_some e8497).2
        obtain rfl := h8499
        have hlt := lt_of_idx (idx_some e8497).2
        refine lq (ePtr p1 (x4198.toNat * 1)) S (q_indexAddr rfl (h1).isSl rfl (idx_some e8497).1 hlt Try.underlying23 Try.sizeOf2) fun a S => ?_
        refine lq (.int .i64 x8496) S (q_load1 rfl Try.isAgg2 (fun w1 hC => ((hat8500 0 _ rfl).ext hC.ext))) fun a S => ?_
        obtain ⟨x8501, e8502, hm⟩ := bind_some hm
        obtain ⟨c8503, h8504, hat8505⟩ := (h0).elem (idx_some e8502).2
        obtain ⟨c8508, c8509, rfl, h8510, h8511⟩ := h8504
        obtain rfl := h8510
        obtain ⟨c8512, c8513, rfl, h8514, h8515⟩ := h8511
        obtain rfl := h8514
        obtain ⟨v8506, rfl, h8507⟩ := rd_list h8515
        have hlt := lt_of_idx (idx_some e8502).2
        refine lq (ePtr p0 (x8496.toNat * 3)) S (q_indexAddr rfl (h0).isSl rfl (idx_some e8502).1 hlt Try.underlying26 Try.sizeOf71) fun a S => ?_
        refine lq (pAdd (ePtr p0 (x8496.toNat * 3)) 0) S (q_fieldAddr' 0 2 rfl ((hat8505 0 _ rfl).isP) Try.underlying71 rfl Try.sizeOf2) fun a S => ?_
        refine lq (.int .i64 x8501.1) S (q_load1 rfl Try.isAgg2 (fun w1 hC => (At.of_add (m := 0) (j := 0) ((hat8505 0 _ rfl).ext hC.ext)))) fun a S => ?_
        refine lq p0 S (q_move rfl) fun a S => ?_
        refine lq p1 S (q_move rfl) fun a S => ?_
        refine lq (.int .i64 x4198) S (q_move rfl) fun a S => ?_
        obtain ⟨x8516, e8517, hm⟩ := bind_some hm
        obtain ⟨c8518, h8519, hat8520⟩ := (h1).elem (idx_some e8517).2
        obtain rfl := h8519
        have hlt := lt_of_idx (idx_some e8517).2
        refine lq (ePtr p1 (x4198.toNat * 1)) S (q_indexAddr rfl (h1).isSl rfl (idx_some e8517).1 hlt Try.underlying23 Try.sizeOf2) fun a S => ?_
        refine lq (.int .i64 x8516) S (q_load1 rfl Try.isAgg2 (fun w1 hC => ((hat8520 0 _ rfl).ext hC.ext))) fun a S => ?_
        obtain ⟨x8521, e8522, hm⟩ := bind_some hm
        obtain ⟨c8523, h8524, hat8525⟩ := (h0).elem (idx_some e8522).2
        obtain ⟨c8528, c8529, rfl, h8530, h8531⟩ := h8524
        obtain rfl := h8530
        obtain ⟨c8532, c8533, rfl, h8534, h8535⟩ := h8531
        obtain rfl := h8534
        obtain ⟨v8526, rfl, h8527⟩ := rd_list h8535
        have hlt := lt_of_idx (idx_some e8522).2
        refine lq (ePtr p0 (x8516.toNat * 3)) S (q_indexAddr rfl (h0).isSl rfl (idx_some e8522).1 hlt Try.underlying26 Try.sizeOf71) fun a S => ?_
        refine lq (pAdd (ePtr p0 (x8516.toNat * 3)) 1) S (q_fieldAddr' 1 2 rfl ((hat8525 0 _ rfl).isP) Try.underlying71 rfl Try.sizeOf2) fun a S => ?_
        refine lq (.int .i64 x8521.2.1) S (q_load1 rfl Try.isAgg2 (fun w1 hC => (At.of_add (m := 1) (j := 0) ((hat8525 1 _ rfl).ext hC.ext)))) fun a S => ?_
        refine lx_buildSlice0 (r := (rInt .i64)) S trivial (by decide) rfl H Try.underlying23 Try.sizeOf2 (fun v8536 w8537 H => ⟨H.sel [] (by decide), fun a S => ?_⟩)
        refine lq (.agg #[(.int .i64 x8501.1), (.int .i64 x8521.2.1), v8536]) S (q_build (zs := [(.int .i64 (0 : Int)), (.int .i64 (0 : Int)), (.slice none 0 0)]) (szs := [1, 1, 1]) (ps := [(0, [(.int .i64 x8501.1)]), (1, [(.int .i64 x8521.2.1)]), (2, [v8536])]) (parts := [(0, .tmp 38), (1, .tmp 46), (2, .tmp 47)]) rfl Try.underlying71 Try.zeroValue71 (fun w => by simp [Try.sizeOf2, Try.sizeOf23]) ⟨rfl, rfl, Nat.le_of_ble_eq_true rfl, ⟨rfl, rfl, Nat.le_of_ble_eq_true rfl, ⟨rfl, (cells_sl (H.isSl 0 rfl)), Nat.le_of_ble_eq_true rfl, trivial⟩⟩⟩ rfl) fun a S => ?_
        refine lx_alloc S trivial (by decide) rfl H Try.zeroValue71 rfl (fun b8539 w8540 H => ⟨H.sel [] (by decide), fun a S => ?_⟩)
        refine lx_storeBox (o := 0) (i := 0) (us := [(.int .i64 x8501.1), (.int .i64 x8521.2.1), v8536]) (cs' := [(.int .i64 x8501.1), (.int .i64 x8521.2.1), v8536]) S trivial rfl H rfl rfl rfl rfl Try.sizeOf71 (Nat.le_of_ble_eq_true rfl) (List.forall_mem_cons.2 ⟨rfl, (List.forall_mem_cons.2 ⟨rfl, (List.forall_mem_cons.2 ⟨one_sl (H.isSl 1 rfl), (fun _ h => nomatch h)⟩)⟩)⟩) rfl (fun w8542 H => ⟨H.sel [] (by decide), fun a S => ?_⟩)
        change Heap w0 [bA b8539 [(.int .i64 x8501.1), (.int .i64 x8521.2.1), v8536] 71, oA (rList (rInt .i64)) v8536 ([] : List Int), oA (rList Rimpl_Vertex) v4195 xs4196] w8542 at H
        refine lx_nil ?_
        have H : Heap w0 [oA (rList (rInt .i64)) v8536 ([] : List Int), bA b8539 [(.int .i64 x8501.1), (.int .i64 x8521.2.1), v8536] 71, oA (rList Rimpl_Vertex) v4195 xs4196] w8542 := H.front 1 rfl
        have H : Heap w0 [bA b8539 [(.int .i64 x8501.1), (.int .i64 x8521.2.1), v8536] 71, oA (rList (rInt .i64)) v8536 ([] : List Int), oA (rList Rimpl_Vertex) v4195 xs4196] w8542 := H.front 1 rfl
        have H : Heap w0 [oA (rList Rimpl_Vertex) v4195 xs4196, bA b8539 [(.int .i64 x8501.1), (.int .i64 x8521.2.1), v8536] 71, oA (rList (rInt .i64)) v8536 ([] : List Int)] w8542 := H.front 2 rfl
        exact ⟨x8501.1, x8521.2.1, ([] : List Int), b8539, v8536, S.sub ⟨rfl, rfl, rfl, rfl, rfl, trivial⟩, H, hm⟩
       ·skip
        refine lx_alloc S trivial (by decide) rfl H Try.zeroValue71 rfl (fun b8539 w8540 H => ⟨H.sel [] (by decide), fun a S => ?_⟩)
        refine lq p0 S (q_move rfl) fun a S => ?_
        refine lq p1 S (q_move rfl) fun a S => ?_
        refine lq (.int .i64 x4198) S (q_move rfl) fun a S => ?_
        obtain ⟨x8496, e8497, hm⟩ := bind_some hm
        obtain ⟨c8498, h8499, hat8500⟩ := (h1).elem (idx_some e8497).2
        obtain rfl := h8499
        have hlt := lt_of_idx (idx_some e8497).2
        refine lq (ePtr p1 (x4198.toNat * 1)) S (q_indexAddr rfl (h1).isSl rfl (idx_some e8497).1 hlt Try.underlying23 Try.sizeOf2) fun a S => ?_
        refine lq (.int .i64 x8496) S (q_load1 rfl Try.isAgg2 (fun w1 hC => ((hat8500 0 _ rfl).ext hC.ext))) fun a S => ?_
        obtain ⟨x8501, e8502, hm⟩ := bind_some hm
        obtain ⟨c8503, h8504, hat8505⟩ := (h0).elem (idx_some e8502).2
        obtain ⟨c8508, c8509, rfl, h8510, h8511⟩ := h8504
        obtain rfl := h8510
        obtain ⟨c8512, c8513, rfl, h8514, h8515⟩ := h8511
        obtain rfl := h8514
        obtain ⟨v8506, rfl, h8507⟩ := rd_list h8515
        have hlt := lt_of_idx (idx_some e8502).2
        refine lq (ePtr p0 (x8496.toNat * 3)) S (q_indexAddr rfl (h0).isSl rfl (idx_some e8502).1 hlt Try.underlying26 Try.sizeOf71) fun a S => ?_
        refine lq (pAdd (ePtr p0 (x8496.toNat * 3)) 0) S (q_fieldAddr' 0 2 rfl ((hat8505 0 _ rfl).isP) Try.underlying71 rfl Try.sizeOf2) fun a S => ?_
        refine lq (.int .i64 x8501.1) S (q_load1 rfl Try.isAgg2 (fun w1 hC => (At.of_add (m := 0) (j := 0) ((hat8505 0 _ rfl).ext hC.ext)))) fun a S => ?_
        refine lq p0 S (q_move rfl) fun a S => ?_
        refine lq p1 S (q_move rfl) fun a S => ?_
        refine lq (.int .i64 x4198) S (q_move rfl) fun a S => ?_
        obtain ⟨x8516, e8517, hm⟩ := bind_some hm
        obtain ⟨c8518, h8519, hat8520⟩ := (h1).elem (idx_some e8517).2
        obtain rfl := h8519
        have hlt := lt_of_idx (idx_some e8517).2
        refine lq (ePtr p1 (x4198.toNat * 1)) S (q_indexAddr rfl (h1).isSl rfl (idx_some e8517).1 hlt Try.underlying23 Try.sizeOf2) fun a S => ?_
        refine lq (.int .i64 x8516) S (q_load1 rfl Try.isAgg2 (fun w1 hC => ((hat8520 0 _ rfl).ext hC.ext))) fun a S => ?_
        obtain ⟨x8521, e8522, hm⟩ := bind_some hm
        obtain ⟨c8523, h8524, hat8525⟩ := (h0).elem (idx_some e8522).2
        obtain ⟨c8528, c8529, rfl, h8530, h8531⟩ := h8524
        obtain rfl := h8530
        obtain ⟨c8532, c8533, rfl, h8534, h8535⟩ := h8531
        obtain rfl := h8534
        obtain ⟨v8526, rfl, h8527⟩ := rd_list h8535
        have hlt := lt_of_idx (idx_some e8522).2
        refine lq (ePtr p0 (x8516.toNat * 3)) S (q_indexAddr rfl (h0).isSl rfl (idx_some e8522).1 hlt Try.underlying26 Try.sizeOf71) fun a S => ?_
        refine lq (pAdd (ePtr p0 (x8516.toNat * 3)) 1) S (q_fieldAddr' 1 2 rfl ((hat8525 0 _ rfl).isP) Try.underlying71 rfl Try.sizeOf2) fun a S => ?_
        refine lq (.int .i64 x8521.2.1) S (q_load1 rfl Try.isAgg2 (fun w1 hC => (At.of_add (m := 1) (j := 0) ((hat8525 1 _ rfl).ext hC.ext)))) fun a S => ?_
        refine lx_buildSlice0 (r := (rInt .i64)) S trivial (by decide) rfl H Try.underlying23 Try.sizeOf2 (fun v8536 w8537 H => ⟨H.sel [] (by decide), fun a S => ?_⟩)
        refine lq (.agg #[(.int .i64 x8501.1), (.int .i64 x8521.2.1), v8536]) S (q_build (zs := [(.int .i64 (0 : Int)), (.int .i64 (0 : Int)), (.slice none 0 0)]) (szs := [1, 1, 1]) (ps := [(0, [(.int .i64 x8501.1)]), (1, [(.int .i64 x8521.2.1)]), (2, [v8536])]) (parts := [(0, .tmp 38), (1, .tmp 46), (2, .tmp 47)]) rfl Try.underlying71 Try.zeroValue71 (fun w => by simp [Try.sizeOf2, Try.sizeOf23]) ⟨rfl, rfl, Nat.le_of_ble_eq_true rfl, ⟨rfl, rfl, Nat.le_of_ble_eq_true rfl, ⟨rfl, (cells_sl (H.isSl 0 rfl)), Nat.le_of_ble_eq_true rfl, trivial⟩⟩⟩ rfl) fun a S => ?_
        refine lx_storeBox (o := 0) (i := 1) (us := [(.int .i64 x8501.1), (.int .i64 x8521.2.1), v8536]) (cs' := [(.int .i64 x8501.1), (.int .i64 x8521.2.1), v8536]) S trivial rfl H rfl rfl rfl rfl Try.sizeOf71 (Nat.le_of_ble_eq_true rfl) (List.forall_mem_cons.2 ⟨rfl, (List.forall_mem_cons.2 ⟨rfl, (List.forall_mem_cons.2 ⟨one_sl (H.isSl 0 rfl), (fun _ h => nomatch h)⟩)⟩)⟩) rfl (fun w8542 H => ⟨H.sel [] (by decide), fun a S => ?_⟩)
        change Heap w0 [oA (rList (rInt .i64)) v8536 ([] : List Int), bA b8539 [(.int .i64 x8501.1), (.int .i64 x8521.2.1), v8536] 71, oA (rList Rimpl_Vertex) v4195 xs4196] w8542 at H
        refine lx_nil ?_
        have H : Heap w0 [bA b8539 [(.int .i64 x8501.1), (.int .i64 x8521.2.1), v8536] 71, oA (rList (rInt .i64)) v8536 ([] : List Int), oA (rList Rimpl_Vertex) v4195 xs4196] w8542 := H.front 1 rfl
        have H : Heap w0 [oA (rList Rimpl_Vertex) v4195 xs4196, bA b8539 [(.int .i64 x8501.1), (.int .i64 x8521.2.1), v8536] 71, oA (rList (rInt .i64)) v8536 ([] : List Int)] w8542 := H.front 2 rfl
        exact ⟨x8501.1, x8521.2.1, ([] : List Int), b8539, v8536, S.sub ⟨rfl, rfl, rfl, rfl, rfl, trivial⟩, H, hm⟩
     ·have hm := ite_f hc8355 hm
      refine wp_exit ?_
      refine then_exit ?_
      refine then_exit ?_
      refine inBlock_exit ?_
      obtain rfl := it_brk hm hc8354
      exact ⟨xs4196, v4195, S.sub ⟨rfl, trivial⟩, H, rfl⟩

/-- impl.SubGame$1 -/
def impl_SubGame_1_m (fuel : Nat) (a0 : Int) (a1 : (List Int)) : Option (Bool) :=
  (slices_Contains__int64_int64_m fuel a1 a0).bind fun x38 => some ((!x38))
set_option maxRecDepth 20000 in
theorem impl_SubGame_1_ok {w0 : World} {fuel : Nat} {p1 : Value} {a0 : Int} {a1 : (List Int)} {r : Bool} (h1 : Rd (rPtr (rList (rInt .i64))) w0 p1 a1) (hm : impl_SubGame_1_m fuel a0 a1 = some r) :
  Calls Try.prog 97 #[.int .i64 a0, p1] w0 fun e w => e = .returned (.bool r) ∧ Heap w0 [] w := by
 unfold impl_SubGame_1_m at hm
 have H := Heap.start w0
 obtain ⟨c31, h32, hat33⟩ := h1.ptr
 obtain ⟨v34, rfl, h35⟩ := rd_list h32
 refine enter (args := [.int .i64 a0, p1]) Try.func97 rfl 8 rfl (Nat.le_of_ble_eq_true rfl) (fun a S => ?_)
 refine wp_seq (region_plain ?_)
 refine lq (.bool false) S (q_assign rfl) fun a S => ?_
 refine lx_nil (thenN ?_)
 refine wp_seq (region_plain ?_)
 refine lx_e v34 S trivial (by decide) rfl trivial (q_load1 rfl Try.isAgg23 (by rintro _ rfl; exact ((hat33 0 _ rfl).ext H.ext))) (fun a S => ?_)
 refine lq (.int .i64 a0) S (q_move rfl) fun a S => ?_
 obtain ⟨x38, e39, hm⟩ := bind_some hm
 refine lx_call (xs := [.tmp 4, .tmp 5]) S trivial (by decide) rfl rfl Try.call62 ((slices_Contains__int64_int64_ok (H.arg h35)  e39).mono ?_)
 rintro e w36 ⟨rfl, Hc37⟩
 have H := H.call0 Hc37
 refine ⟨_, rfl, trivial, fun a S => ?_⟩
 refine lq (.bool (!x38)) S (q_not rfl) fun a S => ?_
 refine lq (.bool (!x38)) S (q_assign rfl) fun a S => ?_
 refine lx_nil (thenN ?_)
 refine wp_ret ?_
 obtain rfl := Option.some.inj hm
 exact leave1 S rfl rfl ⟨rfl, H⟩

/-- slices.DeleteFunc[[]int64,int64] -/
def slices_DeleteFunc__int64_int64_m (fuel : Nat) (a0 : (List Int)) (a1 : (Int → Option Bool)) : Option ((List Int)) :=
  (slices_IndexFunc__int64_int64_m fuel a0 a1).bind fun x33 => (if (x33 == (-1 : Int)) = true then some (a0) else (iter (fun (s : (List Int) × (Int) × (Int)) => (match s with | (xs61, x62, x63) => (if (decide (x63 < (xs61.length : Int))) = true then join (κ := List Int → Int → Option (((List Int) × (Int) × (Int)) ⊕ (((List Int) × Int) ⊕ ((List Int))))) (fun (xs104 : List Int) (x105 : Int) => some (.inl (xs104, x105, (W (x63 + (1 : Int)))))) (fun K106 => (idx xs61 x63).bind fun x108 => (a1 x108).bind fun x117 => (if (!x117) = true then (idx xs61 x62).bind fun _ => (K106 (xs61.set x62.toNat x108) (W (x62 + (1 : Int)))) else (K106 xs61 x62))) else some (.inr (.inl (xs61, x62)))) : Option (((List Int) × (Int) × (Int)) ⊕ (((List Int) × Int) ⊕ ((List Int)))))) fuel (a0, x33, (W (x33 + (1 : Int))))).bind fun res90 => ctl (β := (List Int) × Int) (ρ := (List Int)) (τ := (List Int)) res90 (fun (xs88, x89) => (sub xs88 x89 (xs88.length : Int)).bind fun xs95 => (sub (clr xs88 (x89).toNat ((xs88.length : Int)).toNat (0 : Int)) (0 : Int) x89).bind fun xs98 => some (xs98)) (fun q => some (q)))
set_option maxRecDepth 20000 in
theorem slices_DeleteFunc__int64_int64_ok {w0 : World} {fuel : Nat} {p0 : Value} {a0 : (List Int)} {a1 : (Int → Option Bool)} {f1 : Nat} {fs1 cp1 : List Value} {w00 : World} {L : List Asrt} {r : (List Int)} (H : Heap w00 (oA (rList (rInt .i64)) p0 a0 :: L) w0) (hcf1 : ∀ args w, (callFunc f1 args).run Try.prog w = .ok (.enter f1 args) w) (hf1 : ∀ {w : World} {x0_ : Int} {y : Bool}, Heap w00 L w → a1 x0_ = some y → Calls Try.prog f1 (fs1 ++ ([.int .i64 x0_] : List Value) ++ cp1).toArray w fun e w' => e = .returned (.bool y) ∧ Heap w [] w') (hm : slices_DeleteFunc__int64_int64_m fuel a0 a1 = some r) :
  Calls Try.prog 95 #[p0, .func (.func f1) fs1.toArray cp1.toArray] w0 fun e w => ∃ (v0 : Value), e = .returned (v0) ∧ Heap w00 (oA (rList (rInt .i64)) v0 r :: L) w := by
 unfold slices_DeleteFunc__int64_int64_m at hm
 refine enter (args := [p0, .func (.func f1) fs1.toArray cp1.toArray]) Try.func95 rfl 42 rfl (Nat.le_of_ble_eq_true rfl) (fun a S => ?_)
 refine wp_seq (region_plain ?_)
 refine lq (.slice none 0 0) S (q_assign rfl) fun a S => ?_
 refine lx_nil (thenN ?_)
 refine wp_seq (region_plain ?_)
 refine lq p0 S (q_move rfl) fun a S => ?_
 refine lq (.func (.func f1) fs1.toArray cp1.toArray) S (q_move rfl) fun a S => ?_
 obtain ⟨x33, e34, hm⟩ := bind_some hm
 refine lx_call (xs := [.tmp 8, .tmp 9]) S trivial (by decide) rfl rfl Try.call117 ((slices_IndexFunc__int64_int64_ok (f1 := f1) (fs1 := fs1) (cp1 := cp1) (a1 := a1) (H.rdAt 0 rfl) hcf1 (fun he  hm => hf1 (Heap.later (H.tail) he)  hm) e34).mono ?_)
 rintro e w31 ⟨rfl, Hc32⟩
 have H := H.call0 Hc32
 refine ⟨_, rfl, trivial, fun a S => ?_⟩
 refine lq (.int .i64 x33) S (q_assign rfl) fun a S => ?_
 refine lx_nil (thenN ?_)
 refine wp_seq (wp_seq (region_plain ?_))
 refine lq (.int .i64 x33) S (q_move rfl) fun a S => ?_
 refine lq (.bool (x33 == (-1 : Int))) S (q_eql rfl rfl) fun a S => ?_
 refine lx_nil (thenN ?_)
 refine cond_b S rfl (fun hc36 => ?_) (fun hc36 => ?_)
 ·have hm := ite_t hc36 hm
  refine wp_seq (region_plain ?_)
  refine lq p0 S (q_move rfl) fun a S => ?_
  refine lq p0 S (q_assign rfl) fun a S => ?_
  refine lx_nil (thenN ?_)
  refine wp_ret (then_ret ?_)
  obtain rfl := Option.some.inj hm
  exact leave1 S rfl rfl ⟨p0, rfl, H⟩
 ·have hm := ite_f hc36 hm
  refine wp_skip (thenN ?_)
  refine wp_seq (wp_seq (region_plain ?_))
  refine lq (.int .i64 x33) S (q_move rfl) fun a S => ?_
  refine lq (.int .i64 (W (x33 + (1 : Int)))) S (q_add rfl rfl) fun a S => ?_
  refine lq (.int .i64 (W (x33 + (1 : Int)))) S (q_assign rfl) fun a S => ?_
  refine lx_nil (thenN ?_)
  obtain ⟨res90, hit91, hk94⟩ := bind_some hm
  obtain ⟨f92, hf93, hit91⟩ := iter_name hit91
  refine block_loop (fun a w => ∃ (xs88 : List Int) (x89 : Int), Slots a 42 [(0, p0), (5, (.int .i64 x89))] ∧ Heap w00 (oA (rList (rInt .i64)) p0 xs88 :: L) w ∧ res90 = .inl (xs88, x89)) ?_ ?_
  ·rintro a w ⟨xs88, x89, S, H, rfl⟩
   have hm := ctl_inl hk94
   refine thenN ?_
   refine wp_seq (region_plain ?_)
   refine lq p0 S (q_move rfl) fun a S => ?_
   refine lq (.int .i64 x89) S (q_move rfl) fun a S => ?_
   obtain ⟨xs95, e96, hm⟩ := bind_some hm
   have hsb := (sub_some e96).1
   refine lq (subV p0 (x89).toNat ((xs88.length : Int)).toNat 1) S (q_slice (lo := (some (.tmp 37))) (hi := none) (l := x89) (h := (xs88.length : Int)) (size := 1) rfl (H.isSl 0 rfl) Try.underlying23 Try.sizeOf2 rfl rfl hsb.1 hsb.2.1 hsb.2.2) fun a S => ?_
   have hS := e96
   refine lx_clear (r := (rInt .i64)) (lo := x89) (hi := (xs88.length : Int)) (z0 := (0 : Int)) S trivial rfl H rfl hS Try.underlying23 Try.zeroValue2 rfl rfl (fun w => ⟨rfl, rfl⟩) (fun w97 H => ⟨trivial, fun a S => ?_⟩)
   refine lx_nil (thenN ?_)
   refine wp_seq (region_plain ?_)
   refine lq p0 S (q_move rfl) fun a S => ?_
   refine lq (.int .i64 x89) S (q_move rfl) fun a S => ?_
   obtain ⟨xs98, e99, hm⟩ := bind_some hm
   have hsb := (sub_some e99).1
   refine lq (subV p0 ((0 : Int)).toNat (x89).toNat 1) S (q_slice (lo := none) (hi := (some (.tmp 40))) (l := (0 : Int)) (h := x89) (size := 1) rfl (H.isSl 0 rfl) Try.underlying23 Try.sizeOf2 rfl rfl hsb.1 hsb.2.1 hsb.2.2) fun a S => ?_
   have H : Heap w00 (oA (rList (rInt .i64)) (subV p0 ((0 : Int)).toNat (x89).toNat 1) xs98 :: L) w97 := H.cut e99
   refine lq (subV p0 ((0 : Int)).toNat (x89).toNat 1) S (q_assign rfl) fun a S => ?_
   refine lx_nil (thenN ?_)
   refine wp_ret ?_
   obtain rfl := Option.some.inj hm
   exact leave1 S rfl rfl ⟨(subV p0 ((0 : Int)).toNat (x89).toNat 1), rfl, H⟩
  ·skip
   refine loop_ghost (fun n a w => ∃ (xs61 : List Int) (x62 : Int) (x63 : Int), Slots a 42 [(0, p0), (1, (.func (.func f1) fs1.toArray cp1.toArray)), (5, (.int .i64 x62)), (6, (.int .i64 x63))] ∧ Heap w00 (oA (rList (rInt .i64)) p0 xs61 :: L) w ∧ iter f92 n (xs61, x62, x63) = some res90) _ ⟨a0, x33, (W (x33 + (1 : Int))), S.sub ⟨rfl, rfl, rfl, rfl, trivial⟩, H, hit91⟩ ?_
   rintro n a w ⟨xs61, x62, x63, S, H, hit91⟩
   obtain ⟨m100, o101, rfl, hm, hc102⟩ := iter_step hit91
   rw [hf93] at hm
   refine wp_seq (wp_seq (region_plain ?_))
   refine lq (.int .i64 x63) S (q_move rfl) fun a S => ?_
   refine lq p0 S (q_move rfl) fun a S => ?_
   refine lq (.int .i64 (xs61.length : Int)) S (q_lenSl rfl (H.isSl 0 rfl) rfl Try.underlying23) fun a S => ?_
   refine lq (.bool (decide (x63 < (xs61.length : Int)))) S (q_lss rfl rfl) fun a S => ?_
   refine lx_nil (thenN ?_)
   refine cond_b S rfl (fun hc103 => ?_) (fun hc103 => ?_)
   ·have hm := ite_t hc103 hm
    refine wp_skip (thenN ?_)
    obtain ⟨K106, hK107, hm⟩ := join_elim hm
    refine seq_cut (fun a w => ∃ (xs104 : List Int) (x105 : Int), Slots a 42 [(0, p0), (1, (.func (.func f1) fs1.toArray cp1.toArray)), (5, (.int .i64 x105)), (6, (.int .i64 x63))] ∧ Heap w00 (oA (rList (rInt .i64)) p0 xs104 :: L) w ∧ K106 xs104 x105 = some o101) ?_ ?_
    ·rintro a w ⟨xs104, x105, S, H, hm⟩
     subst hK107
     refine region_plain ?_
     refine lq (.int .i64 x63) S (q_move rfl) fun a S => ?_
     refine lq (.int .i64 (W (x63 + (1 : Int)))) S (q_add rfl rfl) fun a S => ?_
     refine lq (.int .i64 (W (x63 + (1 : Int)))) S (q_assign rfl) fun a S => ?_
     refine lx_nil ?_
     exact ⟨m100, Nat.lt_succ_self _, xs104, x105, (W (x63 + (1 : Int))), S.sub ⟨rfl, rfl, rfl, rfl, trivial⟩, H, it_cont hm hc102⟩
    ·skip
     refine wp_block ?_
     refine wp_seq (region_plain ?_)
     refine lq p0 S (q_move rfl) fun a S => ?_
     refine lq (.int .i64 x63) S (q_move rfl) fun a S => ?_
     obtain ⟨x108, e109, hm⟩ := bind_some hm
     have hlt := lt_of_idx (idx_some e109).2
     refine lq (ePtr p0 (x63.toNat * 1)) S (q_indexAddr rfl (H.isSl 0 rfl) rfl (idx_some e109).1 hlt Try.underlying23 Try.sizeOf2) fun a S => ?_
     obtain ⟨c110, h111, hat112⟩ := (H.rdAt 0 rfl).elem (idx_some e109).2
     obtain rfl := h111
     refine lx_e (.int .i64 x108) S trivial (by decide) rfl trivial (q_load1 rfl Try.isAgg2 (by rintro _ rfl; exact (hat112 0 _ rfl))) (fun a S => ?_)
     refine lq (.int .i64 x108) S (q_assign rfl) fun a S => ?_
     refine lx_nil (thenN ?_)
     refine wp_seq (region_plain ?_)
     refine lq (.func (.func f1) fs1.toArray cp1.toArray) S (q_move rfl) fun a S => ?_
     refine lq (.int .i64 x108) S (q_move rfl) fun a S => ?_
     obtain ⟨x117, e118, hm⟩ := bind_some hm
     refine lx_callV (f := f1) (first := fs1) (cap := cp1) (xs := [.tmp 27]) S trivial (by decide) rfl rfl rfl hcf1 ((hf1 H.tail  e118).mono ?_)
     rintro e w115 ⟨rfl, Hc116⟩
     have H := H.call0 Hc116
     refine ⟨_, rfl, trivial, fun a S => ?_⟩
     refine lq (.bool (!x117)) S (q_not rfl) fun a S => ?_
     refine lx_nil (thenN ?_)
     refine cond_b S rfl (fun hc120 => ?_) (fun hc120 => ?_)
     ·have hm := ite_t hc120 hm
      refine wp_seq (region_plain ?_)
      refine lq p0 S (q_move rfl) fun a S => ?_
      refine lq (.int .i64 x62) S (q_move rfl) fun a S => ?_
      refine lq (.int .i64 x108) S (q_move rfl) fun a S => ?_
      obtain ⟨x121, e122, hm⟩ := bind_some hm
      have hlt := lt_of_idx (idx_some e122).2
      refine lq (ePtr p0 (x62.toNat * 1)) S (q_indexAddr rfl (H.isSl 0 rfl) rfl (idx_some e122).1 hlt Try.underlying23 Try.sizeOf2) fun a S => ?_
      refine lx_storeElem (r := (rInt .i64)) (us := [(.int .i64 x108)]) (off := 0) (e' := x108) S trivial rfl H.putE (by rw [pAdd_zero]; rfl) rfl (idx_some e122).2 rfl Try.sizeOf2 (Nat.le_of_ble_eq_true rfl) (List.forall_mem_cons.2 ⟨rfl, (fun _ h => nomatch h)⟩) (Upd.full rfl (fun w G hG => by cases (show G = [] from hG); exact ⟨rfl, rfl⟩)) (fun w123 H => ⟨trivial, fun a S => ?_⟩)
      refine lx_nil (thenN ?_)
      refine region_plain ?_
      refine lq (.int .i64 x62) S (q_move rfl) fun a S => ?_
      refine lq (.int .i64 (W (x62 + (1 : Int)))) S (q_add rfl rfl) fun a S => ?_
      refine lq (.int .i64 (W (x62 + (1 : Int)))) S (q_assign rfl) fun a S => ?_
      refine lx_nil ?_
      refine inBlock_norm ?_
      exact ⟨(xs61.set x62.toNat x108), (W (x62 + (1 : Int))), S.sub ⟨rfl, rfl, rfl, rfl, trivial⟩, H, hm⟩
     ·have hm := ite_f hc120 hm
      refine wp_skip ?_
      refine inBlock_norm ?_
      exact ⟨xs61, x62, S.sub ⟨rfl, rfl, rfl, rfl, trivial⟩, H, hm⟩
   ·have hm := ite_f hc103 hm
    refine wp_exit ?_
    refine then_exit ?_
    refine then_exit ?_
    refine inBlock_exit ?_
    obtain rfl := it_brk hm hc102
    exact ⟨xs61, x62, S.sub ⟨rfl, rfl, trivial⟩, H, rfl⟩

/-- impl.SubGame -/
def impl_SubGame_m (fuel : Nat) (a0 : (List Timpl_Vertex)) (a1 : (List Int)) : Option (((List Timpl_Vertex) × Int)) :=
  (impl_ValidGame_m fuel a0).bind fun x36 => (if (!x36) = true then some (([], (1 : Int))) else (impl_increasing_m fuel a1 (a0.length : Int)).bind fun x43 => (if (!x43) = true then some (([], (2 : Int))) else (if ((a1.length : Int) == (0 : Int)) = true then some (([], (3 : Int))) else (iter (fun (s : (List Timpl_Vertex) × (Int)) => (match s with | (xs137, x139) => (if (decide (x139 < (a1.length : Int))) = true then (idx a1 x139).bind fun x238 => (idx a0 x238).bind fun x243 => (slices_Clone__int64_int64_m fuel x243.2.2).bind fun x260 => (slices_DeleteFunc__int64_int64_m fuel x260 (fun (z0 : Int) => impl_SubGame_1_m fuel z0 a1)).bind fun x267 => (idx a0 x238).bind fun x273 => (idx a0 x238).bind fun x288 => (impl_placesIn_m fuel a1 x267).bind fun x305 => (app xs137 [(x273.1, x288.2.1, x305)]).bind fun x313 => some (.inl (x313, (W (x139 + (1 : Int))))) else some (.inr (.inl (xs137)))) : Option (((List Timpl_Vertex) × (Int)) ⊕ (((List Timpl_Vertex)) ⊕ (((List Timpl_Vertex) × Int)))))) fuel ([], (0 : Int))).bind fun res228 => ctl (β := (List Timpl_Vertex)) (ρ := ((List Timpl_Vertex) × Int)) (τ := ((List Timpl_Vertex) × Int)) res228 (fun (xs226) => some ((xs226, (0 : Int)))) (fun q => some (q)))))
set_option maxRecDepth 20000 in
theorem impl_SubGame_ok {w0 : World} {fuel : Nat} {p0 p1 : Value} {a0 : (List Timpl_Vertex)} {a1 : (List Int)} {r : ((List Timpl_Vertex) × Int)} (h0 : Rd (rList Rimpl_Vertex) w0 p0 a0) (h1 : Rd (rList (rInt .i64)) w0 p1 a1) (hm : impl_SubGame_m fuel a0 a1 = some r) :
  Calls Try.prog 44 #[p0, p1] w0 fun e w => ∃ (v0 : Value), e = .returned (.tuple #[v0, .int .i64 r.2]) ∧ Heap w0 [oA (rList Rimpl_Vertex) v0 r.1] w := by
 unfold impl_SubGame_m at hm
 have H := Heap.start w0
 refine enter (args := [p0, p1]) Try.func44 rfl 57 rfl (Nat.le_of_ble_eq_true rfl) (fun a S => ?_)
 refine wp_seq (region_plain ?_)
 refine lx_box S trivial (by decide) rfl H rfl (cells_sl (h1).isSl) (fun b31 w32 H => ⟨trivial, fun a S => ?_⟩)
 refine lq (.slice none 0 0) S (q_assign rfl) fun a S => ?_
 refine lq (.int .i64 (0 : Int)) S (q_assign rfl) fun a S => ?_
 refine lx_nil (thenN ?_)
 refine wp_seq ?_
 refine wp_block ?_
 refine wp_seq (region_plain ?_)
 refine lq p0 S (q_move rfl) fun a S => ?_
 obtain ⟨x36, e37, hm⟩ := bind_some hm
 refine lx_call (xs := [.tmp 11]) S trivial (by decide) rfl rfl Try.call59 ((impl_ValidGame_ok (H.arg h0) e37).mono ?_)
 rintro e w34 ⟨rfl, Hc35⟩
 have H := H.call0 Hc35
 refine ⟨_, rfl, trivial, fun a S => ?_⟩
 refine lq (.bool (!x36)) S (q_not rfl) fun a S => ?_
 refine lq (.bool (!x36)) S (q_assign rfl) fun a S => ?_
 refine lx_nil (thenN ?_)
 refine cond_b S rfl (fun hc39 => ?_) (fun hc39 => ?_)
 ·have hm := ite_t hc39 hm
  refine wp_seq (region_plain ?_)
  refine lq (.slice none 0 0) S (q_assign rfl) fun a S => ?_
  refine lq (.int .i64 (1 : Int)) S (q_assign rfl) fun a S => ?_
  refine lx_nil (thenN ?_)
  refine wp_ret (inBlock_ret ?_)
  refine then_ret ?_
  obtain rfl := Option.some.inj hm
  have H : Heap w0 [oA (rList Rimpl_Vertex) (.slice none 0 0) ([] : List Timpl_Vertex), bA b31 [p1] 23] w34 := H.nilList Rimpl_Vertex
  have H : Heap w0 [oA (rList Rimpl_Vertex) (.slice none 0 0) ([] : List Timpl_Vertex)] w34 := H.sel [0] (by decide)
  exact leave2 S rfl rfl rfl ⟨(.slice none 0 0), rfl, H⟩
 ·have hm := ite_f hc39 hm
  refine wp_seq (region_plain ?_)
  refine lx_e p1 S trivial (by decide) rfl trivial (q_load1 rfl Try.isAgg23 (by rintro _ rfl; exact (boxAt (i := 0) H rfl (j := 0) rfl))) (fun a S => ?_)
  refine lq p0 S (q_move rfl) fun a S => ?_
  refine lq (.int .i64 (a0.length : Int)) S (q_lenSl rfl (h0).isSl rfl Try.underlying26) fun a S => ?_
  obtain ⟨x43, e44, hm⟩ := bind_some hm
  refine lx_call (xs := [.tmp 15, .tmp 17]) S trivial (by decide) rfl rfl Try.call61 ((impl_increasing_ok (H.arg h1)  e44).mono ?_)
  rintro e w41 ⟨rfl, Hc42⟩
  have H := H.call0 Hc42
  refine ⟨_, rfl, trivial, fun a S => ?_⟩
  refine lq (.bool (!x43)) S (q_not rfl) fun a S => ?_
  refine lq (.bool (!x43)) S (q_assign rfl) fun a S => ?_
  refine lx_nil (thenN ?_)
  refine cond_b S rfl (fun hc46 => ?_) (fun hc46 => ?_)
  ·have hm := ite_t hc46 hm
   refine wp_seq (region_plain ?_)
   refine lq (.slice none 0 0) S (q_assign rfl) fun a S => ?_
   refine lq (.int .i64 (2 : Int)) S (q_assign rfl) fun a S => ?_
   refine lx_nil (thenN ?_)
   refine wp_ret (inBlock_ret ?_)
   refine then_ret ?_
   obtain rfl := Option.some.inj hm
   have H : Heap w0 [oA (rList Rimpl_Vertex) (.slice none 0 0) ([] : List Timpl_Vertex), bA b31 [p1] 23] w41 := H.nilList Rimpl_Vertex
   have H : Heap w0 [oA (rList Rimpl_Vertex) (.slice none 0 0) ([] : List Timpl_Vertex)] w41 := H.sel [0] (by decide)
   exact leave2 S rfl rfl rfl ⟨(.slice none 0 0), rfl, H⟩
  ·have hm := ite_f hc46 hm
   refine wp_seq (region_plain ?_)
   refine lx_e p1 S trivial (by decide) rfl trivial (q_load1 rfl Try.isAgg23 (by rintro _ rfl; exact (boxAt (i := 0) H rfl (j := 0) rfl))) (fun a S => ?_)
   refine lq (.int .i64 (a1.length : Int)) S (q_lenSl rfl (h1).isSl rfl Try.underlying23) fun a S => ?_
   refine lq (.bool ((a1.length : Int) == (0 : Int))) S (q_eql rfl rfl) fun a S => ?_
   refine lq (.bool ((a1.length : Int) == (0 : Int))) S (q_assign rfl) fun a S => ?_
   refine lx_nil (thenN ?_)
   refine cond_b S rfl (fun hc48 => ?_) (fun hc48 => ?_)
   ·have hm := ite_t hc48 hm
    refine wp_seq (region_plain ?_)
    refine lq (.slice none 0 0) S (q_assign rfl) fun a S => ?_
    refine lq (.int .i64 (3 : Int)) S (q_assign rfl) fun a S => ?_
    refine lx_nil (thenN ?_)
    refine wp_ret (inBlock_ret ?_)
    refine then_ret ?_
    obtain rfl := Option.some.inj hm
    have H : Heap w0 [oA (rList Rimpl_Vertex) (.slice none 0 0) ([] : List Timpl_Vertex), bA b31 [p1] 23] w41 := H.nilList Rimpl_Vertex
    have H : Heap w0 [oA (rList Rimpl_Vertex) (.slice none 0 0) ([] : List Timpl_Vertex)] w41 := H.sel [0] (by decide)
    exact leave2 S rfl rfl rfl ⟨(.slice none 0 0), rfl, H⟩
   ·have hm := ite_f hc48 hm
    refine wp_skip ?_
    refine inBlock_norm ?_
    refine thenN ?_
    refine wp_seq (region_plain ?_)
    refine lq (.slice none 0 0) S (q_assign rfl) fun a S => ?_
    refine lx_nil (thenN ?_)
    refine wp_seq (wp_seq (region_plain ?_))
    refine lx_e p1 S trivial (by decide) rfl trivial (q_load1 rfl Try.isAgg23 (by rintro _ rfl; exact (boxAt (i := 0) H rfl (j := 0) rfl))) (fun a S => ?_)
    refine lq (.int .i64 (a1.length : Int)) S (q_lenSl rfl (h1).isSl rfl Try.underlying23) fun a S => ?_
    refine lq (.int .i64 (0 : Int)) S (q_move rfl) fun a S => ?_
    refine lx_nil (thenN ?_)
    obtain ⟨res228, hit229, hk232⟩ := bind_some hm
    obtain ⟨f230, hf231, hit229⟩ := iter_name hit229
    refine block_loop (fun a w => ∃ (xs226 : List Timpl_Vertex) (v225 : Value), Slots a 57 [(6, v225)] ∧ Heap w0 [oA (rList Rimpl_Vertex) v225 xs226] w ∧ res228 = .inl (xs226)) ?_ ?_
    ·rintro a w ⟨xs226, v225, S, H, rfl⟩
     have hm := ctl_inl hk232
     refine thenN ?_
     refine wp_seq (region_plain ?_)
     refine lq v225 S (q_move rfl) fun a S => ?_
     refine lq v225 S (q_assign rfl) fun a S => ?_
     refine lq (.int .i64 (0 : Int)) S (q_assign rfl) fun a S => ?_
     refine lx_nil (thenN ?_)
     refine wp_ret ?_
     obtain rfl := Option.some.inj hm
     exact leave2 S rfl rfl rfl ⟨v225, rfl, H⟩
    ·skip
     have H : Heap w0 [oA (rList Rimpl_Vertex) (.slice none 0 0) ([] : List Timpl_Vertex), bA b31 [p1] 23] w41 := H.nilList Rimpl_Vertex
     have H : Heap w0 [bA b31 [p1] 23, oA (rList Rimpl_Vertex) (.slice none 0 0) ([] : List Timpl_Vertex)] w41 := H.front 1 rfl
     refine loop_ghost (fun n a w => ∃ (xs137 : List Timpl_Vertex) (x139 : Int) (v136 : Value), Slots a 57 [(0, p0), (3, (bp b31)), (6, v136), (24, p1), (25, (.int .i64 (a1.length : Int))), (26, (.int .i64 x139))] ∧ Heap w0 [bA b31 [p1] 23, oA (rList Rimpl_Vertex) v136 xs137] w ∧ iter f230 n (xs137, x139) = some res228) _ ⟨[], (0 : Int), (.slice none 0 0), S.sub ⟨rfl, rfl, rfl, rfl, rfl, rfl, trivial⟩, H, hit229⟩ ?_
     rintro n a w ⟨xs137, x139, v136, S, H, hit229⟩
     obtain ⟨m234, o235, rfl, hm, hc236⟩ := iter_step hit229
     rw [hf231] at hm
     refine wp_seq (region_plain ?_)
     refine lq (.bool (decide (x139 < (a1.length : Int)))) S (q_lss rfl rfl) fun a S => ?_
     refine lx_nil (thenN ?_)
     refine wp_seq ?_
     refine cond_b S rfl (fun hc237 => ?_) (fun hc237 => ?_)
     ·have hm := ite_t hc237 hm
      refine wp_skip (thenN ?_)
      refine wp_seq ?_
      refine wp_block ?_
      refine wp_seq (region_plain ?_)
      obtain ⟨x238, e239, hm⟩ := bind_some hm
      obtain ⟨c240, h241, hat242⟩ := (h1).elem (idx_some e239).2
      obtain rfl := h241
      have hlt := lt_of_idx (idx_some e239).2
      refine lq (ePtr p1 (x139.toNat * 1)) S (q_indexAddr rfl (h1).isSl rfl (idx_some e239).1 hlt Try.underlying23 Try.sizeOf2) fun a S => ?_
      refine lx_e (.int .i64 x238) S trivial (by decide) rfl trivial (q_load1 rfl Try.isAgg2 (by rintro _ rfl; exact ((hat242 0 _ rfl).ext H.ext))) (fun a S => ?_)
      refine lq (.int .i64 x238) S (q_assign rfl) fun a S => ?_
      refine lx_nil (thenN ?_)
      refine wp_seq (region_plain ?_)
      refine lq p0 S (q_move rfl) fun a S => ?_
      refine lq (.int .i64 x238) S (q_move rfl) fun a S => ?_
      obtain ⟨x243, e244, hm⟩ := bind_some hm
      obtain ⟨c245, h246, hat247⟩ := (h0).elem (idx_some e244).2
      obtain ⟨c250, c251, rfl, h252, h253⟩ := h246
      obtain rfl := h252
      obtain ⟨c254, c255, rfl, h256, h257⟩ := h253
      obtain rfl := h256
      obtain ⟨v248, rfl, h249⟩ := rd_list h257
      have hlt := lt_of_idx (idx_some e244).2
      refine lq (ePtr p0 (x238.toNat * 3)) S (q_indexAddr rfl (h0).isSl rfl (idx_some e244).1 hlt Try.underlying26 Try.sizeOf71) fun a S => ?_
      refine lq (pAdd (ePtr p0 (x238.toNat * 3)) 2) S (q_fieldAddr' 2 23 rfl ((hat247 0 _ rfl).isP) Try.underlying71 rfl Try.sizeOf23) fun a S => ?_
      refine lx_e v248 S trivial (by decide) rfl trivial (q_load1 rfl Try.isAgg23 (by rintro _ rfl; exact (At.of_add (m := 2) (j := 0) ((hat247 2 _ rfl).ext H.ext)))) (fun a S => ?_)
      obtain ⟨x260, e261, hm⟩ := bind_some hm
      refine lx_call (xs := [.tmp 34]) S trivial (by decide) rfl rfl Try.call96 ((slices_Clone__int64_int64_ok (H.arg h249) e261).mono ?_)
      rintro e w258 ⟨v262, rfl, Hc259⟩
      have H := H.call1 Hc259
      refine ⟨_, rfl, trivial, fun a S => ?_⟩
      refine lq (.func (.func 97) #[] #[(bp b31)]) S (q_makeFunc (xs := []) (ys := [.tmp 3]) rfl rfl) fun a S => ?_
      obtain ⟨x267, e268, hm⟩ := bind_some hm
      refine lx_call (xs := [.tmp 35, .tmp 36]) S trivial (by decide) rfl rfl Try.call95 ((slices_DeleteFunc__int64_int64_ok (f1 := 97) (fs1 := ([] : List Value)) (cp1 := ([(bp b31)] : List Value)) (a1 := (fun (z0 : Int) => impl_SubGame_1_m fuel z0 a1)) H Try.call97 (fun H  hm => impl_SubGame_1_ok  (rdPtr_box H 0 rfl ((H.arg h1)).list_rd) hm) e268).mono ?_)
      rintro e w265 ⟨v269, rfl, H⟩
      refine ⟨_, rfl, trivial, fun a S => ?_⟩
      refine lq v269 S (q_assign rfl) fun a S => ?_
      refine lx_nil (thenN ?_)
      refine region_drawG (fun w1 => Heap w0 [bA b31 [p1] 23] w1) (fun i => [13, 15, 16].contains i) mixed (by kernel_rfl) (fun w272 he271 => ?_)
      have H := H.later he271
      refine ⟨H.sel [1] (by decide), ?_⟩
      refine lq v136 S (q_move rfl) fun a S => ?_
      refine lq p0 S (q_move rfl) fun a S => ?_
      refine lq (.int .i64 x238) S (q_move rfl) fun a S => ?_
      obtain ⟨x273, e274, hm⟩ := bind_some hm
      obtain ⟨c275, h276, hat277⟩ := (h0).elem (idx_some e274).2
      obtain ⟨c280, c281, rfl, h282, h283⟩ := h276
      obtain rfl := h282
      obtain ⟨c284, c285, rfl, h286, h287⟩ := h283
      obtain rfl := h286
      obtain ⟨v278, rfl, h279⟩ := rd_list h287
      have hlt := lt_of_idx (idx_some e274).2
      refine lq (ePtr p0 (x238.toNat * 3)) S (q_indexAddr rfl (h0).isSl rfl (idx_some e274).1 hlt Try.underlying26 Try.sizeOf71) fun a S => ?_
      refine lq (pAdd (ePtr p0 (x238.toNat * 3)) 0) S (q_fieldAddr' 0 2 rfl ((hat277 0 _ rfl).isP) Try.underlying71 rfl Try.sizeOf2) fun a S => ?_
      refine lq (.int .i64 x273.1) S (q_load1 rfl Try.isAgg2 (fun w1 hC => (At.of_add (m := 0) (j := 0) ((hat277 0 _ rfl).ext hC.ext)))) fun a S => ?_
      refine lq p0 S (q_move rfl) fun a S => ?_
      refine lq (.int .i64 x238) S (q_move rfl) fun a S => ?_
      obtain ⟨x288, e289, hm⟩ := bind_some hm
      obtain ⟨c290, h291, hat292⟩ := (h0).elem (idx_some e289).2
      obtain ⟨c295, c296, rfl, h297, h298⟩ := h291
      obtain rfl := h297
      obtain ⟨c299, c300, rfl, h301, h302⟩ := h298
      obtain rfl := h301
      obtain ⟨v293, rfl, h294⟩ := rd_list h302
      have hlt := lt_of_idx (idx_some e289).2
      refine lq (ePtr p0 (x238.toNat * 3)) S (q_indexAddr rfl (h0).isSl rfl (idx_some e289).1 hlt Try.underlying26 Try.sizeOf71) fun a S => ?_
      refine lq (pAdd (ePtr p0 (x238.toNat * 3)) 1) S (q_fieldAddr' 1 2 rfl ((hat292 0 _ rfl).isP) Try.underlying71 rfl Try.sizeOf2) fun a S => ?_
      refine lq (.int .i64 x288.2.1) S (q_load1 rfl Try.isAgg2 (fun w1 hC => (At.of_add (m := 1) (j := 0) ((hat292 1 _ rfl).ext hC.ext)))) fun a S => ?_
      refine lq p1 S (q_load1 rfl Try.isAgg23 (fun w1 hC => (boxAt (i := 0) hC rfl (j := 0) rfl))) fun a S => ?_
      refine lq v269 S (q_move rfl) fun a S => ?_
      obtain ⟨x305, e306, hm⟩ := bind_some hm
      refine lx_call (xs := [.tmp 49, .tmp 50]) S trivial (by decide) rfl rfl Try.call98 ((impl_placesIn_ok (H.arg h1) (H.rdAt 0 rfl) e306).mono ?_)
      rintro e w303 ⟨v307, rfl, Hc304⟩
      have H := H.call1 Hc304
      refine ⟨_, rfl, H.sel [2] (by decide), fun a S => ?_⟩
      refine lq (.agg #[(.int .i64 x273.1), (.int .i64 x288.2.1), v307]) S (q_build (zs := [(.int .i64 (0 : Int)), (.int .i64 (0 : Int)), (.slice none 0 0)]) (szs := [1, 1, 1]) (ps := [(0, [(.int .i64 x273.1)]), (1, [(.int .i64 x288.2.1)]), (2, [v307])]) (parts := [(0, .tmp 43), (1, .tmp 48), (2, .tmp 51)]) rfl Try.underlying71 Try.zeroValue71 (fun w => by simp [Try.sizeOf2, Try.sizeOf23]) ⟨rfl, rfl, Nat.le_of_ble_eq_true rfl, ⟨rfl, rfl, Nat.le_of_ble_eq_true rfl, ⟨rfl, (cells_sl (H.isSl 0 rfl)), Nat.le_of_ble_eq_true rfl, trivial⟩⟩⟩ rfl) fun a S => ?_
      refine lx_buildSlice (r := Rimpl_Vertex) (xs := [(x273.1, x288.2.1, x305)]) (ps := [(0, [(.int .i64 x273.1), (.int .i64 x288.2.1), v307])]) (cs := [(.int .i64 x273.1), (.int .i64 x288.2.1), v307]) (parts := [(0, .tmp 52)]) S trivial (by decide) rfl H rfl Try.underlying26 Try.sizeOf71 Try.zeroValue71 (by decide) ⟨rfl, rfl, Nat.le_of_ble_eq_true rfl, trivial⟩ (by intro zs hz; exact fill_dense hz ⟨rfl, trivial⟩ rfl rfl) rfl (by decide) (fun w F hA => ownL_one_mk (ownF ⟨_, _, [(.int .i64 x273.1)], [(.int .i64 x288.2.1), v307], rfl, rfl, ⟨rfl, rfl⟩, ⟨_, _, [(.int .i64 x288.2.1)], [v307], rfl, rfl, ⟨rfl, rfl⟩, (oA_list.1 hA)⟩⟩)) (fun v310 w311 H => ⟨H.sel [2] (by decide), fun a S => ?_⟩)
      obtain ⟨x313, e314, hm⟩ := bind_some hm
      obtain ⟨hle, hap⟩ := app_some e314
      replace hap := hap.symm
      subst hap
      have H : Heap w0 [oA (rList Rimpl_Vertex) v310 [(x273.1, x288.2.1, x305)], oA (rList (rInt .i64)) v269 x267, bA b31 [p1] 23, oA (rList Rimpl_Vertex) v136 xs137] w311 := H.front 0 rfl
      have H : Heap w0 [oA (rList Rimpl_Vertex) v136 xs137, oA (rList Rimpl_Vertex) v310 [(x273.1, x288.2.1, x305)], oA (rList (rInt .i64)) v269 x267, bA b31 [p1] 23] w311 := H.front 3 rfl
      refine lx_appendOwn (r := Rimpl_Vertex) S trivial (by decide) rfl H rfl rfl Try.underlying26 Try.ti71 rfl rfl rfl (by decide) (by decide) hle (fun v315 w316 H => ⟨H.sel [2] (by decide), fun a S => ?_⟩)
      refine lq v315 S (q_assign rfl) fun a S => ?_
      refine lx_nil ?_
      refine inBlock_norm ?_
      refine thenN ?_
      refine region_plain ?_
      refine lq (.int .i64 (W (x139 + (1 : Int)))) S (q_add rfl rfl) fun a S => ?_
      refine lq (.int .i64 (W (x139 + (1 : Int)))) S (q_move rfl) fun a S => ?_
      refine lx_nil ?_
      have H : Heap w0 [bA b31 [p1] 23, oA (rList Rimpl_Vertex) v315 (xs137 ++ [(x273.1, x288.2.1, x305)]), oA (rList (rInt .i64)) v269 x267] w316 := H.front 2 rfl
      have H : Heap w0 [bA b31 [p1] 23, oA (rList Rimpl_Vertex) v315 (xs137 ++ [(x273.1, x288.2.1, x305)])] w316 := H.sel [0, 1] (by decide)
      exact ⟨m234, Nat.lt_succ_self _, (xs137 ++ [(x273.1, x288.2.1, x305)]), (W (x139 + (1 : Int))), v315, S.sub ⟨rfl, rfl, rfl, rfl, rfl, rfl, trivial⟩, H, it_cont hm hc236⟩
     ·have hm := ite_f hc237 hm
      refine wp_exit ?_
      refine then_exit ?_
      refine then_exit ?_
      refine inBlock_exit ?_
      obtain rfl := it_brk hm hc236
      have H : Heap w0 [oA (rList Rimpl_Vertex) v136 xs137] w := H.sel [1] (by decide)
      exact ⟨xs137, v136, S.sub ⟨rfl, trivial⟩, H, rfl⟩

/-- laws.FnExactSubGame -/
def laws_FnExactSubGame_m (fuel : Nat) (a0 : (List Tlaws_Vertex)) (a1 : (List Int)) : Option (Bool) :=
  (if (decide ((1048576 : Int) < (a1.length : Int))) = true then some (true) else (laws_szVertexS_m fuel a0 (1048576 : Int)).bind fun x34 => (if (decide (x34 < (0 : Int))) = true then some (true) else (laws_toVertexS_m fuel a0).bind fun x40 => (laws_toInt64S_m fuel a1).bind fun x47 => (spec_SubGame_m fuel x40 x47).bind fun x54 => (laws_toVertexS_m fuel a0).bind fun x61 => (laws_toInt64S_m fuel a1).bind fun x68 => (impl_SubGame_m fuel x61 x68).bind fun x75 => (laws_eqVertexS_m fuel x75.1 x54.1).bind fun x82 => (if (!x82) = true then some true else some (x75.2 != x54.2)).bind fun t85 => (if t85 = true then some (false) else (laws_toVertexS_m fuel a0).bind fun x91 => (laws_eqVertexS_m fuel x61 x91).bind fun x98 => (if (!x98) = true then some (false) else (laws_toInt64S_m fuel a1).bind fun x104 => (laws_eqInt64S_m fuel x68 x104).bind fun x111 => (if (!x111) = true then some (false) else (laws_markVertexS_m fuel x61 (1 : Int)).bind fun x117 => (laws_markInt64S_m fuel x68 x117.1).bind fun x121 => (if (decide (x121.1 < (0 : Int))) = true then some true else (laws_eqVertexS_m fuel x75.1 x54.1).bind fun x128 => some (!x128)).bind fun t123 => (if t123 = true then some true else some (x75.2 != x54.2)).bind fun t131 => (if t131 = true then some (false) else (laws_markVertexS_m fuel x75.1 (1 : Int)).bind fun x137 => (laws_heldVertexS_m fuel x137.2 (1 : Int)).bind fun x141 => (if (decide (x141 < (0 : Int))) = true then some (false) else (if (x141 != x137.1) = true then some (false) else (laws_toVertexS_m fuel a0).bind fun x148 => (laws_toInt64S_m fuel a1).bind fun x155 => (impl_SubGame_m fuel x148 x155).bind fun x162 => (laws_eqVertexS_m fuel x162.1 x54.1).bind fun x169 => (if (!x169) = true then some true else some (x162.2 != x54.2)).bind fun t172 => (if t172 = true then some (false) else (laws_heldVertexS_m fuel x137.2 (1 : Int)).bind fun x178 => (if (decide (x178 < (0 : Int))) = true then some (false) else (if (x178 != x137.1) = true then some (false) else some (true))))))))))))
set_option maxRecDepth 20000 in
theorem laws_FnExactSubGame_ok {w0 : World} {fuel : Nat} {p0 p1 : Value} {a0 : (List Tlaws_Vertex)} {a1 : (List Int)} {r : Bool} (h0 : Rd (rList Rlaws_Vertex) w0 p0 a0) (h1 : Rd (rList (rInt .i64)) w0 p1 a1) (hm : laws_FnExactSubGame_m fuel a0 a1 = some r) :
  Calls Try.prog 9 #[p0, p1] w0 fun e w => e = .returned (.bool r) ∧ Heap w0 [] w := by
 unfold laws_FnExactSubGame_m at hm
 have H := Heap.start w0
 refine enter (args := [p0, p1]) Try.func9 rfl 117 rfl (Nat.le_of_ble_eq_true rfl) (fun a S => ?_)
 refine wp_seq (region_plain ?_)
 refine lq (.bool false) S (q_assign rfl) fun a S => ?_
 refine lx_nil (thenN ?_)
 refine wp_seq (wp_seq (region_plain ?_))
 refine lq p1 S (q_move rfl) fun a S => ?_
 refine lq (.int .i64 (a1.length : Int)) S (q_lenSl rfl (h1).isSl rfl Try.underlying23) fun a S => ?_
 refine lq (.bool (decide ((1048576 : Int) < (a1.length : Int)))) S (q_gtr rfl rfl) fun a S => ?_
 refine lx_nil (thenN ?_)
 refine cond_b S rfl (fun hc31 => ?_) (fun hc31 => ?_)
 ·have hm := ite_t hc31 hm
  refine wp_seq (region_plain ?_)
  refine lq (.bool true) S (q_assign rfl) fun a S => ?_
  refine lx_nil (thenN ?_)
  refine wp_ret (then_ret ?_)
  obtain rfl := Option.some.inj hm
  exact leave1 S rfl rfl ⟨rfl, H⟩
 ·have hm := ite_f hc31 hm
  refine wp_skip (thenN ?_)
  refine wp_seq (region_plain ?_)
  refine lq (.int .i64 (1048576 : Int)) S (q_assign rfl) fun a S => ?_
  refine lx_nil (thenN ?_)
  refine wp_seq (region_plain ?_)
  refine lq p0 S (q_move rfl) fun a S => ?_
  refine lq (.int .i64 (1048576 : Int)) S (q_move rfl) fun a S => ?_
  obtain ⟨x34, e35, hm⟩ := bind_some hm
  refine lx_call (xs := [.tmp 20, .tmp 21]) S trivial (by decide) rfl rfl Try.call13 ((laws_szVertexS_ok (H.arg h0)  e35).mono ?_)
  rintro e w32 ⟨rfl, Hc33⟩
  have H := H.call0 Hc33
  refine ⟨_, rfl, trivial, fun a S => ?_⟩
  refine lq (.int .i64 x34) S (q_assign rfl) fun a S => ?_
  refine lx_nil (thenN ?_)
  refine wp_seq (wp_seq (region_plain ?_))
  refine lq (.int .i64 x34) S (q_move rfl) fun a S => ?_
  refine lq (.bool (decide (x34 < (0 : Int)))) S (q_lss rfl rfl) fun a S => ?_
  refine lx_nil (thenN ?_)
  refine cond_b S rfl (fun hc37 => ?_) (fun hc37 => ?_)
  ·have hm := ite_t hc37 hm
   refine wp_seq (region_plain ?_)
   refine lq (.bool true) S (q_assign rfl) fun a S => ?_
   refine lx_nil (thenN ?_)
   refine wp_ret (then_ret ?_)
   obtain rfl := Option.some.inj hm
   exact leave1 S rfl rfl ⟨rfl, H⟩
  ·have hm := ite_f hc37 hm
   refine wp_skip (thenN ?_)
   refine wp_seq (region_plain ?_)
   refine lq p0 S (q_move rfl) fun a S => ?_
   obtain ⟨x40, e41, hm⟩ := bind_some hm
   refine lx_call (xs := [.tmp 26]) S trivial (by decide) rfl rfl Try.call15 ((laws_toVertexS_ok (H.arg h0) e41).mono ?_)
   rintro e w38 ⟨v42, rfl, Hc39⟩
   have H := H.call1 Hc39
   refine ⟨_, rfl, trivial, fun a S => ?_⟩
   refine lq p1 S (q_move rfl) fun a S => ?_
   obtain ⟨x47, e48, hm⟩ := bind_some hm
   refine lx_call (xs := [.tmp 28]) S trivial (by decide) rfl rfl Try.call16 ((laws_toInt64S_ok (H.arg h1) e48).mono ?_)
   rintro e w45 ⟨v49, rfl, Hc46⟩
   have H := H.call1 Hc46
   refine ⟨_, rfl, trivial, fun a S => ?_⟩
   obtain ⟨x54, e55, hm⟩ := bind_some hm
   refine lx_call (xs := [.tmp 27, .tmp 29]) S trivial (by decide) rfl rfl Try.call43 ((spec_SubGame_ok (H.rdAt 1 rfl) (H.rdAt 0 rfl) e55).mono ?_)
   rintro e w52 ⟨v56, rfl, Hc53⟩
   have H := H.call1 Hc53
   refine ⟨_, rfl, trivial, fun a S => ?_⟩
   refine lq (.tuple #[v56, (.int .i64 x54.2)]) S (q_move rfl) fun a S => ?_
   refine lq v56 S (q_extract rfl rfl) fun a S => ?_
   refine lq (.int .i64 x54.2) S (q_extract rfl rfl) fun a S => ?_
   refine lq v56 S (q_assign rfl) fun a S => ?_
   refine lq (.int .i64 x54.2) S (q_assign rfl) fun a S => ?_
   refine lx_nil (thenN ?_)
   refine wp_seq (region_plain ?_)
   refine lq p0 S (q_move rfl) fun a S => ?_
   obtain ⟨x61, e62, hm⟩ := bind_some hm
   refine lx_call (xs := [.tmp 33]) S trivial (by decide) rfl rfl Try.call15 ((laws_toVertexS_ok (H.arg h0) e62).mono ?_)
   rintro e w59 ⟨v63, rfl, Hc60⟩
   have H := H.call1 Hc60
   refine ⟨_, rfl, trivial, fun a S => ?_⟩
   refine lq v63 S (q_assign rfl) fun a S => ?_
   refine lx_nil (thenN ?_)
   refine wp_seq (region_plain ?_)
   refine lq p1 S (q_move rfl) fun a S => ?_
   obtain ⟨x68, e69, hm⟩ := bind_some hm
   refine lx_call (xs := [.tmp 35]) S trivial (by decide) rfl rfl Try.call16 ((laws_toInt64S_ok (H.arg h1) e69).mono ?_)
   rintro e w66 ⟨v70, rfl, Hc67⟩
   have H := H.call1 Hc67
   refine ⟨_, rfl, trivial, fun a S => ?_⟩
   refine lq v70 S (q_assign rfl) fun a S => ?_
   refine lx_nil (thenN ?_)
   refine wp_seq (region_plain ?_)
   refine lq v63 S (q_move rfl) fun a S => ?_
   refine lq v70 S (q_move rfl) fun a S => ?_
   obtain ⟨x75, e76, hm⟩ := bind_some hm
   refine lx_call (xs := [.tmp 38, .tmp 39]) S trivial (by decide) rfl rfl Try.call44 ((impl_SubGame_ok (H.rdAt 1 rfl) (H.rdAt 0 rfl) e76).mono ?_)
   rintro e w73 ⟨v77, rfl, Hc74⟩
   have H := H.call1 Hc74
   refine ⟨_, rfl, trivial, fun a S => ?_⟩
   refine lq (.tuple #[v77, (.int .i64 x75.2)]) S (q_move rfl) fun a S => ?_
   refine lq v77 S (q_extract rfl rfl) fun a S => ?_
   refine lq (.int .i64 x75.2) S (q_extract rfl rfl) fun a S => ?_
   refine lq v77 S (q_assign rfl) fun a S => ?_
   refine lq (.int .i64 x75.2) S (q_assign rfl) fun a S => ?_
   refine lx_nil (thenN ?_)
   refine wp_seq (wp_seq (region_plain ?_))
   refine lq v77 S (q_move rfl) fun a S => ?_
   refine lq v56 S (q_move rfl) fun a S => ?_
   obtain ⟨x82, e83, hm⟩ := bind_some hm
   refine lx_call (xs := [.tmp 43, .tmp 44]) S trivial (by decide) rfl rfl Try.call18 ((laws_eqVertexS_ok (H.rdAt 0 rfl) (H.rdAt 3 rfl) e83).mono ?_)
   rintro e w80 ⟨rfl, Hc81⟩
   have H := H.call0 Hc81
   refine ⟨_, rfl, trivial, fun a S => ?_⟩
   refine lq (.bool (!x82)) S (q_not rfl) fun a S => ?_
   refine lq (.bool (!x82)) S (q_move rfl) fun a S => ?_
   obtain ⟨t85, e86, hm⟩ := bind_some hm
   refine lx_cut 4 (fun a w => Slots a 117 [(0, p0), (1, p1), (6, v56), (7, (.int .i64 x54.2)), (8, v63), (9, v70), (10, v77), (11, (.int .i64 x75.2)), (51, (.bool t85))] ∧ Heap w0 [oA (rList Rimpl_Vertex) v77 x75.1, oA (rList (rInt .i64)) v70 x68, oA (rList Rimpl_Vertex) v63 x61, oA (rList Rimpl_Vertex) v56 x54.1] w) ?_ ?_
   ·by_cases hc87 : (!x82) = true
    ·have hm := ite_t hc87 e86
     refine lx_skip S rfl rfl (isB_ne hc87) (by decide) (fun a S => ?_)
     refine lx_skip S rfl rfl (isB_ne hc87) (by decide) (fun a S => ?_)
     refine lx_skip S rfl rfl (isB_ne hc87) (by decide) (fun a S => ?_)
     refine lq (.bool true) S (q_pickT' rfl hc87 rfl) fun a S => ?_
     refine lx_nil ?_
     obtain rfl := Option.some.inj hm
     have H := H.sel [0, 1, 2, 3] (by decide)
     exact ⟨S.sub ⟨rfl, rfl, rfl, rfl, rfl, rfl, rfl, rfl, rfl, trivial⟩, H⟩
    ·have hm := ite_f (eq_false_of_ne_true hc87) e86
     have hc87 : (!x82) = false := eq_false_of_ne_true hc87
     refine lx_q (.int .i64 x75.2) S (want_b rfl rfl hc87) (by decide) (q_move rfl) (fun a S => ?_)
     refine lx_q (.int .i64 x54.2) S (want_b rfl rfl hc87) (by decide) (q_move rfl) (fun a S => ?_)
     refine lx_q (.bool (x75.2 != x54.2)) S (want_b rfl rfl hc87) (by decide) (q_neq rfl rfl) (fun a S => ?_)
     refine lq (.bool (x75.2 != x54.2)) S (q_pickF' rfl hc87 rfl) fun a S => ?_
     refine lx_nil ?_
     obtain rfl := Option.some.inj hm
     have H := H.sel [0, 1, 2, 3] (by decide)
     exact ⟨S.sub ⟨rfl, rfl, rfl, rfl, rfl, rfl, rfl, rfl, rfl, trivial⟩, H⟩
   ·rintro a w ⟨S, H⟩
    refine lx_nil (thenN ?_)
    refine cond_b S rfl (fun hc88 => ?_) (fun hc88 => ?_)
    ·have hm := ite_t hc88 hm
     refine wp_seq (region_plain ?_)
     refine lq (.bool false) S (q_assign rfl) fun a S => ?_
     refine lx_nil (thenN ?_)
     refine wp_ret (then_ret ?_)
     obtain rfl := Option.some.inj hm
     have H : Heap w0 [] w := H.sel [] (by decide)
     exact leave1 S rfl rfl ⟨rfl, H⟩
    ·have hm := ite_f hc88 hm
     refine wp_skip (thenN ?_)
     refine wp_seq (wp_seq (region_plain ?_))
     refine lq v63 S (q_move rfl) fun a S => ?_
     refine lq p0 S (q_move rfl) fun a S => ?_
     obtain ⟨x91, e92, hm⟩ := bind_some hm
     refine lx_call (xs := [.tmp 53]) S trivial (by decide) rfl rfl Try.call15 ((laws_toVertexS_ok (H.arg h0) e92).mono ?_)
     rintro e w89 ⟨v93, rfl, Hc90⟩
     have H := H.call1 Hc90
     refine ⟨_, rfl, trivial, fun a S => ?_⟩
     obtain ⟨x98, e99, hm⟩ := bind_some hm
     refine lx_call (xs := [.tmp 52, .tmp 54]) S trivial (by decide) rfl rfl Try.call18 ((laws_eqVertexS_ok (H.rdAt 3 rfl) (H.rdAt 0 rfl) e99).mono ?_)
     rintro e w96 ⟨rfl, Hc97⟩
     have H := H.call0 Hc97
     refine ⟨_, rfl, trivial, fun a S => ?_⟩
     refine lq (.bool (!x98)) S (q_not rfl) fun a S => ?_
     refine lx_nil (thenN ?_)
     refine cond_b S rfl (fun hc101 => ?_) (fun hc101 => ?_)
     ·have hm := ite_t hc101 hm
      refine wp_seq (region_plain ?_)
      refine lq (.bool false) S (q_assign rfl) fun a S => ?_
      refine lx_nil (thenN ?_)
      refine wp_ret (then_ret ?_)
      obtain rfl := Option.some.inj hm
      have H : Heap w0 [] w96 := H.sel [] (by decide)
      exact leave1 S rfl rfl ⟨rfl, H⟩
     ·have hm := ite_f hc101 hm
      refine wp_skip (thenN ?_)
      refine wp_seq (wp_seq (region_plain ?_))
      refine lq v70 S (q_move rfl) fun a S => ?_
      refine lq p1 S (q_move rfl) fun a S => ?_
      obtain ⟨x104, e105, hm⟩ := bind_some hm
      refine lx_call (xs := [.tmp 58]) S trivial (by decide) rfl rfl Try.call16 ((laws_toInt64S_ok (H.arg h1) e105).mono ?_)
      rintro e w102 ⟨v106, rfl, Hc103⟩
      have H := H.call1 Hc103
      refine ⟨_, rfl, trivial, fun a S => ?_⟩
      obtain ⟨x111, e112, hm⟩ := bind_some hm
      refine lx_call (xs := [.tmp 57, .tmp 59]) S trivial (by decide) rfl rfl Try.call19 ((laws_eqInt64S_ok (H.rdAt 3 rfl) (H.rdAt 0 rfl) e112).mono ?_)
      rintro e w109 ⟨rfl, Hc110⟩
      have H := H.call0 Hc110
      refine ⟨_, rfl, trivial, fun a S => ?_⟩
      refine lq (.bool (!x111)) S (q_not rfl) fun a S => ?_
      refine lx_nil (thenN ?_)
      refine cond_b S rfl (fun hc114 => ?_) (fun hc114 => ?_)
      ·have hm := ite_t hc114 hm
       refine wp_seq (region_plain ?_)
       refine lq (.bool false) S (q_assign rfl) fun a S => ?_
       refine lx_nil (thenN ?_)
       refine wp_ret (then_ret ?_)
       obtain rfl := Option.some.inj hm
       have H : Heap w0 [] w109 := H.sel [] (by decide)
       exact leave1 S rfl rfl ⟨rfl, H⟩
      ·have hm := ite_f hc114 hm
       refine wp_skip (thenN ?_)
       refine wp_seq (region_plain ?_)
       refine lq (.int .i64 (1 : Int)) S (q_assign rfl) fun a S => ?_
       refine lx_nil (thenN ?_)
       refine wp_seq (region_plain ?_)
       refine lq v63 S (q_move rfl) fun a S => ?_
       refine lq (.int .i64 (1 : Int)) S (q_move rfl) fun a S => ?_
       obtain ⟨x117, e118, hm⟩ := bind_some hm
       have H : Heap w0 [oA (rList Rimpl_Vertex) v63 x61, oA (rList (rInt .i64)) v106 x104, oA (rList Rimpl_Vertex) v93 x91, oA (rList Rimpl_Vertex) v77 x75.1, oA (rList (rInt .i64)) v70 x68, oA (rList Rimpl_Vertex) v56 x54.1] w109 := H.front 4 rfl
       refine lx_call (xs := [.tmp 62, .tmp 63]) S trivial (by decide) rfl rfl Try.call26 ((laws_markVertexS_ok H  e118).mono ?_)
       rintro e w115 ⟨rfl, H⟩
       refine ⟨_, rfl, trivial, fun a S => ?_⟩
       refine lq (.int .i64 x117.1) S (q_assign rfl) fun a S => ?_
       refine lx_nil (thenN ?_)
       refine wp_seq (region_plain ?_)
       refine lq v70 S (q_move rfl) fun a S => ?_
       refine lq (.int .i64 x117.1) S (q_move rfl) fun a S => ?_
       obtain ⟨x121, e122, hm⟩ := bind_some hm
       have H : Heap w0 [oA (rList (rInt .i64)) v70 x68, oA (rList Rimpl_Vertex) v63 x117.2, oA (rList (rInt .i64)) v106 x104, oA (rList Rimpl_Vertex) v93 x91, oA (rList Rimpl_Vertex) v77 x75.1, oA (rList Rimpl_Vertex) v56 x54.1] w115 := H.front 4 rfl
       refine lx_call (xs := [.tmp 65, .tmp 66]) S trivial (by decide) rfl rfl Try.call30 ((laws_markInt64S_ok H  e122).mono ?_)
       rintro e w119 ⟨rfl, H⟩
       refine ⟨_, rfl, trivial, fun a S => ?_⟩
       refine lq (.int .i64 x121.1) S (q_assign rfl) fun a S => ?_
       refine lx_nil (thenN ?_)
       refine wp_seq (wp_seq (region_plain ?_))
       refine lq (.int .i64 x121.1) S (q_move rfl) fun a S => ?_
       refine lq (.bool (decide (x121.1 < (0 : Int)))) S (q_lss rfl rfl) fun a S => ?_
       refine lq (.bool (decide (x121.1 < (0 : Int)))) S (q_move rfl) fun a S => ?_
       obtain ⟨t123, e124, hm⟩ := bind_some hm
       refine lx_cut 5 (fun a w => Slots a 117 [(0, p0), (1, p1), (6, v56), (7, (.int .i64 x54.2)), (10, v77), (11, (.int .i64 x75.2)), (75, (.bool t123))] ∧ Heap w0 [oA (rList Rimpl_Vertex) v77 x75.1, oA (rList Rimpl_Vertex) v56 x54.1] w) ?_ ?_
       ·by_cases hc125 : (decide (x121.1 < (0 : Int))) = true
        ·have hm := ite_t hc125 e124
         refine lx_skip S rfl rfl (isB_ne hc125) (by decide) (fun a S => ?_)
         refine lx_skip S rfl rfl (isB_ne hc125) (by decide) (fun a S => ?_)
         refine lx_skip S rfl rfl (isB_ne hc125) (by decide) (fun a S => ?_)
         refine lx_skip S rfl rfl (isB_ne hc125) (by decide) (fun a S => ?_)
         refine lq (.bool true) S (q_pickT' rfl hc125 rfl) fun a S => ?_
         refine lx_nil ?_
         obtain rfl := Option.some.inj hm
         have H := H.sel [4, 5] (by decide)
         exact ⟨S.sub ⟨rfl, rfl, rfl, rfl, rfl, rfl, rfl, trivial⟩, H⟩
        ·have hm := ite_f (eq_false_of_ne_true hc125) e124
         have hc125 : (decide (x121.1 < (0 : Int))) = false := eq_false_of_ne_true hc125
         refine lx_q v77 S (want_b rfl rfl hc125) (by decide) (q_move rfl) (fun a S => ?_)
         refine lx_q v56 S (want_b rfl rfl hc125) (by decide) (q_move rfl) (fun a S => ?_)
         obtain ⟨x128, e129, hm⟩ := bind_some hm
         refine lx_call (xs := [.tmp 71, .tmp 72]) S (want_b rfl rfl hc125) (by decide) rfl rfl Try.call18 ((laws_eqVertexS_ok (H.rdAt 4 rfl) (H.rdAt 5 rfl) e129).mono ?_)
         rintro e w126 ⟨rfl, Hc127⟩
         have H := H.call0 Hc127
         refine ⟨_, rfl, trivial, fun a S => ?_⟩
         refine lx_q (.bool (!x128)) S (want_b rfl rfl hc125) (by decide) (q_not rfl) (fun a S => ?_)
         refine lq (.bool (!x128)) S (q_pickF' rfl hc125 rfl) fun a S => ?_
         refine lx_nil ?_
         obtain rfl := Option.some.inj hm
         have H := H.sel [4, 5] (by decide)
         exact ⟨S.sub ⟨rfl, rfl, rfl, rfl, rfl, rfl, rfl, trivial⟩, H⟩
       ·rintro a w ⟨S, H⟩
        refine lq (.bool t123) S (q_move rfl) fun a S => ?_
        obtain ⟨t131, e132, hm⟩ := bind_some hm
        refine lx_cut 4 (fun a w => Slots a 117 [(0, p0), (1, p1), (6, v56), (7, (.int .i64 x54.2)), (10, v77), (80, (.bool t131))] ∧ Heap w0 [oA (rList Rimpl_Vertex) v77 x75.1, oA (rList Rimpl_Vertex) v56 x54.1] w) ?_ ?_
        ·by_cases hc133 : t123 = true
         ·have hm := ite_t hc133 e132
          refine lx_skip S rfl rfl (isB_ne hc133) (by decide) (fun a S => ?_)
          refine lx_skip S rfl rfl (isB_ne hc133) (by decide) (fun a S => ?_)
          refine lx_skip S rfl rfl (isB_ne hc133) (by decide) (fun a S => ?_)
          refine lq (.bool true) S (q_pickT' rfl hc133 rfl) fun a S => ?_
          refine lx_nil ?_
          obtain rfl := Option.some.inj hm
          exact ⟨S.sub ⟨rfl, rfl, rfl, rfl, rfl, rfl, trivial⟩, H⟩
         ·have hm := ite_f (eq_false_of_ne_true hc133) e132
          have hc133 : t123 = false := eq_false_of_ne_true hc133
          refine lx_q (.int .i64 x75.2) S (want_b rfl rfl hc133) (by decide) (q_move rfl) (fun a S => ?_)
          refine lx_q (.int .i64 x54.2) S (want_b rfl rfl hc133) (by decide) (q_move rfl) (fun a S => ?_)
          refine lx_q (.bool (x75.2 != x54.2)) S (want_b rfl rfl hc133) (by decide) (q_neq rfl rfl) (fun a S => ?_)
          refine lq (.bool (x75.2 != x54.2)) S (q_pickF' rfl hc133 rfl) fun a S => ?_
          refine lx_nil ?_
          obtain rfl := Option.some.inj hm
          exact ⟨S.sub ⟨rfl, rfl, rfl, rfl, rfl, rfl, trivial⟩, H⟩
        ·rintro a w ⟨S, H⟩
         refine lx_nil (thenN ?_)
         refine cond_b S rfl (fun hc134 => ?_) (fun hc134 => ?_)
         ·have hm := ite_t hc134 hm
          refine wp_seq (region_plain ?_)
          refine lq (.bool false) S (q_assign rfl) fun a S => ?_
          refine lx_nil (thenN ?_)
          refine wp_ret (then_ret ?_)
          obtain rfl := Option.some.inj hm
          have H : Heap w0 [] w := H.sel [] (by decide)
          exact leave1 S rfl rfl ⟨rfl, H⟩
         ·have hm := ite_f hc134 hm
          refine wp_skip (thenN ?_)
          refine wp_seq (region_plain ?_)
          refine lq (.int .i64 (1 : Int)) S (q_assign rfl) fun a S => ?_
          refine lx_nil (thenN ?_)
          refine wp_seq (region_plain ?_)
          refine lq v77 S (q_move rfl) fun a S => ?_
          refine lq (.int .i64 (1 : Int)) S (q_move rfl) fun a S => ?_
          obtain ⟨x137, e138, hm⟩ := bind_some hm
          refine lx_call (xs := [.tmp 81, .tmp 82]) S trivial (by decide) rfl rfl Try.call26 ((laws_markVertexS_ok H  e138).mono ?_)
          rintro e w135 ⟨rfl, H⟩
          refine ⟨_, rfl, trivial, fun a S => ?_⟩
          refine lq (.int .i64 x137.1) S (q_assign rfl) fun a S => ?_
          refine lx_nil (thenN ?_)
          refine wp_seq (region_plain ?_)
          refine lq (.int .i64 (1 : Int)) S (q_assign rfl) fun a S => ?_
          refine lx_nil (thenN ?_)
          refine wp_seq (region_plain ?_)
          refine lq v77 S (q_move rfl) fun a S => ?_
          refine lq (.int .i64 (1 : Int)) S (q_move rfl) fun a S => ?_
          obtain ⟨x141, e142, hm⟩ := bind_some hm
          refine lx_call (xs := [.tmp 84, .tmp 85]) S trivial (by decide) rfl rfl Try.call27 ((laws_heldVertexS_ok (H.rdAt 0 rfl)  e142).mono ?_)
          rintro e w139 ⟨rfl, Hc140⟩
          have H := H.call0 Hc140
          refine ⟨_, rfl, trivial, fun a S => ?_⟩
          refine lq (.int .i64 x141) S (q_assign rfl) fun a S => ?_
          refine lx_nil (thenN ?_)
          refine wp_seq (wp_seq (region_plain ?_))
          refine lq (.int .i64 x141) S (q_move rfl) fun a S => ?_
          refine lq (.bool (decide (x141 < (0 : Int)))) S (q_lss rfl rfl) fun a S => ?_
          refine lx_nil (thenN ?_)
          refine cond_b S rfl (fun hc144 => ?_) (fun hc144 => ?_)
          ·have hm := ite_t hc144 hm
           refine wp_seq (region_plain ?_)
           refine lq (.bool false) S (q_assign rfl) fun a S => ?_
           refine lx_nil (thenN ?_)
           refine wp_ret (then_ret ?_)
           obtain rfl := Option.some.inj hm
           have H : Heap w0 [] w139 := H.sel [] (by decide)
           exact leave1 S rfl rfl ⟨rfl, H⟩
          ·have hm := ite_f hc144 hm
           refine wp_skip (thenN ?_)
           refine wp_seq (wp_seq (region_plain ?_))
           refine lq (.int .i64 x141) S (q_move rfl) fun a S => ?_
           refine lq (.int .i64 x137.1) S (q_move rfl) fun a S => ?_
           refine lq (.bool (x141 != x137.1)) S (q_neq rfl rfl) fun a S => ?_
           refine lx_nil (thenN ?_)
           refine cond_b S rfl (fun hc145 => ?_) (fun hc145 => ?_)
           ·have hm := ite_t hc145 hm
            refine wp_seq (region_plain ?_)
            refine lq (.bool false) S (q_assign rfl) fun a S => ?_
            refine lx_nil (thenN ?_)
            refine wp_ret (then_ret ?_)
            obtain rfl := Option.some.inj hm
            have H : Heap w0 [] w139 := H.sel [] (by decide)
            exact leave1 S rfl rfl ⟨rfl, H⟩
           ·have hm := ite_f hc145 hm
            refine wp_skip (thenN ?_)
            refine wp_seq (region_plain ?_)
            refine lq p0 S (q_move rfl) fun a S => ?_
            obtain ⟨x148, e149, hm⟩ := bind_some hm
            refine lx_call (xs := [.tmp 93]) S trivial (by decide) rfl rfl Try.call15 ((laws_toVertexS_ok (H.arg h0) e149).mono ?_)
            rintro e w146 ⟨v150, rfl, Hc147⟩
            have H := H.call1 Hc147
            refine ⟨_, rfl, trivial, fun a S => ?_⟩
            refine lq p1 S (q_move rfl) fun a S => ?_
            obtain ⟨x155, e156, hm⟩ := bind_some hm
            refine lx_call (xs := [.tmp 95]) S trivial (by decide) rfl rfl Try.call16 ((laws_toInt64S_ok (H.arg h1) e156).mono ?_)
            rintro e w153 ⟨v157, rfl, Hc154⟩
            have H := H.call1 Hc154
            refine ⟨_, rfl, trivial, fun a S => ?_⟩
            obtain ⟨x162, e163, hm⟩ := bind_some hm
            refine lx_call (xs := [.tmp 94, .tmp 96]) S trivial (by decide) rfl rfl Try.call44 ((impl_SubGame_ok (H.rdAt 1 rfl) (H.rdAt 0 rfl) e163).mono ?_)
            rintro e w160 ⟨v164, rfl, Hc161⟩
            have H := H.call1 Hc161
            refine ⟨_, rfl, trivial, fun a S => ?_⟩
            refine lq (.tuple #[v164, (.int .i64 x162.2)]) S (q_move rfl) fun a S => ?_
            refine lq v164 S (q_extract rfl rfl) fun a S => ?_
            refine lq (.int .i64 x162.2) S (q_extract rfl rfl) fun a S => ?_
            refine lq v164 S (q_assign rfl) fun a S => ?_
            refine lq (.int .i64 x162.2) S (q_assign rfl) fun a S => ?_
            refine lx_nil (thenN ?_)
            refine wp_seq (wp_seq (region_plain ?_))
            refine lq v164 S (q_move rfl) fun a S => ?_
            refine lq v56 S (q_move rfl) fun a S => ?_
            obtain ⟨x169, e170, hm⟩ := bind_some hm
            refine lx_call (xs := [.tmp 100, .tmp 101]) S trivial (by decide) rfl rfl Try.call18 ((laws_eqVertexS_ok (H.rdAt 0 rfl) (H.rdAt 4 rfl) e170).mono ?_)
            rintro e w167 ⟨rfl, Hc168⟩
            have H := H.call0 Hc168
            refine ⟨_, rfl, trivial, fun a S => ?_⟩
            refine lq (.bool (!x169)) S (q_not rfl) fun a S => ?_
            refine lq (.bool (!x169)) S (q_move rfl) fun a S => ?_
            obtain ⟨t172, e173, hm⟩ := bind_some hm
            refine lx_cut 4 (fun a w => Slots a 117 [(10, v77), (13, (.int .i64 x137.1)), (108, (.bool t172))] ∧ Heap w0 [oA (rList Rimpl_Vertex) v77 x137.2] w) ?_ ?_
            ·by_cases hc174 : (!x169) = true
             ·have hm := ite_t hc174 e173
              refine lx_skip S rfl rfl (isB_ne hc174) (by decide) (fun a S => ?_)
              refine lx_skip S rfl rfl (isB_ne hc174) (by decide) (fun a S => ?_)
              refine lx_skip S rfl rfl (isB_ne hc174) (by decide) (fun a S => ?_)
              refine lq (.bool true) S (q_pickT' rfl hc174 rfl) fun a S => ?_
              refine lx_nil ?_
              obtain rfl := Option.some.inj hm
              have H := H.sel [3] (by decide)
              exact ⟨S.sub ⟨rfl, rfl, rfl, trivial⟩, H⟩
             ·have hm := ite_f (eq_false_of_ne_true hc174) e173
              have hc174 : (!x169) = false := eq_false_of_ne_true hc174
              refine lx_q (.int .i64 x162.2) S (want_b rfl rfl hc174) (by decide) (q_move rfl) (fun a S => ?_)
              refine lx_q (.int .i64 x54.2) S (want_b rfl rfl hc174) (by decide) (q_move rfl) (fun a S => ?_)
              refine lx_q (.bool (x162.2 != x54.2)) S (want_b rfl rfl hc174) (by decide) (q_neq rfl rfl) (fun a S => ?_)
              refine lq (.bool (x162.2 != x54.2)) S (q_pickF' rfl hc174 rfl) fun a S => ?_
              refine lx_nil ?_
              obtain rfl := Option.some.inj hm
              have H := H.sel [3] (by decide)
              exact ⟨S.sub ⟨rfl, rfl, rfl, trivial⟩, H⟩
            ·rintro a w ⟨S, H⟩
             refine lx_nil (thenN ?_)
             refine cond_b S rfl (fun hc175 => ?_) (fun hc175 => ?_)
             ·have hm := ite_t hc175 hm
              refine wp_seq (region_plain ?_)
              refine lq (.bool false) S (q_assign rfl) fun a S => ?_
              refine lx_nil (thenN ?_)
              refine wp_ret (then_ret ?_)
              obtain rfl := Option.some.inj hm
              have H : Heap w0 [] w := H.sel [] (by decide)
              exact leave1 S rfl rfl ⟨rfl, H⟩
             ·have hm := ite_f hc175 hm
              refine wp_skip (thenN ?_)
              refine wp_seq (region_plain ?_)
              refine lq (.int .i64 (1 : Int)) S (q_assign rfl) fun a S => ?_
              refine lx_nil (thenN ?_)
              refine wp_seq (region_plain ?_)
              refine lq v77 S (q_move rfl) fun a S => ?_
              refine lq (.int .i64 (1 : Int)) S (q_move rfl) fun a S => ?_
              obtain ⟨x178, e179, hm⟩ := bind_some hm
              refine lx_call (xs := [.tmp 109, .tmp 110]) S trivial (by decide) rfl rfl Try.call27 ((laws_heldVertexS_ok (H.rdAt 0 rfl)  e179).mono ?_)
              rintro e w176 ⟨rfl, Hc177⟩
              have H := H.call0 Hc177
              refine ⟨_, rfl, trivial, fun a S => ?_⟩
              refine lq (.int .i64 x178) S (q_assign rfl) fun a S => ?_
              refine lx_nil (thenN ?_)
              refine wp_seq (wp_seq (region_plain ?_))
              refine lq (.int .i64 x178) S (q_move rfl) fun a S => ?_
              refine lq (.bool (decide (x178 < (0 : Int)))) S (q_lss rfl rfl) fun a S => ?_
              refine lx_nil (thenN ?_)
              refine cond_b S rfl (fun hc181 => ?_) (fun hc181 => ?_)
              ·have hm := ite_t hc181 hm
               refine wp_seq (region_plain ?_)
               refine lq (.bool false) S (q_assign rfl) fun a S => ?_
               refine lx_nil (thenN ?_)
               refine wp_ret (then_ret ?_)
               obtain rfl := Option.some.inj hm
               have H : Heap w0 [] w176 := H.sel [] (by decide)
               exact leave1 S rfl rfl ⟨rfl, H⟩
              ·have hm := ite_f hc181 hm
               refine wp_skip (thenN ?_)
               refine wp_seq (wp_seq (region_plain ?_))
               refine lq (.int .i64 x178) S (q_move rfl) fun a S => ?_
               refine lq (.int .i64 x137.1) S (q_move rfl) fun a S => ?_
               refine lq (.bool (x178 != x137.1)) S (q_neq rfl rfl) fun a S => ?_
               refine lx_nil (thenN ?_)
               refine cond_b S rfl (fun hc182 => ?_) (fun hc182 => ?_)
               ·have hm := ite_t hc182 hm
                refine wp_seq (region_plain ?_)
                refine lq (.bool false) S (q_assign rfl) fun a S => ?_
                refine lx_nil (thenN ?_)
                refine wp_ret (then_ret ?_)
                obtain rfl := Option.some.inj hm
                have H : Heap w0 [] w176 := H.sel [] (by decide)
                exact leave1 S rfl rfl ⟨rfl, H⟩
               ·have hm := ite_f hc182 hm
                refine wp_skip (thenN ?_)
                refine wp_seq (region_plain ?_)
                refine lq (.bool true) S (q_assign rfl) fun a S => ?_
                refine lx_nil (thenN ?_)
                refine wp_ret ?_
                obtain rfl := Option.some.inj hm
                have H : Heap w0 [] w176 := H.sel [] (by decide)
                exact leave1 S rfl rfl ⟨rfl, H⟩
end Go.Proofs.Ytecknjdlbmmmiaa
