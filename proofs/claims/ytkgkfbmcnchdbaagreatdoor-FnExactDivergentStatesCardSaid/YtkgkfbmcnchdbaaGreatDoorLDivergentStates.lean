/- The model of a statement and its walk (printed by a program of this repo). -/
import Derived.Test.YtkgkfbmcnchdbaaGreatDoorF0
import Derived.Test.YtkgkfbmcnchdbaaGreatDoorF1
import Derived.Test.YtkgkfbmcnchdbaaGreatDoorF12
import Derived.Test.YtkgkfbmcnchdbaaGreatDoorF2
import Derived.Test.YtkgkfbmcnchdbaaGreatDoorF3
import Derived.Test.YtkgkfbmcnchdbaaGreatDoorF4
import Derived.Test.YtkgkfbmcnchdbaaGreatDoorF5
import Derived.Test.YtkgkfbmcnchdbaaGreatDoorF6
import Derived.Test.YtkgkfbmcnchdbaaGreatDoorFS
import Derived.Test.YtkgkfbmcnchdbaaGreatDoorGxT
import Derived.Test.YtkgkfbmcnchdbaaGreatDoorGxY
namespace Go.Proofs.YtkgkfbmcnchdbaaGreatDoor
open Go.RowKit Go.Gx

/-- spec.l15Diverge -/
def spec_l15Diverge_m (fuel : Nat) (a0 : Timpl_Lts) (a1 : (List Int)) : Option ((List Bool)) :=
  (mks a0.1 false).bind fun x50 => (iter (fun (s : (List Bool) × (Int)) => (match s with | (xs62, x63) => (if (decide (x63 < a0.1)) = true then (idx xs62 x63).bind fun _ => some (.inl ((xs62.set x63.toNat true), (W (x63 + (1 : Int))))) else some (.inr (.inl (xs62)))) : Option (((List Bool) × (Int)) ⊕ (((List Bool)) ⊕ ((List Bool)))))) fuel (x50, (0 : Int))).bind fun res71 => ctl (β := (List Bool)) (ρ := (List Bool)) (τ := (List Bool)) res71 (fun (xs70) => (iter (fun (s : (List Bool) × (Bool)) => (match s with | (xs521, x522) => (if x522 = true then (iter (fun (s : (List Bool) × (Bool) × (Int)) => (match s with | (xs1122, x1123, x1124) => (if (decide (x1124 < a0.1)) = true then join (κ := List Bool → Bool → Option (((List Bool) × (Bool) × (Int)) ⊕ (((List Bool) × Bool) ⊕ ((List Bool))))) (fun (xs1280 : List Bool) (x1281 : Bool) => some (.inl (xs1280, x1281, (W (x1124 + (1 : Int)))))) (fun K1282 => (idx xs1122 x1124).bind fun x1284 => (if (!x1284) = true then (K1282 xs1122 x1123) else (iter (fun (s : (Bool) × (Int)) => (match s with | (x1329, x1330) => (if (decide (x1330 < (a0.2.2.2.length : Int))) = true then (idx a0.2.2.2 x1330).bind fun x1384 => (if x1329 = true then some true else (if (x1384.1 == x1124) = true then (spec_l15Inert_m fuel (x1384.1, x1384.2.1, x1384.2.2) a1).bind fun x1409 => some x1409 else some false).bind fun t1404 => (if t1404 = true then (idx xs1122 x1384.2.2).bind fun x1415 => some x1415 else some false).bind fun t1412 => some t1412).bind fun t1401 => some (.inl (t1401, (W (x1330 + (1 : Int))))) else some (.inr (.inl (x1329)))) : Option (((Bool) × (Int)) ⊕ ((Bool) ⊕ ((List Bool)))))) fuel (false, (0 : Int))).bind fun res1371 => ctl (β := Bool) (ρ := (List Bool)) (τ := (((List Bool) × (Bool) × (Int)) ⊕ (((List Bool) × Bool) ⊕ ((List Bool))))) res1371 (fun (x1370) => (if (!x1370) = true then (idx xs1122 x1124).bind fun _ => (K1282 (xs1122.set x1124.toNat false) true) else (K1282 xs1122 x1123))) (fun q => some (.inr (.inr q))))) else some (.inr (.inl (xs1122, x1123)))) : Option (((List Bool) × (Bool) × (Int)) ⊕ (((List Bool) × Bool) ⊕ ((List Bool)))))) fuel (xs521, false, (0 : Int))).bind fun res1271 => ctl (β := (List Bool) × Bool) (ρ := (List Bool)) (τ := (((List Bool) × (Bool)) ⊕ (((List Bool)) ⊕ ((List Bool))))) res1271 (fun (xs1269, x1270) => some (.inl (xs1269, x1270))) (fun q => some (.inr (.inr q))) else some (.inr (.inl (xs521)))) : Option (((List Bool) × (Bool)) ⊕ (((List Bool)) ⊕ ((List Bool)))))) fuel (xs70, true)).bind fun res969 => ctl (β := (List Bool)) (ρ := (List Bool)) (τ := (List Bool)) res969 (fun (xs968) => some (xs968)) (fun q => some (q))) (fun q => some (q))
set_option maxRecDepth 20000 in
theorem spec_l15Diverge_ok {w0 : World} {fuel : Nat} {p0 p1 : Value} {a0 : Timpl_Lts} {a1 : (List Int)} {r : (List Bool)} (h0 : Rd (rPtr Rimpl_Lts) w0 p0 a0) (h1 : Rd (rList (rInt .i64)) w0 p1 a1) (hm : spec_l15Diverge_m fuel a0 a1 = some r) :
  Calls Tryz.prog 95 #[p0, p1] w0 fun e w => ∃ (v0 : Value), e = .returned (v0) ∧ Heap w0 [oA (rList rBool) v0 r] w := by
 unfold spec_l15Diverge_m at hm
 have H := Heap.start w0
 obtain ⟨c31, h32, hat33⟩ := h0.ptr
 obtain ⟨c38, c39, rfl, h40, h41⟩ := h32
 obtain rfl := h40
 obtain ⟨c42, c43, rfl, h44, h45⟩ := h41
 obtain rfl := h44
 obtain ⟨c46, c47, rfl, h48, h49⟩ := h45
 obtain ⟨v34, rfl, h35⟩ := rd_list h48
 obtain ⟨v36, rfl, h37⟩ := rd_list h49
 refine enter (args := [p0, p1]) Tryz.func95 rfl 82 rfl (Nat.le_of_ble_eq_true rfl) (fun a S => ?_)
 refine wp_seq (region_plain ?_)
 refine lq (.slice none 0 0) S (q_assign rfl) fun a S => ?_
 refine lx_nil (thenN ?_)
 refine wp_seq (region_plain ?_)
 refine lq p0 S (q_move rfl) fun a S => ?_
 refine lq p0 S (q_nilCheck rfl ((hat33 0 _ rfl).isP)) fun a S => ?_
 refine lq (pAdd p0 0) S (q_fieldAddr' 0 2 rfl ((hat33 0 _ rfl).isP) Tryz.underlying30 rfl Tryz.sizeOf2) fun a S => ?_
 refine lx_e (.int .i64 a0.1) S trivial (by decide) rfl trivial (q_load1 rfl Tryz.isAgg2 (by rintro _ rfl; exact (At.of_add (m := 0) (j := 0) ((hat33 0 _ rfl).ext H.ext)))) (fun a S => ?_)
 obtain ⟨x50, e51, hm⟩ := bind_some hm
 obtain ⟨m52, hn, hn2, rfl⟩ := mks_some e51
 refine lx_make (r := rBool) (z0 := false) (n := m52) S trivial (by decide) rfl H (by rw [← hn]; rfl) (by rw [← hn]; rfl) Tryz.underlying93 (Tryz.ti4) rfl rfl (by decide) (fun w => ⟨rfl, rfl⟩) hn2 (by decide) (fun v53 w54 H => ⟨trivial, fun a S => ?_⟩)
 refine lq v53 S (q_assign rfl) fun a S => ?_
 refine lx_nil (thenN ?_)
 refine wp_seq (wp_seq (region_plain ?_))
 refine lq (.int .i64 (0 : Int)) S (q_assign rfl) fun a S => ?_
 refine lx_nil (thenN ?_)
 obtain ⟨res71, hit72, hk75⟩ := bind_some hm
 obtain ⟨f73, hf74, hit72⟩ := iter_name hit72
 refine block_loop (fun a w => ∃ (xs70 : List Bool), Slots a 82 [(0, p0), (1, p1), (5, v53)] ∧ Heap w0 [oA (rList rBool) v53 xs70] w ∧ res71 = .inl (xs70)) ?_ ?_
 ·rintro a w ⟨xs70, S, H, rfl⟩
  have hm := ctl_inl hk75
  refine thenN ?_
  refine wp_seq (wp_seq (region_plain ?_))
  refine lq (.bool true) S (q_assign rfl) fun a S => ?_
  refine lx_nil (thenN ?_)
  obtain ⟨res969, hit970, hk973⟩ := bind_some hm
  obtain ⟨f971, hf972, hit970⟩ := iter_name hit970
  refine block_loop (fun a w => ∃ (xs968 : List Bool), Slots a 82 [(5, v53)] ∧ Heap w0 [oA (rList rBool) v53 xs968] w ∧ res969 = .inl (xs968)) ?_ ?_
  ·rintro a w ⟨xs968, S, H, rfl⟩
   have hm := ctl_inl hk973
   refine thenN ?_
   refine wp_seq (region_plain ?_)
   refine lq v53 S (q_move rfl) fun a S => ?_
   refine lq v53 S (q_assign rfl) fun a S => ?_
   refine lx_nil (thenN ?_)
   refine wp_ret ?_
   obtain rfl := Option.some.inj hm
   exact leave1 S rfl rfl ⟨v53, rfl, H⟩
  ·skip
   refine loop_ghost (fun n a w => ∃ (xs521 : List Bool) (x522 : Bool), Slots a 82 [(0, p0), (1, p1), (5, v53), (7, (.bool x522))] ∧ Heap w0 [oA (rList rBool) v53 xs521] w ∧ iter f971 n (xs521, x522) = some res969) _ ⟨xs70, true, S.sub ⟨rfl, rfl, rfl, rfl, trivial⟩, H, hit970⟩ ?_
   rintro n a w ⟨xs521, x522, S, H, hit970⟩
   obtain ⟨m974, o975, rfl, hm, hc976⟩ := iter_step hit970
   rw [hf972] at hm
   refine wp_seq (wp_seq (region_plain ?_))
   refine lq (.bool x522) S (q_move rfl) fun a S => ?_
   refine lx_nil (thenN ?_)
   refine cond_b S rfl (fun hc977 => ?_) (fun hc977 => ?_)
   ·have hm := ite_t hc977 hm
    refine wp_skip (thenN ?_)
    refine wp_block ?_
    refine wp_seq (region_plain ?_)
    refine lq (.bool false) S (q_assign rfl) fun a S => ?_
    refine lx_nil (thenN ?_)
    refine wp_seq (region_plain ?_)
    refine lq (.int .i64 (0 : Int)) S (q_assign rfl) fun a S => ?_
    refine lx_nil (thenN ?_)
    obtain ⟨res1271, hit1272, hk1275⟩ := bind_some hm
    obtain ⟨f1273, hf1274, hit1272⟩ := iter_name hit1272
    refine block_loop (fun a w => ∃ (xs1269 : List Bool) (x1270 : Bool), Slots a 82 [(0, p0), (1, p1), (5, v53), (7, (.bool x1270))] ∧ Heap w0 [oA (rList rBool) v53 xs1269] w ∧ res1271 = .inl (xs1269, x1270)) ?_ ?_
    ·rintro a w ⟨xs1269, x1270, S, H, rfl⟩
     have hm := ctl_inl hk1275
     refine inBlock_norm ?_
     exact ⟨m974, Nat.lt_succ_self _, xs1269, x1270, S.sub ⟨rfl, rfl, rfl, rfl, trivial⟩, H, it_cont hm hc976⟩
    ·skip
     refine loop_ghost (fun n a w => ∃ (xs1122 : List Bool) (x1123 : Bool) (x1124 : Int), Slots a 82 [(0, p0), (1, p1), (5, v53), (7, (.bool x1123)), (8, (.int .i64 x1124))] ∧ Heap w0 [oA (rList rBool) v53 xs1122] w ∧ iter f1273 n (xs1122, x1123, x1124) = some res1271) _ ⟨xs521, false, (0 : Int), S.sub ⟨rfl, rfl, rfl, rfl, rfl, trivial⟩, H, hit1272⟩ ?_
     rintro n a w ⟨xs1122, x1123, x1124, S, H, hit1272⟩
     obtain ⟨m1276, o1277, rfl, hm, hc1278⟩ := iter_step hit1272
     rw [hf1274] at hm
     refine wp_seq (wp_seq (region_plain ?_))
     refine lq (.int .i64 x1124) S (q_move rfl) fun a S => ?_
     refine lq p0 S (q_move rfl) fun a S => ?_
     refine lq p0 S (q_nilCheck rfl ((hat33 0 _ rfl).isP)) fun a S => ?_
     refine lq (pAdd p0 0) S (q_fieldAddr' 0 2 rfl ((hat33 0 _ rfl).isP) Tryz.underlying30 rfl Tryz.sizeOf2) fun a S => ?_
     refine lx_e (.int .i64 a0.1) S trivial (by decide) rfl trivial (q_load1 rfl Tryz.isAgg2 (by rintro _ rfl; exact (At.of_add (m := 0) (j := 0) ((hat33 0 _ rfl).ext H.ext)))) (fun a S => ?_)
     refine lq (.bool (decide (x1124 < a0.1))) S (q_lss rfl rfl) fun a S => ?_
     refine lx_nil (thenN ?_)
     refine cond_b S rfl (fun hc1279 => ?_) (fun hc1279 => ?_)
     ·have hm := ite_t hc1279 hm
      refine wp_skip (thenN ?_)
      obtain ⟨K1282, hK1283, hm⟩ := join_elim hm
      refine seq_cut (fun a w => ∃ (xs1280 : List Bool) (x1281 : Bool), Slots a 82 [(0, p0), (1, p1), (5, v53), (7, (.bool x1281)), (8, (.int .i64 x1124))] ∧ Heap w0 [oA (rList rBool) v53 xs1280] w ∧ K1282 xs1280 x1281 = some o1277) ?_ ?_
      ·rintro a w ⟨xs1280, x1281, S, H, hm⟩
       subst hK1283
       refine region_plain ?_
       refine lq (.int .i64 x1124) S (q_move rfl) fun a S => ?_
       refine lq (.int .i64 (W (x1124 + (1 : Int)))) S (q_add rfl rfl) fun a S => ?_
       refine lq (.int .i64 (W (x1124 + (1 : Int)))) S (q_assign rfl) fun a S => ?_
       refine lx_nil ?_
       exact ⟨m1276, Nat.lt_succ_self _, xs1280, x1281, (W (x1124 + (1 : Int))), S.sub ⟨rfl, rfl, rfl, rfl, rfl, trivial⟩, H, it_cont hm hc1278⟩
      ·skip
       refine wp_block ?_
       refine wp_seq (wp_seq (region_plain ?_))
       refine lq v53 S (q_move rfl) fun a S => ?_
       refine lq (.int .i64 x1124) S (q_move rfl) fun a S => ?_
       obtain ⟨x1284, e1285, hm⟩ := bind_some hm
       have hlt := lt_of_idx (idx_some e1285).2
       refine lq (ePtr v53 (x1124.toNat * 1)) S (q_indexAddr rfl (H.isSl 0 rfl) rfl (idx_some e1285).1 hlt Tryz.underlying93 Tryz.sizeOf4) fun a S => ?_
       obtain ⟨c1286, h1287, hat1288⟩ := (H.rdAt 0 rfl).elem (idx_some e1285).2
       obtain rfl := h1287
       refine lx_e (.bool x1284) S trivial (by decide) rfl trivial (q_load1 rfl Tryz.isAgg4 (by rintro _ rfl; exact (hat1288 0 _ rfl))) (fun a S => ?_)
       refine lq (.bool (!x1284)) S (q_not rfl) fun a S => ?_
       refine lx_nil (thenN ?_)
       refine cond_b S rfl (fun hc1289 => ?_) (fun hc1289 => ?_)
       ·have hm := ite_t hc1289 hm
        refine wp_exit ?_
        refine then_exit ?_
        refine inBlock_exit ?_
        exact ⟨xs1122, x1123, S.sub ⟨rfl, rfl, rfl, rfl, rfl, trivial⟩, H, hm⟩
       ·have hm := ite_f hc1289 hm
        refine wp_skip (thenN ?_)
        refine wp_seq (region_plain ?_)
        refine lq (.bool false) S (q_assign rfl) fun a S => ?_
        refine lx_nil (thenN ?_)
        refine wp_seq (wp_seq (region_plain ?_))
        refine lq (.int .i64 (0 : Int)) S (q_assign rfl) fun a S => ?_
        refine lx_nil (thenN ?_)
        obtain ⟨res1371, hit1372, hk1375⟩ := bind_some hm
        obtain ⟨f1373, hf1374, hit1372⟩ := iter_name hit1372
        refine block_loop (fun a w => ∃ (x1370 : Bool), Slots a 82 [(0, p0), (1, p1), (5, v53), (7, (.bool x1123)), (8, (.int .i64 x1124)), (9, (.bool x1370))] ∧ Heap w0 [oA (rList rBool) v53 xs1122] w ∧ res1371 = .inl (x1370)) ?_ ?_
        ·rintro a w ⟨x1370, S, H, rfl⟩
         have hm := ctl_inl hk1375
         refine thenN ?_
         refine wp_seq (region_plain ?_)
         refine lq (.bool x1370) S (q_move rfl) fun a S => ?_
         refine lq (.bool (!x1370)) S (q_not rfl) fun a S => ?_
         refine lx_nil (thenN ?_)
         refine cond_b S rfl (fun hc1376 => ?_) (fun hc1376 => ?_)
         ·have hm := ite_t hc1376 hm
          refine wp_seq (region_plain ?_)
          refine lq v53 S (q_move rfl) fun a S => ?_
          refine lq (.int .i64 x1124) S (q_move rfl) fun a S => ?_
          obtain ⟨x1377, e1378, hm⟩ := bind_some hm
          have hlt := lt_of_idx (idx_some e1378).2
          refine lq (ePtr v53 (x1124.toNat * 1)) S (q_indexAddr rfl (H.isSl 0 rfl) rfl (idx_some e1378).1 hlt Tryz.underlying93 Tryz.sizeOf4) fun a S => ?_
          refine lx_storeElem (r := rBool) (us := [(.bool false)]) (off := 0) (e' := false) S trivial rfl H.putE (ev_zero rfl) rfl (idx_some e1378).2 rfl Tryz.sizeOf4 (Nat.le_of_ble_eq_true rfl) (List.forall_mem_cons.2 ⟨rfl, (fun _ h => nomatch h)⟩) (Upd.full rfl (fun w G hG => by cases (show G = [] from hG); exact ⟨rfl, rfl⟩)) (fun w1379 H => ⟨trivial, fun a S => ?_⟩)
          refine lx_nil (thenN ?_)
          refine region_plain ?_
          refine lq (.bool true) S (q_assign rfl) fun a S => ?_
          refine lx_nil ?_
          refine inBlock_norm ?_
          exact ⟨(xs1122.set x1124.toNat false), true, S.sub ⟨rfl, rfl, rfl, rfl, rfl, trivial⟩, H, hm⟩
         ·have hm := ite_f hc1376 hm
          refine wp_skip ?_
          refine inBlock_norm ?_
          exact ⟨xs1122, x1123, S.sub ⟨rfl, rfl, rfl, rfl, rfl, trivial⟩, H, hm⟩
        ·skip
         refine loop_ghost (fun n a w => ∃ (x1329 : Bool) (x1330 : Int), Slots a 82 [(0, p0), (1, p1), (5, v53), (7, (.bool x1123)), (8, (.int .i64 x1124)), (9, (.bool x1329)), (10, (.int .i64 x1330))] ∧ Heap w0 [oA (rList rBool) v53 xs1122] w ∧ iter f1373 n (x1329, x1330) = some res1371) _ ⟨false, (0 : Int), S.sub ⟨rfl, rfl, rfl, rfl, rfl, rfl, rfl, trivial⟩, H, hit1372⟩ ?_
         rintro n a w ⟨x1329, x1330, S, H, hit1372⟩
         obtain ⟨m1380, o1381, rfl, hm, hc1382⟩ := iter_step hit1372
         rw [hf1374] at hm
         refine wp_seq (wp_seq (region_plain ?_))
         refine lq (.int .i64 x1330) S (q_move rfl) fun a S => ?_
         refine lq p0 S (q_move rfl) fun a S => ?_
         refine lq p0 S (q_nilCheck rfl ((hat33 0 _ rfl).isP)) fun a S => ?_
         refine lq (pAdd p0 3) S (q_fieldAddr' 3 28 rfl ((hat33 0 _ rfl).isP) Tryz.underlying30 rfl Tryz.sizeOf28) fun a S => ?_
         refine lx_e v36 S trivial (by decide) rfl trivial (q_load1 rfl Tryz.isAgg28 (by rintro _ rfl; exact (At.of_add (m := 3) (j := 0) ((hat33 3 _ rfl).ext H.ext)))) (fun a S => ?_)
         refine lq (.int .i64 (a0.2.2.2.length : Int)) S (q_lenSl rfl (h37).isSl rfl Tryz.underlying28) fun a S => ?_
         refine lq (.bool (decide (x1330 < (a0.2.2.2.length : Int)))) S (q_lss rfl rfl) fun a S => ?_
         refine lx_nil (thenN ?_)
         refine cond_b S rfl (fun hc1383 => ?_) (fun hc1383 => ?_)
         ·have hm := ite_t hc1383 hm
          refine wp_skip (thenN ?_)
          refine wp_seq ?_
          refine wp_block ?_
          refine wp_seq (region_plain ?_)
          refine lq p0 S (q_move rfl) fun a S => ?_
          refine lq p0 S (q_nilCheck rfl ((hat33 0 _ rfl).isP)) fun a S => ?_
          refine lq (pAdd p0 3) S (q_fieldAddr' 3 28 rfl ((hat33 0 _ rfl).isP) Tryz.underlying30 rfl Tryz.sizeOf28) fun a S => ?_
          refine lx_e v36 S trivial (by decide) rfl trivial (q_load1 rfl Tryz.isAgg28 (by rintro _ rfl; exact (At.of_add (m := 3) (j := 0) ((hat33 3 _ rfl).ext H.ext)))) (fun a S => ?_)
          refine lq (.int .i64 x1330) S (q_move rfl) fun a S => ?_
          obtain ⟨x1384, e1385, hm⟩ := bind_some hm
          obtain ⟨c1386, h1387, hat1388⟩ := (h37).elem (idx_some e1385).2
          obtain ⟨c1389, c1390, rfl, h1391, h1392⟩ := h1387
          obtain rfl := h1391
          obtain ⟨c1393, c1394, rfl, h1395, h1396⟩ := h1392
          obtain rfl := h1395
          obtain rfl := h1396
          have hlt := lt_of_idx (idx_some e1385).2
          refine lq (ePtr v36 (x1330.toNat * 3)) S (q_indexAddr rfl (h37).isSl rfl (idx_some e1385).1 hlt Tryz.underlying28 Tryz.sizeOf72) fun a S => ?_
          refine lx_e (.agg #[(.int .i64 x1384.1), (.int .i64 x1384.2.1), (.int .i64 x1384.2.2)]) S trivial (by decide) rfl trivial (q_loadA (cs := [(.int .i64 x1384.1), (.int .i64 x1384.2.1), (.int .i64 x1384.2.2)]) rfl ((hat1388 0 _ rfl).isP) Tryz.isAgg72 Tryz.sizeOf72 (by rintro _ rfl; exact (fun j u hu => (hat1388 j u hu).ext H.ext))) (fun a S => ?_)
          refine lx_alloc S trivial (by decide) rfl H Tryz.zeroValue72 rfl (fun b1397 w1398 H => ⟨trivial, fun a S => ?_⟩)
          refine lx_storeBox (o := 0) (i := 0) (us := [(.int .i64 x1384.1), (.int .i64 x1384.2.1), (.int .i64 x1384.2.2)]) (cs' := [(.int .i64 x1384.1), (.int .i64 x1384.2.1), (.int .i64 x1384.2.2)]) S trivial rfl H rfl rfl rfl rfl Tryz.sizeOf72 (Nat.le_of_ble_eq_true rfl) (List.forall_mem_cons.2 ⟨rfl, (List.forall_mem_cons.2 ⟨rfl, (List.forall_mem_cons.2 ⟨rfl, (fun _ h => nomatch h)⟩)⟩)⟩) rfl (fun w1400 H => ⟨trivial, fun a S => ?_⟩)
          change Heap w0 [bA b1397 [(.int .i64 x1384.1), (.int .i64 x1384.2.1), (.int .i64 x1384.2.2)] 72, oA (rList rBool) v53 xs1122] w1400 at H
          refine lx_nil (thenN ?_)
          refine region_plain ?_
          refine lq (.bool x1329) S (q_move rfl) fun a S => ?_
          refine lq (.bool x1329) S (q_move rfl) fun a S => ?_
          obtain ⟨t1401, e1402, hm⟩ := bind_some hm
          refine lx_cut 16 (fun a w => Slots a 82 [(0, p0), (1, p1), (5, v53), (7, (.bool x1123)), (8, (.int .i64 x1124)), (10, (.int .i64 x1330)), (75, (.bool t1401))] ∧ Heap w0 [oA (rList rBool) v53 xs1122] w) ?_ ?_
          ·by_cases hc1403 : x1329 = true
           ·have hm := ite_t hc1403 e1402
            refine lx_skip S rfl rfl (isB_ne hc1403) (by decide) (fun a S => ?_)
            refine lx_skip S rfl rfl (isB_ne hc1403) (by decide) (fun a S => ?_)
            refine lx_skip S rfl rfl (isB_ne hc1403) (by decide) (fun a S => ?_)
            refine lx_skip S rfl rfl (isB_ne hc1403) (by decide) (fun a S => ?_)
            refine lx_skip S rfl rfl (isB_ne hc1403) (by decide) (fun a S => ?_)
            refine lx_skip S rfl rfl rfl (by decide) (fun a S => ?_)
            refine lx_skip S rfl rfl rfl (by decide) (fun a S => ?_)
            refine lx_skip S rfl rfl (isB_ne hc1403) (by decide) (fun a S => ?_)
            refine lx_skip S rfl rfl (isB_ne hc1403) (by decide) (fun a S => ?_)
            refine lx_skip S rfl rfl rfl (by decide) (fun a S => ?_)
            refine lx_skip S rfl rfl rfl (by decide) (fun a S => ?_)
            refine lx_skip S rfl rfl rfl (by decide) (fun a S => ?_)
            refine lx_skip S rfl rfl rfl (by decide) (fun a S => ?_)
            refine lx_skip S rfl rfl rfl (by decide) (fun a S => ?_)
            refine lx_skip S rfl rfl (isB_ne hc1403) (by decide) (fun a S => ?_)
            refine lq (.bool true) S (q_pickT' rfl hc1403 rfl) fun a S => ?_
            refine lx_nil ?_
            obtain rfl := Option.some.inj hm
            have H := H.sel [1] (by decide)
            exact ⟨S.sub ⟨rfl, rfl, rfl, rfl, rfl, rfl, rfl, trivial⟩, H⟩
           ·have hm := ite_f (eq_false_of_ne_true hc1403) e1402
            have hc1403 : x1329 = false := eq_false_of_ne_true hc1403
            refine lx_q (pAdd (bp b1397) 0) S (want_b rfl rfl hc1403) (by decide) (q_fieldAddr' 0 2 rfl (isP_bp _) Tryz.underlying72 rfl Tryz.sizeOf2) (fun a S => ?_)
            refine lx_e (.int .i64 x1384.1) S (want_b rfl rfl hc1403) (by decide) rfl trivial (q_load1 rfl Tryz.isAgg2 (by rintro _ rfl; exact (At.of_add (m := 0) (j := 0) (boxAt (i := 0) H rfl (j := 0) rfl)))) (fun a S => ?_)
            refine lx_q (.int .i64 x1124) S (want_b rfl rfl hc1403) (by decide) (q_move rfl) (fun a S => ?_)
            refine lx_q (.bool (x1384.1 == x1124)) S (want_b rfl rfl hc1403) (by decide) (q_eql rfl rfl) (fun a S => ?_)
            refine lx_q (.bool (x1384.1 == x1124)) S (want_b rfl rfl hc1403) (by decide) (q_move rfl) (fun a S => ?_)
            obtain ⟨t1404, e1405, hm⟩ := bind_some hm
            refine lx_cut 3 (fun a w => Slots a 82 [(0, p0), (1, p1), (5, v53), (7, (.bool x1123)), (8, (.int .i64 x1124)), (10, (.int .i64 x1330)), (11, (bp b1397)), (59, (.bool x1329)), (67, (.bool t1404))] ∧ Heap w0 [bA b1397 [(.int .i64 x1384.1), (.int .i64 x1384.2.1), (.int .i64 x1384.2.2)] 72, oA (rList rBool) v53 xs1122] w) ?_ ?_
            ·by_cases hc1406 : (x1384.1 == x1124) = true
             ·have hm := ite_t hc1406 e1405
              refine lx_q p1 S (want_b rfl rfl hc1406) (by decide) (q_move rfl) (fun a S => ?_)
              obtain ⟨x1409, e1410, hm⟩ := bind_some hm
              refine lx_call (xs := [.tmp 11, .tmp 65]) S (want_b rfl rfl hc1406) (by decide) rfl rfl Tryz.call91 ((spec_l15Inert_ok (rdPtr_box H 0 rfl ⟨[(.int .i64 x1384.1)], [(.int .i64 x1384.2.1), (.int .i64 x1384.2.2)], rfl, rfl, ⟨[(.int .i64 x1384.2.1)], [(.int .i64 x1384.2.2)], rfl, rfl, rfl⟩⟩) (H.arg h1) e1410).mono ?_)
              rintro e w1407 ⟨rfl, Hc1408⟩
              have H := H.call0 Hc1408
              refine ⟨_, rfl, trivial, fun a S => ?_⟩
              refine lx_q (.bool x1409) S (want_b rfl rfl hc1403) (by decide) (q_pickT' rfl hc1406 rfl) (fun a S => ?_)
              refine lx_nil ?_
              obtain rfl := Option.some.inj hm
              exact ⟨S.sub ⟨rfl, rfl, rfl, rfl, rfl, rfl, rfl, rfl, rfl, trivial⟩, H⟩
             ·have hm := ite_f (eq_false_of_ne_true hc1406) e1405
              have hc1406 : (x1384.1 == x1124) = false := eq_false_of_ne_true hc1406
              refine lx_skip S rfl rfl (isB_ne hc1406) (by decide) (fun a S => ?_)
              refine lx_skip S rfl rfl (isB_ne hc1406) (by decide) (fun a S => ?_)
              refine lx_q (.bool false) S (want_b rfl rfl hc1403) (by decide) (q_pickF' rfl hc1406 rfl) (fun a S => ?_)
              refine lx_nil ?_
              obtain rfl := Option.some.inj hm
              exact ⟨S.sub ⟨rfl, rfl, rfl, rfl, rfl, rfl, rfl, rfl, rfl, trivial⟩, H⟩
            ·rintro a w ⟨S, H⟩
             refine lx_q (.bool t1404) S (want_b rfl rfl hc1403) (by decide) (q_move rfl) (fun a S => ?_)
             obtain ⟨t1412, e1413, hm⟩ := bind_some hm
             refine lx_cut 6 (fun a w => Slots a 82 [(0, p0), (1, p1), (5, v53), (7, (.bool x1123)), (8, (.int .i64 x1124)), (10, (.int .i64 x1330)), (59, (.bool x1329)), (74, (.bool t1412))] ∧ Heap w0 [oA (rList rBool) v53 xs1122] w) ?_ ?_
             ·by_cases hc1414 : t1404 = true
              ·have hm := ite_t hc1414 e1413
               refine lx_q v53 S (want_b rfl rfl hc1414) (by decide) (q_move rfl) (fun a S => ?_)
               refine lx_q (pAdd (bp b1397) 2) S (want_b rfl rfl hc1414) (by decide) (q_fieldAddr' 2 2 rfl (isP_bp _) Tryz.underlying72 rfl Tryz.sizeOf2) (fun a S => ?_)
               refine lx_e (.int .i64 x1384.2.2) S (want_b rfl rfl hc1414) (by decide) rfl trivial (q_load1 rfl Tryz.isAgg2 (by rintro _ rfl; exact (At.of_add (m := 2) (j := 0) (boxAt (i := 0) H rfl (j := 2) rfl)))) (fun a S => ?_)
               obtain ⟨x1415, e1416, hm⟩ := bind_some hm
               have hlt := lt_of_idx (idx_some e1416).2
               refine lx_q (ePtr v53 (x1384.2.2.toNat * 1)) S (want_b rfl rfl hc1414) (by decide) (q_indexAddr rfl (H.isSl 1 rfl) rfl (idx_some e1416).1 hlt Tryz.underlying93 Tryz.sizeOf4) (fun a S => ?_)
               obtain ⟨c1417, h1418, hat1419⟩ := (H.rdAt 1 rfl).elem (idx_some e1416).2
               obtain rfl := h1418
               refine lx_e (.bool x1415) S (want_b rfl rfl hc1414) (by decide) rfl trivial (q_load1 rfl Tryz.isAgg4 (by rintro _ rfl; exact (hat1419 0 _ rfl))) (fun a S => ?_)
               refine lx_q (.bool x1415) S (want_b rfl rfl hc1403) (by decide) (q_pickT' rfl hc1414 rfl) (fun a S => ?_)
               refine lx_nil ?_
               obtain rfl := Option.some.inj hm
               have H := H.sel [1] (by decide)
               exact ⟨S.sub ⟨rfl, rfl, rfl, rfl, rfl, rfl, rfl, rfl, trivial⟩, H⟩
              ·have hm := ite_f (eq_false_of_ne_true hc1414) e1413
               have hc1414 : t1404 = false := eq_false_of_ne_true hc1414
               refine lx_skip S rfl rfl (isB_ne hc1414) (by decide) (fun a S => ?_)
               refine lx_skip S rfl rfl (isB_ne hc1414) (by decide) (fun a S => ?_)
               refine lx_skip S rfl rfl (isB_ne hc1414) (by decide) (fun a S => ?_)
               refine lx_skip S rfl rfl (isB_ne hc1414) (by decide) (fun a S => ?_)
               refine lx_skip S rfl rfl (isB_ne hc1414) (by decide) (fun a S => ?_)
               refine lx_q (.bool false) S (want_b rfl rfl hc1403) (by decide) (q_pickF' rfl hc1414 rfl) (fun a S => ?_)
               refine lx_nil ?_
               obtain rfl := Option.some.inj hm
               have H := H.sel [1] (by decide)
               exact ⟨S.sub ⟨rfl, rfl, rfl, rfl, rfl, rfl, rfl, rfl, trivial⟩, H⟩
             ·rintro a w ⟨S, H⟩
              refine lq (.bool t1412) S (q_pickF' rfl hc1403 rfl) fun a S => ?_
              refine lx_nil ?_
              obtain rfl := Option.some.inj hm
              exact ⟨S.sub ⟨rfl, rfl, rfl, rfl, rfl, rfl, rfl, trivial⟩, H⟩
          ·rintro a w ⟨S, H⟩
           refine lq (.bool t1401) S (q_assign rfl) fun a S => ?_
           refine lx_nil ?_
           refine inBlock_norm ?_
           refine thenN ?_
           refine region_plain ?_
           refine lq (.int .i64 x1330) S (q_move rfl) fun a S => ?_
           refine lq (.int .i64 (W (x1330 + (1 : Int)))) S (q_add rfl rfl) fun a S => ?_
           refine lq (.int .i64 (W (x1330 + (1 : Int)))) S (q_assign rfl) fun a S => ?_
           refine lx_nil ?_
           exact ⟨m1380, Nat.lt_succ_self _, t1401, (W (x1330 + (1 : Int))), S.sub ⟨rfl, rfl, rfl, rfl, rfl, rfl, rfl, trivial⟩, H, it_cont hm hc1382⟩
         ·have hm := ite_f hc1383 hm
          refine wp_exit ?_
          refine then_exit ?_
          refine then_exit ?_
          refine inBlock_exit ?_
          obtain rfl := it_brk hm hc1382
          exact ⟨x1329, S.sub ⟨rfl, rfl, rfl, rfl, rfl, rfl, trivial⟩, H, rfl⟩
     ·have hm := ite_f hc1279 hm
      refine wp_exit ?_
      refine then_exit ?_
      refine then_exit ?_
      refine inBlock_exit ?_
      obtain rfl := it_brk hm hc1278
      exact ⟨xs1122, x1123, S.sub ⟨rfl, rfl, rfl, rfl, trivial⟩, H, rfl⟩
   ·have hm := ite_f hc977 hm
    refine wp_exit ?_
    refine then_exit ?_
    refine then_exit ?_
    refine inBlock_exit ?_
    obtain rfl := it_brk hm hc976
    exact ⟨xs521, S.sub ⟨rfl, trivial⟩, H, rfl⟩
 ·skip
  refine loop_ghost (fun n a w => ∃ (xs62 : List Bool) (x63 : Int), Slots a 82 [(0, p0), (1, p1), (5, v53), (6, (.int .i64 x63))] ∧ Heap w0 [oA (rList rBool) v53 xs62] w ∧ iter f73 n (xs62, x63) = some res71) _ ⟨(List.replicate m52 false), (0 : Int), S.sub ⟨rfl, rfl, rfl, rfl, trivial⟩, H, hit72⟩ ?_
  rintro n a w ⟨xs62, x63, S, H, hit72⟩
  obtain ⟨m1420, o1421, rfl, hm, hc1422⟩ := iter_step hit72
  rw [hf74] at hm
  refine wp_seq (wp_seq (region_plain ?_))
  refine lq (.int .i64 x63) S (q_move rfl) fun a S => ?_
  refine lq p0 S (q_move rfl) fun a S => ?_
  refine lq p0 S (q_nilCheck rfl ((hat33 0 _ rfl).isP)) fun a S => ?_
  refine lq (pAdd p0 0) S (q_fieldAddr' 0 2 rfl ((hat33 0 _ rfl).isP) Tryz.underlying30 rfl Tryz.sizeOf2) fun a S => ?_
  refine lx_e (.int .i64 a0.1) S trivial (by decide) rfl trivial (q_load1 rfl Tryz.isAgg2 (by rintro _ rfl; exact (At.of_add (m := 0) (j := 0) ((hat33 0 _ rfl).ext H.ext)))) (fun a S => ?_)
  refine lq (.bool (decide (x63 < a0.1))) S (q_lss rfl rfl) fun a S => ?_
  refine lx_nil (thenN ?_)
  refine cond_b S rfl (fun hc1423 => ?_) (fun hc1423 => ?_)
  ·have hm := ite_t hc1423 hm
   refine wp_skip (thenN ?_)
   refine wp_seq ?_
   refine wp_block ?_
   refine region_plain ?_
   refine lq v53 S (q_move rfl) fun a S => ?_
   refine lq (.int .i64 x63) S (q_move rfl) fun a S => ?_
   obtain ⟨x1424, e1425, hm⟩ := bind_some hm
   have hlt := lt_of_idx (idx_some e1425).2
   refine lq (ePtr v53 (x63.toNat * 1)) S (q_indexAddr rfl (H.isSl 0 rfl) rfl (idx_some e1425).1 hlt Tryz.underlying93 Tryz.sizeOf4) fun a S => ?_
   refine lx_storeElem (r := rBool) (us := [(.bool true)]) (off := 0) (e' := true) S trivial rfl H.putE (ev_zero rfl) rfl (idx_some e1425).2 rfl Tryz.sizeOf4 (Nat.le_of_ble_eq_true rfl) (List.forall_mem_cons.2 ⟨rfl, (fun _ h => nomatch h)⟩) (Upd.full rfl (fun w G hG => by cases (show G = [] from hG); exact ⟨rfl, rfl⟩)) (fun w1426 H => ⟨trivial, fun a S => ?_⟩)
   refine lx_nil ?_
   refine inBlock_norm ?_
   refine thenN ?_
   refine region_plain ?_
   refine lq (.int .i64 x63) S (q_move rfl) fun a S => ?_
   refine lq (.int .i64 (W (x63 + (1 : Int)))) S (q_add rfl rfl) fun a S => ?_
   refine lq (.int .i64 (W (x63 + (1 : Int)))) S (q_assign rfl) fun a S => ?_
   refine lx_nil ?_
   exact ⟨m1420, Nat.lt_succ_self _, (xs62.set x63.toNat true), (W (x63 + (1 : Int))), S.sub ⟨rfl, rfl, rfl, rfl, trivial⟩, H, it_cont hm hc1422⟩
  ·have hm := ite_f hc1423 hm
   refine wp_exit ?_
   refine then_exit ?_
   refine then_exit ?_
   refine inBlock_exit ?_
   obtain rfl := it_brk hm hc1422
   exact ⟨xs62, S.sub ⟨rfl, rfl, rfl, trivial⟩, H, rfl⟩

/-- spec.l15True -/
def spec_l15True_m (fuel : Nat) (a0 : (List Bool)) : Option ((List Int)) :=
  (iter (fun (s : (List Int) × (Int)) => (match s with | (xs59, x61) => (if (decide (x61 < (a0.length : Int))) = true then join (κ := List Int → Option (((List Int) × (Int)) ⊕ (((List Int)) ⊕ ((List Int))))) (fun (xs99 : List Int) => some (.inl (xs99, (W (x61 + (1 : Int)))))) (fun K101 => (idx a0 x61).bind fun x103 => (if x103 = true then (app xs59 [x61]).bind fun x112 => (K101 x112) else (K101 xs59))) else some (.inr (.inl (xs59)))) : Option (((List Int) × (Int)) ⊕ (((List Int)) ⊕ ((List Int)))))) fuel (([] : List Int), (0 : Int))).bind fun res89 => ctl (β := (List Int)) (ρ := (List Int)) (τ := (List Int)) res89 (fun (xs87) => some (xs87)) (fun q => some (q))
set_option maxRecDepth 20000 in
theorem spec_l15True_ok {w0 : World} {fuel : Nat} {p0 : Value} {a0 : (List Bool)} {r : (List Int)} (h0 : Rd (rList rBool) w0 p0 a0) (hm : spec_l15True_m fuel a0 = some r) :
  Calls Tryz.prog 94 #[p0] w0 fun e w => ∃ (v0 : Value), e = .returned (v0) ∧ Heap w0 [oA (rList (rInt .i64)) v0 r] w := by
 unfold spec_l15True_m at hm
 have H := Heap.start w0
 refine enter (args := [p0]) Tryz.func94 rfl 21 rfl (Nat.le_of_ble_eq_true rfl) (fun a S => ?_)
 refine wp_seq (region_plain ?_)
 refine lq (.slice none 0 0) S (q_assign rfl) fun a S => ?_
 refine lx_nil (thenN ?_)
 refine wp_seq (region_plain ?_)
 refine lx_buildSlice0 (r := (rInt .i64)) S trivial (by decide) rfl H Tryz.underlying34 Tryz.sizeOf2 (fun v31 w32 H => ⟨trivial, fun a S => ?_⟩)
 refine lq v31 S (q_assign rfl) fun a S => ?_
 refine lx_nil (thenN ?_)
 refine wp_seq (wp_seq (region_plain ?_))
 refine lq (.int .i64 (0 : Int)) S (q_assign rfl) fun a S => ?_
 refine lx_nil (thenN ?_)
 obtain ⟨res89, hit90, hk93⟩ := bind_some hm
 obtain ⟨f91, hf92, hit90⟩ := iter_name hit90
 refine block_loop (fun a w => ∃ (xs87 : List Int) (v86 : Value), Slots a 21 [(3, v86)] ∧ Heap w0 [oA (rList (rInt .i64)) v86 xs87] w ∧ res89 = .inl (xs87)) ?_ ?_
 ·rintro a w ⟨xs87, v86, S, H, rfl⟩
  have hm := ctl_inl hk93
  refine thenN ?_
  refine wp_seq (region_plain ?_)
  refine lq v86 S (q_move rfl) fun a S => ?_
  refine lq v86 S (q_assign rfl) fun a S => ?_
  refine lx_nil (thenN ?_)
  refine wp_ret ?_
  obtain rfl := Option.some.inj hm
  exact leave1 S rfl rfl ⟨v86, rfl, H⟩
 ·skip
  refine loop_ghost (fun n a w => ∃ (xs59 : List Int) (x61 : Int) (v58 : Value), Slots a 21 [(0, p0), (3, v58), (4, (.int .i64 x61))] ∧ Heap w0 [oA (rList (rInt .i64)) v58 xs59] w ∧ iter f91 n (xs59, x61) = some res89) _ ⟨([] : List Int), (0 : Int), v31, S.sub ⟨rfl, rfl, rfl, trivial⟩, H, hit90⟩ ?_
  rintro n a w ⟨xs59, x61, v58, S, H, hit90⟩
  obtain ⟨m94, o95, rfl, hm, hc96⟩ := iter_step hit90
  rw [hf92] at hm
  refine wp_seq (wp_seq (region_plain ?_))
  refine lq (.int .i64 x61) S (q_move rfl) fun a S => ?_
  refine lq p0 S (q_move rfl) fun a S => ?_
  refine lq (.int .i64 (a0.length : Int)) S (q_lenSl rfl (h0).isSl rfl Tryz.underlying93) fun a S => ?_
  refine lq (.bool (decide (x61 < (a0.length : Int)))) S (q_lss rfl rfl) fun a S => ?_
  refine lx_nil (thenN ?_)
  refine cond_b S rfl (fun hc97 => ?_) (fun hc97 => ?_)
  ·have hm := ite_t hc97 hm
   refine wp_skip (thenN ?_)
   obtain ⟨K101, hK102, hm⟩ := join_elim hm
   refine seq_cut (fun a w => ∃ (xs99 : List Int) (v98 : Value), Slots a 21 [(0, p0), (3, v98), (4, (.int .i64 x61))] ∧ Heap w0 [oA (rList (rInt .i64)) v98 xs99] w ∧ K101 xs99 = some o95) ?_ ?_
   ·rintro a w ⟨xs99, v98, S, H, hm⟩
    subst hK102
    refine region_plain ?_
    refine lq (.int .i64 x61) S (q_move rfl) fun a S => ?_
    refine lq (.int .i64 (W (x61 + (1 : Int)))) S (q_add rfl rfl) fun a S => ?_
    refine lq (.int .i64 (W (x61 + (1 : Int)))) S (q_assign rfl) fun a S => ?_
    refine lx_nil ?_
    exact ⟨m94, Nat.lt_succ_self _, xs99, (W (x61 + (1 : Int))), v98, S.sub ⟨rfl, rfl, rfl, trivial⟩, H, it_cont hm hc96⟩
   ·skip
    refine wp_block ?_
    refine wp_seq (region_plain ?_)
    refine lq p0 S (q_move rfl) fun a S => ?_
    refine lq (.int .i64 x61) S (q_move rfl) fun a S => ?_
    obtain ⟨x103, e104, hm⟩ := bind_some hm
    obtain ⟨c105, h106, hat107⟩ := (h0).elem (idx_some e104).2
    obtain rfl := h106
    have hlt := lt_of_idx (idx_some e104).2
    refine lq (ePtr p0 (x61.toNat * 1)) S (q_indexAddr rfl (h0).isSl rfl (idx_some e104).1 hlt Tryz.underlying93 Tryz.sizeOf4) fun a S => ?_
    refine lx_e (.bool x103) S trivial (by decide) rfl trivial (q_load1 rfl Tryz.isAgg4 (by rintro _ rfl; exact ((hat107 0 _ rfl).ext H.ext))) (fun a S => ?_)
    refine lx_nil (thenN ?_)
    refine cond_b S rfl (fun hc108 => ?_) (fun hc108 => ?_)
    ·have hm := ite_t hc108 hm
     refine region_plain ?_
     refine lq v58 S (q_move rfl) fun a S => ?_
     refine lq (.int .i64 x61) S (q_move rfl) fun a S => ?_
     refine lx_buildSlice (r := (rInt .i64)) (xs := [x61]) (ps := [(0, [(.int .i64 x61)])]) (cs := [(.int .i64 x61)]) (parts := [(0, .tmp 17)]) S trivial (by decide) rfl (H.put0 (A := eA) rfl) rfl Tryz.underlying34 Tryz.sizeOf2 Tryz.zeroValue2 (by decide) ⟨rfl, rfl, Nat.le_of_ble_eq_true rfl, trivial⟩ (by intro zs hz; exact fill_dense hz ⟨rfl, trivial⟩ rfl rfl) rfl (by decide) (fun w F hA => by cases (show F = [] from hA); exact ⟨_, _, [(.int .i64 x61)], _, rfl, rfl, ⟨rfl, rfl⟩, ⟨rfl, rfl⟩⟩) (fun v109 w110 H => ⟨trivial, fun a S => ?_⟩)
     obtain ⟨x112, e113, hm⟩ := bind_some hm
     obtain ⟨hle, hap⟩ := app_some e113
     replace hap := hap.symm
     subst hap
     have H : Heap w0 [oA (rList (rInt .i64)) v109 [x61], oA (rList (rInt .i64)) v58 xs59] w110 := H.front 0 rfl
     have H : Heap w0 [oA (rList (rInt .i64)) v58 xs59, oA (rList (rInt .i64)) v109 [x61]] w110 := H.front 1 rfl
     refine lx_appendOwn (r := (rInt .i64)) S trivial (by decide) rfl H rfl rfl Tryz.underlying34 Tryz.ti2 rfl rfl rfl (by decide) (by decide) hle (fun v114 w115 H => ⟨trivial, fun a S => ?_⟩)
     refine lq v114 S (q_assign rfl) fun a S => ?_
     refine lx_nil ?_
     refine inBlock_norm ?_
     exact ⟨(xs59 ++ [x61]), v114, S.sub ⟨rfl, rfl, rfl, trivial⟩, H, hm⟩
    ·have hm := ite_f hc108 hm
     refine wp_skip ?_
     refine inBlock_norm ?_
     exact ⟨xs59, v58, S.sub ⟨rfl, rfl, rfl, trivial⟩, H, hm⟩
  ·have hm := ite_f hc97 hm
   refine wp_exit ?_
   refine then_exit ?_
   refine then_exit ?_
   refine inBlock_exit ?_
   obtain rfl := it_brk hm hc96
   exact ⟨xs59, v58, S.sub ⟨rfl, trivial⟩, H, rfl⟩

/-- spec.DivergentStates -/
def spec_DivergentStates_m (fuel : Nat) (a0 : Timpl_Lts) : Option (((List Int) × Int)) :=
  (spec_l11Is_m fuel (a0.1, a0.2.1, a0.2.2.1, a0.2.2.2)).bind fun x54 => (if (!x54) = true then some (([], (1 : Int))) else (mks a0.1 (0 : Int)).bind fun x59 => (spec_l15Diverge_m fuel (a0.1, a0.2.1, a0.2.2.1, a0.2.2.2) x59).bind fun x67 => (spec_l15True_m fuel x67).bind fun x74 => some ((x74, (0 : Int))))
set_option maxRecDepth 20000 in
theorem spec_DivergentStates_ok {w0 : World} {fuel : Nat} {p0 : Value} {a0 : Timpl_Lts} {r : ((List Int) × Int)} (h0 : Rd Rimpl_Lts w0 p0 a0) (hm : spec_DivergentStates_m fuel a0 = some r) :
  Calls Tryz.prog 47 #[p0] w0 fun e w => ∃ (v0 : Value), e = .returned (.tuple #[v0, .int .i64 r.2]) ∧ Heap w0 [oA (rList (rInt .i64)) v0 r.1] w := by
 unfold spec_DivergentStates_m at hm
 have H := Heap.start w0
 obtain ⟨c31, rfl, h32⟩ := h0
 obtain ⟨c37, c38, rfl, h39, h40⟩ := h32
 obtain rfl := h39
 obtain ⟨c41, c42, rfl, h43, h44⟩ := h40
 obtain rfl := h43
 obtain ⟨c45, c46, rfl, h47, h48⟩ := h44
 obtain ⟨v33, rfl, h34⟩ := rd_list h47
 obtain ⟨v35, rfl, h36⟩ := rd_list h48
 refine enter (args := [(.agg #[(.int .i64 a0.1), (.int .i64 a0.2.1), v33, v35])]) Tryz.func47 rfl 11 rfl (Nat.le_of_ble_eq_true rfl) (fun a S => ?_)
 refine wp_seq (region_plain ?_)
 refine lx_box S trivial (by decide) rfl H rfl rfl (fun b49 w50 H => ⟨trivial, fun a S => ?_⟩)
 refine lq (.slice none 0 0) S (q_assign rfl) fun a S => ?_
 refine lq (.int .i64 (0 : Int)) S (q_assign rfl) fun a S => ?_
 refine lx_nil (thenN ?_)
 refine wp_seq (wp_seq (region_plain ?_))
 obtain ⟨x54, e55, hm⟩ := bind_some hm
 refine lx_call (xs := [.tmp 1]) S trivial (by decide) rfl rfl Tryz.call70 ((spec_l11Is_ok (rdPtr_box H 0 rfl ⟨[(.int .i64 a0.1)], [(.int .i64 a0.2.1), v33, v35], rfl, rfl, ⟨[(.int .i64 a0.2.1)], [v33, v35], rfl, rfl, ⟨[v33], [v35], rfl, ((H.arg h34)).list_rd, ((H.arg h36)).list_rd⟩⟩⟩) e55).mono ?_)
 rintro e w52 ⟨rfl, Hc53⟩
 have H := H.call0 Hc53
 refine ⟨_, rfl, trivial, fun a S => ?_⟩
 refine lq (.bool (!x54)) S (q_not rfl) fun a S => ?_
 refine lx_nil (thenN ?_)
 refine cond_b S rfl (fun hc57 => ?_) (fun hc57 => ?_)
 ·have hm := ite_t hc57 hm
  refine wp_seq (region_plain ?_)
  refine lq (.slice none 0 0) S (q_assign rfl) fun a S => ?_
  refine lq (.int .i64 (1 : Int)) S (q_assign rfl) fun a S => ?_
  refine lx_nil (thenN ?_)
  refine wp_ret (then_ret ?_)
  obtain rfl := Option.some.inj hm
  have H : Heap w0 [oA (rList (rInt .i64)) (.slice none 0 0) ([] : List Int), bA b49 [(.int .i64 a0.1), (.int .i64 a0.2.1), v33, v35] 30] w52 := H.nilList (rInt .i64)
  have H : Heap w0 [oA (rList (rInt .i64)) (.slice none 0 0) ([] : List Int)] w52 := H.sel [0] (by decide)
  exact leave2 S rfl rfl rfl ⟨(.slice none 0 0), rfl, H⟩
 ·have hm := ite_f hc57 hm
  refine wp_skip (thenN ?_)
  refine wp_seq (region_plain ?_)
  refine lq (pAdd (bp b49) 0) S (q_fieldAddr' 0 2 rfl (isP_bp _) Tryz.underlying30 rfl Tryz.sizeOf2) fun a S => ?_
  refine lx_e (.int .i64 a0.1) S trivial (by decide) rfl trivial (q_load1 rfl Tryz.isAgg2 (by rintro _ rfl; exact (At.of_add (m := 0) (j := 0) (boxAt (i := 0) H rfl (j := 0) rfl)))) (fun a S => ?_)
  obtain ⟨x59, e60, hm⟩ := bind_some hm
  obtain ⟨m61, hn, hn2, rfl⟩ := mks_some e60
  refine lx_make (r := (rInt .i64)) (z0 := (0 : Int)) (n := m61) S trivial (by decide) rfl H (by rw [← hn]; rfl) (by rw [← hn]; rfl) Tryz.underlying34 (Tryz.ti2) rfl rfl (by decide) (fun w => ⟨rfl, rfl⟩) hn2 (by decide) (fun v62 w63 H => ⟨trivial, fun a S => ?_⟩)
  obtain ⟨x67, e68, hm⟩ := bind_some hm
  refine lx_call (xs := [.tmp 1, .tmp 8]) S trivial (by decide) rfl rfl Tryz.call95 ((spec_l15Diverge_ok (rdPtr_box H 1 rfl ⟨[(.int .i64 a0.1)], [(.int .i64 a0.2.1), v33, v35], rfl, rfl, ⟨[(.int .i64 a0.2.1)], [v33, v35], rfl, rfl, ⟨[v33], [v35], rfl, ((H.arg h34)).list_rd, ((H.arg h36)).list_rd⟩⟩⟩) (H.rdAt 0 rfl) e68).mono ?_)
  rintro e w65 ⟨v69, rfl, Hc66⟩
  have H := H.call1 Hc66
  refine ⟨_, rfl, trivial, fun a S => ?_⟩
  obtain ⟨x74, e75, hm⟩ := bind_some hm
  refine lx_call (xs := [.tmp 9]) S trivial (by decide) rfl rfl Tryz.call94 ((spec_l15True_ok (H.rdAt 0 rfl) e75).mono ?_)
  rintro e w72 ⟨v76, rfl, Hc73⟩
  have H := H.call1 Hc73
  refine ⟨_, rfl, trivial, fun a S => ?_⟩
  refine lq v76 S (q_assign rfl) fun a S => ?_
  refine lq (.int .i64 (0 : Int)) S (q_assign rfl) fun a S => ?_
  refine lx_nil (thenN ?_)
  refine wp_ret ?_
  obtain rfl := Option.some.inj hm
  have H : Heap w0 [oA (rList (rInt .i64)) v76 x74] w72 := H.sel [0] (by decide)
  exact leave2 S rfl rfl rfl ⟨v76, rfl, H⟩

/-- slices.Repeat[[]bool,bool] -/
def slices_Repeat__bool_bool_m (fuel : Nat) (a0 : (List Bool)) (a1 : Int) : Option ((List Bool)) :=
  join (κ := Option (List Bool)) ((math_bits_Mul_m fuel (IntKind.u64.wrap (a0.length : Int)) (IntKind.u64.wrap a1)).bind fun x35 => join (κ := Option (List Bool)) ((mks (W x35.2) false).bind fun x40 => (iter (fun (s : (List Bool) × (Int)) => (match s with | (xs57, x58) => (if (decide (x58 < (xs57.length : Int))) = true then (sub xs57 x58 (xs57.length : Int)).bind fun xs81 => (sub xs57 (0 : Int) x58).bind fun xs83 => some (.inl ((cpy xs57 (x58).toNat xs81.length xs83), (W (x58 + (((min xs83.length xs81.length : Nat) : Nat) : Int))))) else some (.inr (.inl (xs57)))) : Option (((List Bool) × (Int)) ⊕ (((List Bool)) ⊕ ((List Bool)))))) fuel ((cpy x40 ((0 : Int)).toNat x40.length a0), (((min a0.length x40.length : Nat) : Nat) : Int))).bind fun res70 => ctl (β := (List Bool)) (ρ := (List Bool)) (τ := (List Bool)) res70 (fun (xs69) => some (xs69)) (fun q => some (q))) (fun K38 => (if (decide ((0 : Int) < x35.1)) = true then some true else some (decide ((9223372036854775807 : Int) < x35.2))).bind fun t86 => (if t86 = true then none else K38))) (fun K31 => (if (decide (a1 < (0 : Int))) = true then none else K31))
set_option maxRecDepth 20000 in
theorem slices_Repeat__bool_bool_ok {w0 : World} {fuel : Nat} {p0 : Value} {a0 : (List Bool)} {a1 : Int} {r : (List Bool)} (h0 : Rd (rList rBool) w0 p0 a0) (hm : slices_Repeat__bool_bool_m fuel a0 a1 = some r) :
  Calls Tryz.prog 138 #[p0, .int .i64 a1] w0 fun e w => ∃ (v0 : Value), e = .returned (v0) ∧ Heap w0 [oA (rList rBool) v0 r] w := by
 unfold slices_Repeat__bool_bool_m at hm
 have H := Heap.start w0
 refine enter (args := [p0, .int .i64 a1]) Tryz.func138 rfl 48 rfl (Nat.le_of_ble_eq_true rfl) (fun a S => ?_)
 refine wp_seq (region_plain ?_)
 refine lq (.slice none 0 0) S (q_assign rfl) fun a S => ?_
 refine lx_nil (thenN ?_)
 obtain ⟨K31, hK32, hm⟩ := join_elim hm
 refine seq_cut (fun a w => Slots a 48 [(0, p0), (1, (.int .i64 a1))] ∧ Heap w0 [] w ∧ K31 = some r) ?_ ?_
 ·rintro a w ⟨S, H, hm⟩
  subst hK32
  refine wp_seq (region_plain ?_)
  refine lq p0 S (q_move rfl) fun a S => ?_
  refine lq (.int .i64 (a0.length : Int)) S (q_lenSl rfl (h0).isSl rfl Tryz.underlying93) fun a S => ?_
  refine lq (.int .u64 (IntKind.u64.wrap (a0.length : Int))) S (q_convInt rfl Tryz.underlying3 Tryz.underlying148) fun a S => ?_
  refine lq (.int .i64 a1) S (q_move rfl) fun a S => ?_
  refine lq (.int .u64 (IntKind.u64.wrap a1)) S (q_convInt rfl Tryz.underlying3 Tryz.underlying148) fun a S => ?_
  obtain ⟨x35, e36, hm⟩ := bind_some hm
  refine lx_call (xs := [.tmp 15, .tmp 17]) S trivial (by decide) rfl rfl Tryz.call165 ((math_bits_Mul_ok   e36).mono ?_)
  rintro e w33 ⟨rfl, Hc34⟩
  have H := H.call0 Hc34
  refine ⟨_, rfl, trivial, fun a S => ?_⟩
  refine lq (.tuple #[(.int .u64 x35.1), (.int .u64 x35.2)]) S (q_move rfl) fun a S => ?_
  refine lq (.int .u64 x35.1) S (q_extract rfl rfl) fun a S => ?_
  refine lq (.int .u64 x35.2) S (q_extract rfl rfl) fun a S => ?_
  refine lq (.int .u64 x35.1) S (q_assign rfl) fun a S => ?_
  refine lq (.int .u64 x35.2) S (q_assign rfl) fun a S => ?_
  refine lx_nil (thenN ?_)
  obtain ⟨K38, hK39, hm⟩ := join_elim hm
  refine seq_cut (fun a w => Slots a 48 [(0, p0), (6, (.int .u64 x35.2))] ∧ Heap w0 [] w ∧ K38 = some r) ?_ ?_
  ·rintro a w ⟨S, H, hm⟩
   subst hK39
   refine wp_seq (region_plain ?_)
   refine lq (.int .u64 x35.2) S (q_move rfl) fun a S => ?_
   refine lq (.int .i64 (W x35.2)) S (q_convInt rfl Tryz.underlying148 Tryz.underlying3) fun a S => ?_
   obtain ⟨x40, e41, hm⟩ := bind_some hm
   obtain ⟨m42, hn, hn2, rfl⟩ := mks_some e41
   refine lx_make (r := rBool) (z0 := false) (n := m42) S trivial (by decide) rfl H (by rw [← hn]; rfl) (by rw [← hn]; rfl) Tryz.underlying93 (Tryz.ti4) rfl rfl (by decide) (fun w => ⟨rfl, rfl⟩) hn2 (by decide) (fun v43 w44 H => ⟨trivial, fun a S => ?_⟩)
   refine lq v43 S (q_assign rfl) fun a S => ?_
   refine lx_nil (thenN ?_)
   refine wp_seq (region_plain ?_)
   refine lq v43 S (q_move rfl) fun a S => ?_
   refine lq p0 S (q_move rfl) fun a S => ?_
   have hR := (H.arg h0)
   have hS := sub_self (xs := (List.replicate m42 false))
   have hxv := subV_self' (s := (rBool).size) (H.isSl 0 rfl)
   refine lx_copy (r := rBool) (lo := (0 : Int)) (hi := ((List.replicate m42 false).length : Int)) S trivial (by decide) rfl H flat_bool (by rw [hxv]; rfl) rfl hS hR Tryz.underlying93 Tryz.sizeOf4 (fun w46 H => ⟨trivial, fun a S => ?_⟩)
   refine lq (.int .i64 (((min a0.length (List.replicate m42 false).length : Nat) : Nat) : Int)) S (q_assign rfl) fun a S => ?_
   refine lx_nil (thenN ?_)
   refine wp_seq ?_
   obtain ⟨res70, hit71, hk74⟩ := bind_some hm
   obtain ⟨f72, hf73, hit71⟩ := iter_name hit71
   refine block_loop (fun a w => ∃ (xs69 : List Bool), Slots a 48 [(7, v43)] ∧ Heap w0 [oA (rList rBool) v43 xs69] w ∧ res70 = .inl (xs69)) ?_ ?_
   ·rintro a w ⟨xs69, S, H, rfl⟩
    have hm := ctl_inl hk74
    refine thenN ?_
    refine wp_seq (region_plain ?_)
    refine lq v43 S (q_move rfl) fun a S => ?_
    refine lq v43 S (q_assign rfl) fun a S => ?_
    refine lx_nil (thenN ?_)
    refine wp_ret ?_
    obtain rfl := Option.some.inj hm
    exact leave1 S rfl rfl ⟨v43, rfl, H⟩
   ·skip
    refine loop_ghost (fun n a w => ∃ (xs57 : List Bool) (x58 : Int), Slots a 48 [(7, v43), (8, (.int .i64 x58))] ∧ Heap w0 [oA (rList rBool) v43 xs57] w ∧ iter f72 n (xs57, x58) = some res70) _ ⟨(cpy (List.replicate m42 false) ((0 : Int)).toNat (List.replicate m42 false).length a0), (((min a0.length (List.replicate m42 false).length : Nat) : Nat) : Int), S.sub ⟨rfl, rfl, trivial⟩, H, hit71⟩ ?_
    rintro n a w ⟨xs57, x58, S, H, hit71⟩
    obtain ⟨m75, o76, rfl, hm, hc77⟩ := iter_step hit71
    rw [hf73] at hm
    refine wp_seq (wp_seq (region_plain ?_))
    refine lq (.int .i64 x58) S (q_move rfl) fun a S => ?_
    refine lq v43 S (q_move rfl) fun a S => ?_
    refine lq (.int .i64 (xs57.length : Int)) S (q_lenSl rfl (H.isSl 0 rfl) rfl Tryz.underlying93) fun a S => ?_
    refine lq (.bool (decide (x58 < (xs57.length : Int)))) S (q_lss rfl rfl) fun a S => ?_
    refine lx_nil (thenN ?_)
    refine cond_b S rfl (fun hc78 => ?_) (fun hc78 => ?_)
    ·have hm := ite_t hc78 hm
     refine wp_skip (thenN ?_)
     refine wp_block ?_
     refine region_drawG (fun w1 => Heap w0 [] w1) (fun i => [7].contains i) mixed (by kernel_rfl) (fun w80 he79 => ?_)
     have H := H.later he79
     refine ⟨H.sel [] (by decide), ?_⟩
     refine lq (.int .i64 x58) S (q_move rfl) fun a S => ?_
     refine lq v43 S (q_move rfl) fun a S => ?_
     refine lq (.int .i64 x58) S (q_move rfl) fun a S => ?_
     obtain ⟨xs81, e82, hm⟩ := bind_some hm
     have hsb := (sub_some e82).1
     refine lq (subV v43 (x58).toNat ((xs57.length : Int)).toNat 1) S (q_slice (lo := (some (.tmp 40))) (hi := none) (l := x58) (h := (xs57.length : Int)) (size := 1) rfl (H.isSl 0 rfl) Tryz.underlying93 Tryz.sizeOf4 rfl rfl hsb.1 hsb.2.1 hsb.2.2) fun a S => ?_
     refine lq v43 S (q_move rfl) fun a S => ?_
     refine lq (.int .i64 x58) S (q_move rfl) fun a S => ?_
     obtain ⟨xs83, e84, hm⟩ := bind_some hm
     have hsb := (sub_some e84).1
     refine lq (subV v43 ((0 : Int)).toNat (x58).toNat 1) S (q_slice (lo := none) (hi := (some (.tmp 43))) (l := (0 : Int)) (h := x58) (size := 1) rfl (H.isSl 0 rfl) Tryz.underlying93 Tryz.sizeOf4 rfl rfl hsb.1 hsb.2.1 hsb.2.2) fun a S => ?_
     have hR := ((H.rdAt 0 rfl).sub e84)
     have hS := e82
     refine lx_copy (r := rBool) (lo := x58) (hi := (xs57.length : Int)) S trivial (by decide) rfl H flat_bool rfl rfl hS hR Tryz.underlying93 Tryz.sizeOf4 (fun w85 H => ⟨H.sel [] (by decide), fun a S => ?_⟩)
     refine lq (.int .i64 (W (x58 + (((min xs83.length xs81.length : Nat) : Nat) : Int)))) S (q_add rfl rfl) fun a S => ?_
     refine lq (.int .i64 (W (x58 + (((min xs83.length xs81.length : Nat) : Nat) : Int)))) S (q_assign rfl) fun a S => ?_
     refine lx_nil ?_
     refine inBlock_norm ?_
     exact ⟨m75, Nat.lt_succ_self _, (cpy xs57 (x58).toNat xs81.length xs83), (W (x58 + (((min xs83.length xs81.length : Nat) : Nat) : Int))), S.sub ⟨rfl, rfl, trivial⟩, H, it_cont hm hc77⟩
    ·have hm := ite_f hc78 hm
     refine wp_exit ?_
     refine then_exit ?_
     refine then_exit ?_
     refine inBlock_exit ?_
     obtain rfl := it_brk hm hc77
     exact ⟨xs57, S.sub ⟨rfl, trivial⟩, H, rfl⟩
  ·skip
   refine wp_seq (region_plain ?_)
   refine lq (.int .u64 x35.1) S (q_move rfl) fun a S => ?_
   refine lq (.bool (decide ((0 : Int) < x35.1))) S (q_gtr rfl rfl) fun a S => ?_
   refine lq (.bool (decide ((0 : Int) < x35.1))) S (q_move rfl) fun a S => ?_
   obtain ⟨t86, e87, hm⟩ := bind_some hm
   refine lx_cut 3 (fun a w => Slots a 48 [(0, p0), (6, (.int .u64 x35.2)), (26, (.bool t86))] ∧ Heap w0 [] w) ?_ ?_
   ·by_cases hc88 : (decide ((0 : Int) < x35.1)) = true
    ·have hm := ite_t hc88 e87
     refine lx_skip S rfl rfl (isB_ne hc88) (by decide) (fun a S => ?_)
     refine lx_skip S rfl rfl (isB_ne hc88) (by decide) (fun a S => ?_)
     refine lq (.bool true) S (q_pickT' rfl hc88 rfl) fun a S => ?_
     refine lx_nil ?_
     obtain rfl := Option.some.inj hm
     exact ⟨S.sub ⟨rfl, rfl, rfl, trivial⟩, H⟩
    ·have hm := ite_f (eq_false_of_ne_true hc88) e87
     have hc88 : (decide ((0 : Int) < x35.1)) = false := eq_false_of_ne_true hc88
     refine lx_q (.int .u64 x35.2) S (want_b rfl rfl hc88) (by decide) (q_move rfl) (fun a S => ?_)
     refine lx_q (.bool (decide ((9223372036854775807 : Int) < x35.2))) S (want_b rfl rfl hc88) (by decide) (q_gtr rfl rfl) (fun a S => ?_)
     refine lq (.bool (decide ((9223372036854775807 : Int) < x35.2))) S (q_pickF' rfl hc88 rfl) fun a S => ?_
     refine lx_nil ?_
     obtain rfl := Option.some.inj hm
     exact ⟨S.sub ⟨rfl, rfl, rfl, trivial⟩, H⟩
   ·rintro a w ⟨S, H⟩
    refine lx_nil (thenN ?_)
    refine cond_b S rfl (fun hc89 => ?_) (fun hc89 => ?_)
    ·have hm := ite_t hc89 hm
     refine region_plain ?_
     cases hm
    ·have hm := ite_f hc89 hm
     refine wp_skip ?_
     exact ⟨S.sub ⟨rfl, rfl, trivial⟩, H, hm⟩
 ·skip
  refine wp_seq (region_plain ?_)
  refine lq (.int .i64 a1) S (q_move rfl) fun a S => ?_
  refine lq (.bool (decide (a1 < (0 : Int)))) S (q_lss rfl rfl) fun a S => ?_
  refine lx_nil (thenN ?_)
  refine cond_b S rfl (fun hc90 => ?_) (fun hc90 => ?_)
  ·have hm := ite_t hc90 hm
   refine region_plain ?_
   cases hm
  ·have hm := ite_f hc90 hm
   refine wp_skip ?_
   exact ⟨S.sub ⟨rfl, rfl, trivial⟩, H, hm⟩

/-- (impl.Lts).divergent$1 -/
def impl_Lts_divergent_1_m (_ : Nat) (a0 : Timpl_Edge) (a1 : (List Bool)) : Option (Bool) :=
  (if (a0.2.1 == (0 : Int)) = true then (idx a1 a0.2.2).bind fun x52 => some x52 else some false).bind fun t49 => some (t49)
set_option maxRecDepth 20000 in
theorem impl_Lts_divergent_1_ok {w0 : World} {fuel : Nat} {p0 p1 : Value} {a0 : Timpl_Edge} {a1 : (List Bool)} {r : Bool} (h0 : Rd Rimpl_Edge w0 p0 a0) (h1 : Rd (rPtr (rList rBool)) w0 p1 a1) (hm : impl_Lts_divergent_1_m fuel a0 a1 = some r) :
  Calls Tryz.prog 140 #[p0, p1] w0 fun e w => e = .returned (.bool r) ∧ Heap w0 [] w := by
 unfold impl_Lts_divergent_1_m at hm
 have H := Heap.start w0
 obtain ⟨c31, rfl, h32⟩ := h0
 obtain ⟨c33, c34, rfl, h35, h36⟩ := h32
 obtain rfl := h35
 obtain ⟨c37, c38, rfl, h39, h40⟩ := h36
 obtain rfl := h39
 obtain rfl := h40
 obtain ⟨c41, h42, hat43⟩ := h1.ptr
 obtain ⟨v44, rfl, h45⟩ := rd_list h42
 refine enter (args := [(.agg #[(.int .i64 a0.1), (.int .i64 a0.2.1), (.int .i64 a0.2.2)]), p1]) Tryz.func140 rfl 14 rfl (Nat.le_of_ble_eq_true rfl) (fun a S => ?_)
 refine wp_seq (region_plain ?_)
 refine lx_box S trivial (by decide) rfl H rfl rfl (fun b46 w47 H => ⟨trivial, fun a S => ?_⟩)
 refine lq (.bool false) S (q_assign rfl) fun a S => ?_
 refine lx_nil (thenN ?_)
 refine wp_seq (region_plain ?_)
 refine lq (pAdd (bp b46) 1) S (q_fieldAddr' 1 2 rfl (isP_bp _) Tryz.underlying72 rfl Tryz.sizeOf2) fun a S => ?_
 refine lx_e (.int .i64 a0.2.1) S trivial (by decide) rfl trivial (q_load1 rfl Tryz.isAgg2 (by rintro _ rfl; exact (At.of_add (m := 1) (j := 0) (boxAt (i := 0) H rfl (j := 1) rfl)))) (fun a S => ?_)
 refine lq (.bool (a0.2.1 == (0 : Int))) S (q_eql rfl rfl) fun a S => ?_
 refine lq (.bool (a0.2.1 == (0 : Int))) S (q_move rfl) fun a S => ?_
 obtain ⟨t49, e50, hm⟩ := bind_some hm
 refine lx_cut 6 (fun a w => Slots a 14 [(13, (.bool t49))] ∧ Heap w0 [] w) ?_ ?_
 ·by_cases hc51 : (a0.2.1 == (0 : Int)) = true
  ·have hm := ite_t hc51 e50
   refine lx_e v44 S (want_b rfl rfl hc51) (by decide) rfl trivial (q_load1 rfl Tryz.isAgg93 (by rintro _ rfl; exact ((hat43 0 _ rfl).ext H.ext))) (fun a S => ?_)
   refine lx_q (pAdd (bp b46) 2) S (want_b rfl rfl hc51) (by decide) (q_fieldAddr' 2 2 rfl (isP_bp _) Tryz.underlying72 rfl Tryz.sizeOf2) (fun a S => ?_)
   refine lx_e (.int .i64 a0.2.2) S (want_b rfl rfl hc51) (by decide) rfl trivial (q_load1 rfl Tryz.isAgg2 (by rintro _ rfl; exact (At.of_add (m := 2) (j := 0) (boxAt (i := 0) H rfl (j := 2) rfl)))) (fun a S => ?_)
   obtain ⟨x52, e53, hm⟩ := bind_some hm
   obtain ⟨c54, h55, hat56⟩ := (h45).elem (idx_some e53).2
   obtain rfl := h55
   have hlt := lt_of_idx (idx_some e53).2
   refine lx_q (ePtr v44 (a0.2.2.toNat * 1)) S (want_b rfl rfl hc51) (by decide) (q_indexAddr rfl (h45).isSl rfl (idx_some e53).1 hlt Tryz.underlying93 Tryz.sizeOf4) (fun a S => ?_)
   refine lx_e (.bool x52) S (want_b rfl rfl hc51) (by decide) rfl trivial (q_load1 rfl Tryz.isAgg4 (by rintro _ rfl; exact ((hat56 0 _ rfl).ext H.ext))) (fun a S => ?_)
   refine lq (.bool x52) S (q_pickT' rfl hc51 rfl) fun a S => ?_
   refine lx_nil ?_
   obtain rfl := Option.some.inj hm
   have H := H.sel [] (by decide)
   exact ⟨S.sub ⟨rfl, trivial⟩, H⟩
  ·have hm := ite_f (eq_false_of_ne_true hc51) e50
   have hc51 : (a0.2.1 == (0 : Int)) = false := eq_false_of_ne_true hc51
   refine lx_skip S rfl rfl (isB_ne hc51) (by decide) (fun a S => ?_)
   refine lx_skip S rfl rfl (isB_ne hc51) (by decide) (fun a S => ?_)
   refine lx_skip S rfl rfl (isB_ne hc51) (by decide) (fun a S => ?_)
   refine lx_skip S rfl rfl (isB_ne hc51) (by decide) (fun a S => ?_)
   refine lx_skip S rfl rfl (isB_ne hc51) (by decide) (fun a S => ?_)
   refine lq (.bool false) S (q_pickF' rfl hc51 rfl) fun a S => ?_
   refine lx_nil ?_
   obtain rfl := Option.some.inj hm
   have H := H.sel [] (by decide)
   exact ⟨S.sub ⟨rfl, trivial⟩, H⟩
 ·rintro a w ⟨S, H⟩
  refine lq (.bool t49) S (q_assign rfl) fun a S => ?_
  refine lx_nil (thenN ?_)
  refine wp_ret ?_
  obtain rfl := Option.some.inj hm
  exact leave1 S rfl rfl ⟨rfl, H⟩

/-- slices.ContainsFunc[[]impl.Edge,impl.Edge] -/
def slices_ContainsFunc__impl_Edge_impl_Edge_m (fuel : Nat) (a0 : (List Timpl_Edge)) (a1 : (Timpl_Edge → Option Bool)) : Option (Bool) :=
  (slices_IndexFunc__impl_Edge_impl_Edge_m fuel a0 a1).bind fun x33 => some ((decide ((0 : Int) ≤ x33)))
set_option maxRecDepth 20000 in
theorem slices_ContainsFunc__impl_Edge_impl_Edge_ok {w0 : World} {fuel : Nat} {p0 : Value} {a0 : (List Timpl_Edge)} {a1 : (Timpl_Edge → Option Bool)} {f1 : Nat} {fs1 cp1 : List Value} {r : Bool} (h0 : Rd (rList Rimpl_Edge) w0 p0 a0) (hcf1 : ∀ args w, (callFunc f1 args).run Tryz.prog w = .ok (.enter f1 args) w) (hf1 : ∀ {w : World} {x0_ : Timpl_Edge} {v0_ : Value} {y : Bool}, Ext w0 w → Rd Rimpl_Edge w v0_ x0_ → a1 x0_ = some y → Calls Tryz.prog f1 (fs1 ++ ([v0_] : List Value) ++ cp1).toArray w fun e w' => e = .returned (.bool y) ∧ Heap w [] w') (hm : slices_ContainsFunc__impl_Edge_impl_Edge_m fuel a0 a1 = some r) :
  Calls Tryz.prog 139 #[p0, .func (.func f1) fs1.toArray cp1.toArray] w0 fun e w => e = .returned (.bool r) ∧ Heap w0 [] w := by
 unfold slices_ContainsFunc__impl_Edge_impl_Edge_m at hm
 have H := Heap.start w0
 refine enter (args := [p0, .func (.func f1) fs1.toArray cp1.toArray]) Tryz.func139 rfl 9 rfl (Nat.le_of_ble_eq_true rfl) (fun a S => ?_)
 refine wp_seq (region_plain ?_)
 refine lq (.bool false) S (q_assign rfl) fun a S => ?_
 refine lx_nil (thenN ?_)
 refine wp_seq (region_plain ?_)
 refine lq p0 S (q_move rfl) fun a S => ?_
 refine lq (.func (.func f1) fs1.toArray cp1.toArray) S (q_move rfl) fun a S => ?_
 obtain ⟨x33, e34, hm⟩ := bind_some hm
 refine lx_call (xs := [.tmp 5, .tmp 6]) S trivial (by decide) rfl rfl Tryz.call142 ((slices_IndexFunc__impl_Edge_impl_Edge_ok (f1 := f1) (fs1 := fs1) (cp1 := cp1) (a1 := a1) (H.arg h0) hcf1 (fun he h0_ hm => hf1 (H.ext.trans he) h0_ hm) e34).mono ?_)
 rintro e w31 ⟨rfl, Hc32⟩
 have H := H.call0 Hc32
 refine ⟨_, rfl, trivial, fun a S => ?_⟩
 refine lq (.bool (decide ((0 : Int) ≤ x33))) S (q_geq rfl rfl) fun a S => ?_
 refine lq (.bool (decide ((0 : Int) ≤ x33))) S (q_assign rfl) fun a S => ?_
 refine lx_nil (thenN ?_)
 refine wp_ret ?_
 obtain rfl := Option.some.inj hm
 exact leave1 S rfl rfl ⟨rfl, H⟩

/-- (impl.Lts).divergent -/
def impl_Lts_divergent_m (fuel : Nat) (a0 : Timpl_Lts) : Option ((List Bool)) :=
  (slices_Repeat__bool_bool_m fuel [true] a0.1).bind fun x57 => (iter (fun (s : (List Bool) × (Bool)) => (match s with | (xs178, x179) => (if x179 = true then (iter (fun (s : (List Bool) × (Bool) × (Int)) => (match s with | (xs335, x336, x337) => (if (decide (x337 < (xs178.length : Int))) = true then join (κ := List Bool → Bool → Option (((List Bool) × (Bool) × (Int)) ⊕ (((List Bool) × Bool) ⊕ ((List Bool))))) (fun (xs382 : List Bool) (x383 : Bool) => some (.inl (xs382, x383, (W (x337 + (1 : Int)))))) (fun K384 => (impl_Lts_out_m fuel (a0.1, a0.2.1, a0.2.2.1, a0.2.2.2) x337).bind fun x388 => (slices_ContainsFunc__impl_Edge_impl_Edge_m fuel x388 (fun (z0 : Timpl_Edge) => impl_Lts_divergent_1_m fuel z0 xs335)).bind fun x395 => (idx xs335 x337).bind fun x399 => (if x399 = true then some (!x395) else some false).bind fun t404 => (if t404 = true then (idx xs335 x337).bind fun _ => (K384 (xs335.set x337.toNat false) true) else (K384 xs335 x336))) else some (.inr (.inl (xs335, x336)))) : Option (((List Bool) × (Bool) × (Int)) ⊕ (((List Bool) × Bool) ⊕ ((List Bool)))))) fuel (xs178, false, (0 : Int))).bind fun res373 => ctl (β := (List Bool) × Bool) (ρ := (List Bool)) (τ := (((List Bool) × (Bool)) ⊕ (((List Bool)) ⊕ ((List Bool))))) res373 (fun (xs371, x372) => some (.inl (xs371, x372))) (fun q => some (.inr (.inr q))) else some (.inr (.inl (xs178)))) : Option (((List Bool) × (Bool)) ⊕ (((List Bool)) ⊕ ((List Bool)))))) fuel (x57, true)).bind fun res293 => ctl (β := (List Bool)) (ρ := (List Bool)) (τ := (List Bool)) res293 (fun (xs292) => some (xs292)) (fun q => some (q))
set_option maxRecDepth 20000 in
theorem impl_Lts_divergent_ok {w0 : World} {fuel : Nat} {p0 : Value} {a0 : Timpl_Lts} {r : (List Bool)} (h0 : Rd Rimpl_Lts w0 p0 a0) (hm : impl_Lts_divergent_m fuel a0 = some r) :
  Calls Tryz.prog 97 #[p0] w0 fun e w => ∃ (v0 : Value), e = .returned (v0) ∧ Heap w0 [oA (rList rBool) v0 r] w := by
 unfold impl_Lts_divergent_m at hm
 have H := Heap.start w0
 obtain ⟨c31, rfl, h32⟩ := h0
 obtain ⟨c37, c38, rfl, h39, h40⟩ := h32
 obtain rfl := h39
 obtain ⟨c41, c42, rfl, h43, h44⟩ := h40
 obtain rfl := h43
 obtain ⟨c45, c46, rfl, h47, h48⟩ := h44
 obtain ⟨v33, rfl, h34⟩ := rd_list h47
 obtain ⟨v35, rfl, h36⟩ := rd_list h48
 refine enter (args := [(.agg #[(.int .i64 a0.1), (.int .i64 a0.2.1), v33, v35])]) Tryz.func97 rfl 35 rfl (Nat.le_of_ble_eq_true rfl) (fun a S => ?_)
 refine wp_seq (region_plain ?_)
 refine lx_box S trivial (by decide) rfl H rfl rfl (fun b49 w50 H => ⟨trivial, fun a S => ?_⟩)
 refine lq (.slice none 0 0) S (q_assign rfl) fun a S => ?_
 refine lx_nil (thenN ?_)
 refine wp_seq (region_plain ?_)
 refine lx_buildSlice (r := rBool) (xs := [true]) (ps := [(0, [(.bool true)])]) (cs := [(.bool true)]) (parts := [(0, .const (.bool true))]) S trivial (by decide) rfl (H.put0 (A := eA) rfl) rfl Tryz.underlying93 Tryz.sizeOf4 Tryz.zeroValue4 (by decide) ⟨rfl, rfl, Nat.le_of_ble_eq_true rfl, trivial⟩ (by intro zs hz; exact fill_dense hz ⟨rfl, trivial⟩ rfl rfl) rfl (by decide) (fun w F hA => by cases (show F = [] from hA); exact ⟨_, _, [(.bool true)], _, rfl, rfl, ⟨rfl, rfl⟩, ⟨rfl, rfl⟩⟩) (fun v52 w53 H => ⟨trivial, fun a S => ?_⟩)
 refine lq (pAdd (bp b49) 0) S (q_fieldAddr' 0 2 rfl (isP_bp _) Tryz.underlying30 rfl Tryz.sizeOf2) fun a S => ?_
 refine lx_e (.int .i64 a0.1) S trivial (by decide) rfl trivial (q_load1 rfl Tryz.isAgg2 (by rintro _ rfl; exact (At.of_add (m := 0) (j := 0) (boxAt (i := 1) H rfl (j := 0) rfl)))) (fun a S => ?_)
 obtain ⟨x57, e58, hm⟩ := bind_some hm
 refine lx_call (xs := [.tmp 7, .tmp 9]) S trivial (by decide) rfl rfl Tryz.call138 ((slices_Repeat__bool_bool_ok (H.rdAt 0 rfl)  e58).mono ?_)
 rintro e w55 ⟨v59, rfl, Hc56⟩
 have H := H.call1 Hc56
 refine ⟨_, rfl, trivial, fun a S => ?_⟩
 refine lx_alloc S trivial (by decide) rfl H Tryz.zeroValue93 rfl (fun b62 w63 H => ⟨trivial, fun a S => ?_⟩)
 refine lx_storeBox (o := 0) (i := 0) (us := [v59]) (cs' := [v59]) S trivial rfl H rfl rfl rfl (cells_sl (H.isSl 1 rfl)) Tryz.sizeOf93 (Nat.le_of_ble_eq_true rfl) (List.forall_mem_cons.2 ⟨one_sl (H.isSl 1 rfl), (fun _ h => nomatch h)⟩) rfl (fun w65 H => ⟨trivial, fun a S => ?_⟩)
 change Heap w0 [bA b62 [v59] 93, oA (rList rBool) v59 x57, oA (rList rBool) v52 [true], bA b49 [(.int .i64 a0.1), (.int .i64 a0.2.1), v33, v35] 30] w65 at H
 refine lx_nil (thenN ?_)
 refine wp_seq (wp_seq (region_plain ?_))
 refine lq (.bool true) S (q_assign rfl) fun a S => ?_
 refine lx_nil (thenN ?_)
 obtain ⟨res293, hit294, hk297⟩ := bind_some hm
 obtain ⟨f295, hf296, hit294⟩ := iter_name hit294
 refine block_loop (fun a w => ∃ (xs292 : List Bool), Slots a 35 [(3, (bp b62))] ∧ Heap w0 [bA b62 [v59] 93, oA (rList rBool) v59 xs292] w ∧ res293 = .inl (xs292)) ?_ ?_
 ·rintro a w ⟨xs292, S, H, rfl⟩
  have hm := ctl_inl hk297
  refine thenN ?_
  refine wp_seq (region_plain ?_)
  refine lx_e v59 S trivial (by decide) rfl trivial (q_load1 rfl Tryz.isAgg93 (by rintro _ rfl; exact (boxAt (i := 0) H rfl (j := 0) rfl))) (fun a S => ?_)
  refine lq v59 S (q_assign rfl) fun a S => ?_
  refine lx_nil (thenN ?_)
  refine wp_ret ?_
  obtain rfl := Option.some.inj hm
  have H : Heap w0 [oA (rList rBool) v59 xs292] w := H.sel [1] (by decide)
  exact leave1 S rfl rfl ⟨v59, rfl, H⟩
 ·skip
  have H : Heap w0 [oA (rList rBool) v59 x57, bA b62 [v59] 93, oA (rList rBool) v52 [true], bA b49 [(.int .i64 a0.1), (.int .i64 a0.2.1), v33, v35] 30] w65 := H.front 1 rfl
  have H : Heap w0 [bA b62 [v59] 93, oA (rList rBool) v59 x57, oA (rList rBool) v52 [true], bA b49 [(.int .i64 a0.1), (.int .i64 a0.2.1), v33, v35] 30] w65 := H.front 1 rfl
  have H : Heap w0 [bA b49 [(.int .i64 a0.1), (.int .i64 a0.2.1), v33, v35] 30, bA b62 [v59] 93, oA (rList rBool) v59 x57, oA (rList rBool) v52 [true]] w65 := H.front 3 rfl
  have H : Heap w0 [bA b49 [(.int .i64 a0.1), (.int .i64 a0.2.1), v33, v35] 30, bA b62 [v59] 93, oA (rList rBool) v59 x57] w65 := H.sel [0, 1, 2] (by decide)
  refine loop_ghost (fun n a w => ∃ (xs178 : List Bool) (x179 : Bool), Slots a 35 [(1, (bp b49)), (3, (bp b62)), (4, (.bool x179))] ∧ Heap w0 [bA b49 [(.int .i64 a0.1), (.int .i64 a0.2.1), v33, v35] 30, bA b62 [v59] 93, oA (rList rBool) v59 xs178] w ∧ iter f295 n (xs178, x179) = some res293) _ ⟨x57, true, S.sub ⟨rfl, rfl, rfl, trivial⟩, H, hit294⟩ ?_
  rintro n a w ⟨xs178, x179, S, H, hit294⟩
  obtain ⟨m298, o299, rfl, hm, hc300⟩ := iter_step hit294
  rw [hf296] at hm
  refine wp_seq (wp_seq (region_plain ?_))
  refine lq (.bool x179) S (q_move rfl) fun a S => ?_
  refine lx_nil (thenN ?_)
  refine cond_b S rfl (fun hc301 => ?_) (fun hc301 => ?_)
  ·have hm := ite_t hc301 hm
   refine wp_skip (thenN ?_)
   refine wp_block ?_
   refine wp_seq (region_plain ?_)
   refine lq (.bool false) S (q_assign rfl) fun a S => ?_
   refine lx_nil (thenN ?_)
   refine wp_seq (region_plain ?_)
   refine lx_e v59 S trivial (by decide) rfl trivial (q_load1 rfl Tryz.isAgg93 (by rintro _ rfl; exact (boxAt (i := 1) H rfl (j := 0) rfl))) (fun a S => ?_)
   refine lq (.int .i64 (xs178.length : Int)) S (q_lenSl rfl (H.isSl 2 rfl) rfl Tryz.underlying93) fun a S => ?_
   refine lq (.int .i64 (0 : Int)) S (q_move rfl) fun a S => ?_
   refine lx_nil (thenN ?_)
   obtain ⟨res373, hit374, hk377⟩ := bind_some hm
   obtain ⟨f375, hf376, hit374⟩ := iter_name hit374
   refine block_loop (fun a w => ∃ (xs371 : List Bool) (x372 : Bool), Slots a 35 [(1, (bp b49)), (3, (bp b62)), (4, (.bool x372))] ∧ Heap w0 [bA b49 [(.int .i64 a0.1), (.int .i64 a0.2.1), v33, v35] 30, bA b62 [v59] 93, oA (rList rBool) v59 xs371] w ∧ res373 = .inl (xs371, x372)) ?_ ?_
   ·rintro a w ⟨xs371, x372, S, H, rfl⟩
    have hm := ctl_inl hk377
    refine inBlock_norm ?_
    exact ⟨m298, Nat.lt_succ_self _, xs371, x372, S.sub ⟨rfl, rfl, rfl, trivial⟩, H, it_cont hm hc300⟩
   ·skip
    refine loop_ghost (fun n a w => ∃ (xs335 : List Bool) (x336 : Bool) (x337 : Int), Slots a 35 [(1, (bp b49)), (3, (bp b62)), (4, (.bool x336)), (13, (.int .i64 (xs178.length : Int))), (14, (.int .i64 x337))] ∧ Heap w0 [bA b49 [(.int .i64 a0.1), (.int .i64 a0.2.1), v33, v35] 30, bA b62 [v59] 93, oA (rList rBool) v59 xs335] w ∧ iter f375 n (xs335, x336, x337) = some res373) _ ⟨xs178, false, (0 : Int), S.sub ⟨rfl, rfl, rfl, rfl, rfl, trivial⟩, H, hit374⟩ ?_
    rintro n a w ⟨xs335, x336, x337, S, H, hit374⟩
    obtain ⟨m378, o379, rfl, hm, hc380⟩ := iter_step hit374
    rw [hf376] at hm
    refine wp_seq (region_plain ?_)
    refine lq (.bool (decide (x337 < (xs178.length : Int)))) S (q_lss rfl rfl) fun a S => ?_
    refine lx_nil (thenN ?_)
    refine wp_seq ?_
    refine cond_b S rfl (fun hc381 => ?_) (fun hc381 => ?_)
    ·have hm := ite_t hc381 hm
     refine wp_skip (thenN ?_)
     obtain ⟨K384, hK385, hm⟩ := join_elim hm
     refine seq_cut (fun a w => ∃ (xs382 : List Bool) (x383 : Bool), Slots a 35 [(1, (bp b49)), (3, (bp b62)), (4, (.bool x383)), (13, (.int .i64 (xs178.length : Int))), (14, (.int .i64 x337))] ∧ Heap w0 [bA b49 [(.int .i64 a0.1), (.int .i64 a0.2.1), v33, v35] 30, bA b62 [v59] 93, oA (rList rBool) v59 xs382] w ∧ K384 xs382 x383 = some o379) ?_ ?_
     ·rintro a w ⟨xs382, x383, S, H, hm⟩
      subst hK385
      refine region_plain ?_
      refine lq (.int .i64 (W (x337 + (1 : Int)))) S (q_add rfl rfl) fun a S => ?_
      refine lq (.int .i64 (W (x337 + (1 : Int)))) S (q_move rfl) fun a S => ?_
      refine lx_nil ?_
      exact ⟨m378, Nat.lt_succ_self _, xs382, x383, (W (x337 + (1 : Int))), S.sub ⟨rfl, rfl, rfl, rfl, rfl, trivial⟩, H, it_cont hm hc380⟩
     ·skip
      refine wp_block ?_
      refine wp_seq (region_plain ?_)
      refine lq (.int .i64 x337) S (q_move rfl) fun a S => ?_
      refine lq (.int .i64 x337) S (q_assign rfl) fun a S => ?_
      refine lx_nil (thenN ?_)
      refine wp_seq (region_plain ?_)
      refine lx_e (.agg #[(.int .i64 a0.1), (.int .i64 a0.2.1), v33, v35]) S trivial (by decide) rfl trivial (q_loadA (cs := [(.int .i64 a0.1), (.int .i64 a0.2.1), v33, v35]) rfl (isP_bp _) Tryz.isAgg30 Tryz.sizeOf30 (by rintro _ rfl; exact (fun j u hu => boxAt (i := 0) H rfl hu))) (fun a S => ?_)
      refine lq (.int .i64 x337) S (q_move rfl) fun a S => ?_
      obtain ⟨x388, e389, hm⟩ := bind_some hm
      refine lx_call (xs := [.tmp 17, .tmp 18]) S trivial (by decide) rfl rfl Tryz.call83 ((impl_Lts_out_ok ⟨[(.int .i64 a0.1), (.int .i64 a0.2.1), v33, v35], rfl, ⟨[(.int .i64 a0.1)], [(.int .i64 a0.2.1), v33, v35], rfl, rfl, ⟨[(.int .i64 a0.2.1)], [v33, v35], rfl, rfl, ⟨[v33], [v35], rfl, ((H.arg h34)).list_rd, ((H.arg h36)).list_rd⟩⟩⟩⟩  e389).mono ?_)
      rintro e w386 ⟨v390, rfl, Hc387⟩
      have H := H.call1 Hc387
      refine ⟨_, rfl, trivial, fun a S => ?_⟩
      refine lq (.func (.func 140) #[] #[(bp b62)]) S (q_makeFunc (xs := []) (ys := [.tmp 3]) rfl rfl) fun a S => ?_
      obtain ⟨x395, e396, hm⟩ := bind_some hm
      have hcap397 : Rd (rPtr (rList rBool)) w386 (bp b62) xs335 := (rdPtr_box H 2 rfl ((H.rdAt 3 rfl)).list_rd)
      refine lx_call (xs := [.tmp 19, .tmp 20]) S trivial (by decide) rfl rfl Tryz.call139 ((slices_ContainsFunc__impl_Edge_impl_Edge_ok (f1 := 140) (fs1 := ([] : List Value)) (cp1 := ([(bp b62)] : List Value)) (a1 := (fun (z0 : Timpl_Edge) => impl_Lts_divergent_1_m fuel z0 xs335)) (H.rdAt 0 rfl) Tryz.call140 (fun he h0_ hm => impl_Lts_divergent_1_ok h0_ (hcap397.ext he) hm) e396).mono ?_)
      rintro e w393 ⟨rfl, Hc394⟩
      have H := H.call0 Hc394
      refine ⟨_, rfl, trivial, fun a S => ?_⟩
      refine lq (.bool x395) S (q_assign rfl) fun a S => ?_
      refine lx_nil (thenN ?_)
      refine wp_seq (region_plain ?_)
      refine lx_e v59 S trivial (by decide) rfl trivial (q_load1 rfl Tryz.isAgg93 (by rintro _ rfl; exact (boxAt (i := 2) H rfl (j := 0) rfl))) (fun a S => ?_)
      refine lq (.int .i64 x337) S (q_move rfl) fun a S => ?_
      obtain ⟨x399, e400, hm⟩ := bind_some hm
      have hlt := lt_of_idx (idx_some e400).2
      refine lq (ePtr v59 (x337.toNat * 1)) S (q_indexAddr rfl (H.isSl 3 rfl) rfl (idx_some e400).1 hlt Tryz.underlying93 Tryz.sizeOf4) fun a S => ?_
      obtain ⟨c401, h402, hat403⟩ := (H.rdAt 3 rfl).elem (idx_some e400).2
      obtain rfl := h402
      refine lx_e (.bool x399) S trivial (by decide) rfl trivial (q_load1 rfl Tryz.isAgg4 (by rintro _ rfl; exact (hat403 0 _ rfl))) (fun a S => ?_)
      refine lq (.bool x399) S (q_move rfl) fun a S => ?_
      obtain ⟨t404, e405, hm⟩ := bind_some hm
      refine lx_cut 3 (fun a w => Slots a 35 [(1, (bp b49)), (3, (bp b62)), (4, (.bool x336)), (5, (.int .i64 x337)), (13, (.int .i64 (xs178.length : Int))), (14, (.int .i64 x337)), (29, (.bool t404))] ∧ Heap w0 [bA b49 [(.int .i64 a0.1), (.int .i64 a0.2.1), v33, v35] 30, bA b62 [v59] 93, oA (rList rBool) v59 xs335] w) ?_ ?_
      ·by_cases hc406 : x399 = true
       ·have hm := ite_t hc406 e405
        refine lx_q (.bool x395) S (want_b rfl rfl hc406) (by decide) (q_move rfl) (fun a S => ?_)
        refine lx_q (.bool (!x395)) S (want_b rfl rfl hc406) (by decide) (q_not rfl) (fun a S => ?_)
        refine lq (.bool (!x395)) S (q_pickT' rfl hc406 rfl) fun a S => ?_
        refine lx_nil ?_
        obtain rfl := Option.some.inj hm
        have H := H.sel [1, 2, 3] (by decide)
        exact ⟨S.sub ⟨rfl, rfl, rfl, rfl, rfl, rfl, rfl, trivial⟩, H⟩
       ·have hm := ite_f (eq_false_of_ne_true hc406) e405
        have hc406 : x399 = false := eq_false_of_ne_true hc406
        refine lx_skip S rfl rfl (isB_ne hc406) (by decide) (fun a S => ?_)
        refine lx_skip S rfl rfl (isB_ne hc406) (by decide) (fun a S => ?_)
        refine lq (.bool false) S (q_pickF' rfl hc406 rfl) fun a S => ?_
        refine lx_nil ?_
        obtain rfl := Option.some.inj hm
        have H := H.sel [1, 2, 3] (by decide)
        exact ⟨S.sub ⟨rfl, rfl, rfl, rfl, rfl, rfl, rfl, trivial⟩, H⟩
      ·rintro a w ⟨S, H⟩
       refine lx_nil (thenN ?_)
       refine cond_b S rfl (fun hc407 => ?_) (fun hc407 => ?_)
       ·have hm := ite_t hc407 hm
        refine wp_seq (region_plain ?_)
        refine lx_e v59 S trivial (by decide) rfl trivial (q_load1 rfl Tryz.isAgg93 (by rintro _ rfl; exact (boxAt (i := 1) H rfl (j := 0) rfl))) (fun a S => ?_)
        refine lq (.int .i64 x337) S (q_move rfl) fun a S => ?_
        obtain ⟨x408, e409, hm⟩ := bind_some hm
        have hlt := lt_of_idx (idx_some e409).2
        refine lq (ePtr v59 (x337.toNat * 1)) S (q_indexAddr rfl (H.isSl 2 rfl) rfl (idx_some e409).1 hlt Tryz.underlying93 Tryz.sizeOf4) fun a S => ?_
        have H : Heap w0 [oA (rList rBool) v59 xs335, bA b49 [(.int .i64 a0.1), (.int .i64 a0.2.1), v33, v35] 30, bA b62 [v59] 93] w := H.front 2 rfl
        refine lx_storeElem (r := rBool) (us := [(.bool false)]) (off := 0) (e' := false) S trivial rfl H.putE (ev_zero rfl) rfl (idx_some e409).2 rfl Tryz.sizeOf4 (Nat.le_of_ble_eq_true rfl) (List.forall_mem_cons.2 ⟨rfl, (fun _ h => nomatch h)⟩) (Upd.full rfl (fun w G hG => by cases (show G = [] from hG); exact ⟨rfl, rfl⟩)) (fun w410 H => ⟨trivial, fun a S => ?_⟩)
        refine lx_nil (thenN ?_)
        refine region_plain ?_
        refine lq (.bool true) S (q_assign rfl) fun a S => ?_
        refine lx_nil ?_
        refine inBlock_norm ?_
        have H : Heap w0 [bA b62 [v59] 93, oA (rList rBool) v59 (xs335.set x337.toNat false), bA b49 [(.int .i64 a0.1), (.int .i64 a0.2.1), v33, v35] 30] w410 := H.front 2 rfl
        have H : Heap w0 [bA b49 [(.int .i64 a0.1), (.int .i64 a0.2.1), v33, v35] 30, bA b62 [v59] 93, oA (rList rBool) v59 (xs335.set x337.toNat false)] w410 := H.front 2 rfl
        exact ⟨(xs335.set x337.toNat false), true, S.sub ⟨rfl, rfl, rfl, rfl, rfl, trivial⟩, H, hm⟩
       ·have hm := ite_f hc407 hm
        refine wp_skip ?_
        refine inBlock_norm ?_
        exact ⟨xs335, x336, S.sub ⟨rfl, rfl, rfl, rfl, rfl, trivial⟩, H, hm⟩
    ·have hm := ite_f hc381 hm
     refine wp_exit ?_
     refine then_exit ?_
     refine then_exit ?_
     refine inBlock_exit ?_
     obtain rfl := it_brk hm hc380
     exact ⟨xs335, x336, S.sub ⟨rfl, rfl, rfl, trivial⟩, H, rfl⟩
  ·have hm := ite_f hc301 hm
   refine wp_exit ?_
   refine then_exit ?_
   refine then_exit ?_
   refine inBlock_exit ?_
   obtain rfl := it_brk hm hc300
   have H : Heap w0 [bA b62 [v59] 93, oA (rList rBool) v59 xs178] w := H.sel [1, 2] (by decide)
   exact ⟨xs178, S.sub ⟨rfl, trivial⟩, H, rfl⟩

/-- impl.trueAt -/
def impl_trueAt_m (fuel : Nat) (a0 : (List Bool)) : Option ((List Int)) :=
  (iter (fun (s : (List Int) × (Int)) => (match s with | (xs58, x60) => (if (decide (x60 < (a0.length : Int))) = true then join (κ := List Int → Option (((List Int) × (Int)) ⊕ (((List Int)) ⊕ ((List Int))))) (fun (xs99 : List Int) => some (.inl (xs99, (W (x60 + (1 : Int)))))) (fun K101 => (idx a0 x60).bind fun x103 => (if x103 = true then (app xs58 [x60]).bind fun x112 => (K101 x112) else (K101 xs58))) else some (.inr (.inl (xs58)))) : Option (((List Int) × (Int)) ⊕ (((List Int)) ⊕ ((List Int)))))) fuel ([], (0 : Int))).bind fun res88 => ctl (β := (List Int)) (ρ := (List Int)) (τ := (List Int)) res88 (fun (xs86) => some (xs86)) (fun q => some (q))
set_option maxRecDepth 20000 in
theorem impl_trueAt_ok {w0 : World} {fuel : Nat} {p0 : Value} {a0 : (List Bool)} {r : (List Int)} (h0 : Rd (rList rBool) w0 p0 a0) (hm : impl_trueAt_m fuel a0 = some r) :
  Calls Tryz.prog 96 #[p0] w0 fun e w => ∃ (v0 : Value), e = .returned (v0) ∧ Heap w0 [oA (rList (rInt .i64)) v0 r] w := by
 unfold impl_trueAt_m at hm
 have H := Heap.start w0
 refine enter (args := [p0]) Tryz.func96 rfl 20 rfl (Nat.le_of_ble_eq_true rfl) (fun a S => ?_)
 refine wp_seq (region_plain ?_)
 refine lq (.slice none 0 0) S (q_assign rfl) fun a S => ?_
 refine lx_nil (thenN ?_)
 refine wp_seq (region_plain ?_)
 refine lq (.slice none 0 0) S (q_assign rfl) fun a S => ?_
 refine lx_nil (thenN ?_)
 refine wp_seq (wp_seq (region_plain ?_))
 refine lq p0 S (q_move rfl) fun a S => ?_
 refine lq (.int .i64 (a0.length : Int)) S (q_lenSl rfl (h0).isSl rfl Tryz.underlying93) fun a S => ?_
 refine lq (.int .i64 (0 : Int)) S (q_move rfl) fun a S => ?_
 refine lx_nil (thenN ?_)
 obtain ⟨res88, hit89, hk92⟩ := bind_some hm
 obtain ⟨f90, hf91, hit89⟩ := iter_name hit89
 refine block_loop (fun a w => ∃ (xs86 : List Int) (v85 : Value), Slots a 20 [(3, v85)] ∧ Heap w0 [oA (rList (rInt .i64)) v85 xs86] w ∧ res88 = .inl (xs86)) ?_ ?_
 ·rintro a w ⟨xs86, v85, S, H, rfl⟩
  have hm := ctl_inl hk92
  refine thenN ?_
  refine wp_seq (region_plain ?_)
  refine lq v85 S (q_move rfl) fun a S => ?_
  refine lq v85 S (q_assign rfl) fun a S => ?_
  refine lx_nil (thenN ?_)
  refine wp_ret ?_
  obtain rfl := Option.some.inj hm
  exact leave1 S rfl rfl ⟨v85, rfl, H⟩
 ·skip
  have H : Heap w0 [oA (rList (rInt .i64)) (.slice none 0 0) ([] : List Int)] w0 := H.nilList (rInt .i64)
  refine loop_ghost (fun n a w => ∃ (xs58 : List Int) (x60 : Int) (v57 : Value), Slots a 20 [(3, v57), (6, p0), (7, (.int .i64 (a0.length : Int))), (8, (.int .i64 x60))] ∧ Heap w0 [oA (rList (rInt .i64)) v57 xs58] w ∧ iter f90 n (xs58, x60) = some res88) _ ⟨[], (0 : Int), (.slice none 0 0), S.sub ⟨rfl, rfl, rfl, rfl, trivial⟩, H, hit89⟩ ?_
  rintro n a w ⟨xs58, x60, v57, S, H, hit89⟩
  obtain ⟨m94, o95, rfl, hm, hc96⟩ := iter_step hit89
  rw [hf91] at hm
  refine wp_seq (region_plain ?_)
  refine lq (.bool (decide (x60 < (a0.length : Int)))) S (q_lss rfl rfl) fun a S => ?_
  refine lx_nil (thenN ?_)
  refine wp_seq ?_
  refine cond_b S rfl (fun hc97 => ?_) (fun hc97 => ?_)
  ·have hm := ite_t hc97 hm
   refine wp_skip (thenN ?_)
   obtain ⟨K101, hK102, hm⟩ := join_elim hm
   refine seq_cut (fun a w => ∃ (xs99 : List Int) (v98 : Value), Slots a 20 [(3, v98), (6, p0), (7, (.int .i64 (a0.length : Int))), (8, (.int .i64 x60))] ∧ Heap w0 [oA (rList (rInt .i64)) v98 xs99] w ∧ K101 xs99 = some o95) ?_ ?_
   ·rintro a w ⟨xs99, v98, S, H, hm⟩
    subst hK102
    refine region_plain ?_
    refine lq (.int .i64 (W (x60 + (1 : Int)))) S (q_add rfl rfl) fun a S => ?_
    refine lq (.int .i64 (W (x60 + (1 : Int)))) S (q_move rfl) fun a S => ?_
    refine lx_nil ?_
    exact ⟨m94, Nat.lt_succ_self _, xs99, (W (x60 + (1 : Int))), v98, S.sub ⟨rfl, rfl, rfl, rfl, trivial⟩, H, it_cont hm hc96⟩
   ·skip
    refine wp_block ?_
    refine wp_seq (region_plain ?_)
    refine lq (.int .i64 x60) S (q_move rfl) fun a S => ?_
    obtain ⟨x103, e104, hm⟩ := bind_some hm
    obtain ⟨c105, h106, hat107⟩ := (h0).elem (idx_some e104).2
    obtain rfl := h106
    have hlt := lt_of_idx (idx_some e104).2
    refine lq (ePtr p0 (x60.toNat * 1)) S (q_indexAddr rfl (h0).isSl rfl (idx_some e104).1 hlt Tryz.underlying93 Tryz.sizeOf4) fun a S => ?_
    refine lx_e (.bool x103) S trivial (by decide) rfl trivial (q_load1 rfl Tryz.isAgg4 (by rintro _ rfl; exact ((hat107 0 _ rfl).ext H.ext))) (fun a S => ?_)
    refine lq (.int .i64 x60) S (q_assign rfl) fun a S => ?_
    refine lq (.bool x103) S (q_assign rfl) fun a S => ?_
    refine lx_nil (thenN ?_)
    refine wp_seq (region_plain ?_)
    refine lq (.bool x103) S (q_move rfl) fun a S => ?_
    refine lx_nil (thenN ?_)
    refine cond_b S rfl (fun hc108 => ?_) (fun hc108 => ?_)
    ·have hm := ite_t hc108 hm
     refine region_plain ?_
     refine lq v57 S (q_move rfl) fun a S => ?_
     refine lq (.int .i64 x60) S (q_move rfl) fun a S => ?_
     refine lx_buildSlice (r := (rInt .i64)) (xs := [x60]) (ps := [(0, [(.int .i64 x60)])]) (cs := [(.int .i64 x60)]) (parts := [(0, .tmp 15)]) S trivial (by decide) rfl (H.put0 (A := eA) rfl) rfl Tryz.underlying34 Tryz.sizeOf2 Tryz.zeroValue2 (by decide) ⟨rfl, rfl, Nat.le_of_ble_eq_true rfl, trivial⟩ (by intro zs hz; exact fill_dense hz ⟨rfl, trivial⟩ rfl rfl) rfl (by decide) (fun w F hA => by cases (show F = [] from hA); exact ⟨_, _, [(.int .i64 x60)], _, rfl, rfl, ⟨rfl, rfl⟩, ⟨rfl, rfl⟩⟩) (fun v109 w110 H => ⟨trivial, fun a S => ?_⟩)
     obtain ⟨x112, e113, hm⟩ := bind_some hm
     obtain ⟨hle, hap⟩ := app_some e113
     replace hap := hap.symm
     subst hap
     have H : Heap w0 [oA (rList (rInt .i64)) v109 [x60], oA (rList (rInt .i64)) v57 xs58] w110 := H.front 0 rfl
     have H : Heap w0 [oA (rList (rInt .i64)) v57 xs58, oA (rList (rInt .i64)) v109 [x60]] w110 := H.front 1 rfl
     refine lx_appendOwn (r := (rInt .i64)) S trivial (by decide) rfl H rfl rfl Tryz.underlying34 Tryz.ti2 rfl rfl rfl (by decide) (by decide) hle (fun v114 w115 H => ⟨trivial, fun a S => ?_⟩)
     refine lq v114 S (q_assign rfl) fun a S => ?_
     refine lx_nil ?_
     refine inBlock_norm ?_
     exact ⟨(xs58 ++ [x60]), v114, S.sub ⟨rfl, rfl, rfl, rfl, trivial⟩, H, hm⟩
    ·have hm := ite_f hc108 hm
     refine wp_skip ?_
     refine inBlock_norm ?_
     exact ⟨xs58, v57, S.sub ⟨rfl, rfl, rfl, rfl, trivial⟩, H, hm⟩
  ·have hm := ite_f hc97 hm
   refine wp_exit ?_
   refine then_exit ?_
   refine then_exit ?_
   refine inBlock_exit ?_
   obtain rfl := it_brk hm hc96
   exact ⟨xs58, v57, S.sub ⟨rfl, trivial⟩, H, rfl⟩

/-- impl.DivergentStates -/
def impl_DivergentStates_m (fuel : Nat) (a0 : Timpl_Lts) : Option (((List Int) × Int)) :=
  (impl_ValidLts_m fuel (a0.1, a0.2.1, a0.2.2.1, a0.2.2.2)).bind fun x54 => (if (!x54) = true then some (([], (1 : Int))) else (impl_Lts_divergent_m fuel (a0.1, a0.2.1, a0.2.2.1, a0.2.2.2)).bind fun x61 => (impl_trueAt_m fuel x61).bind fun x68 => some ((x68, (0 : Int))))
set_option maxRecDepth 20000 in
theorem impl_DivergentStates_ok {w0 : World} {fuel : Nat} {p0 : Value} {a0 : Timpl_Lts} {r : ((List Int) × Int)} (hG : Glob Tryz.prog w0) (h0 : Rd Rimpl_Lts w0 p0 a0) (hm : impl_DivergentStates_m fuel a0 = some r) :
  Calls Tryz.prog 48 #[p0] w0 fun e w => ∃ (v0 : Value), e = .returned (.tuple #[v0, .int .i64 r.2]) ∧ Heap w0 [oA (rList (rInt .i64)) v0 r.1] w := by
 unfold impl_DivergentStates_m at hm
 have H := Heap.start w0
 obtain ⟨c31, rfl, h32⟩ := h0
 obtain ⟨c37, c38, rfl, h39, h40⟩ := h32
 obtain rfl := h39
 obtain ⟨c41, c42, rfl, h43, h44⟩ := h40
 obtain rfl := h43
 obtain ⟨c45, c46, rfl, h47, h48⟩ := h44
 obtain ⟨v33, rfl, h34⟩ := rd_list h47
 obtain ⟨v35, rfl, h36⟩ := rd_list h48
 refine enter (args := [(.agg #[(.int .i64 a0.1), (.int .i64 a0.2.1), v33, v35])]) Tryz.func48 rfl 10 rfl (Nat.le_of_ble_eq_true rfl) (fun a S => ?_)
 refine wp_seq (region_plain ?_)
 refine lx_box S trivial (by decide) rfl H rfl rfl (fun b49 w50 H => ⟨trivial, fun a S => ?_⟩)
 refine lq (.slice none 0 0) S (q_assign rfl) fun a S => ?_
 refine lq (.int .i64 (0 : Int)) S (q_assign rfl) fun a S => ?_
 refine lx_nil (thenN ?_)
 refine wp_seq (wp_seq (region_plain ?_))
 refine lx_e (.agg #[(.int .i64 a0.1), (.int .i64 a0.2.1), v33, v35]) S trivial (by decide) rfl trivial (q_loadA (cs := [(.int .i64 a0.1), (.int .i64 a0.2.1), v33, v35]) rfl (isP_bp _) Tryz.isAgg30 Tryz.sizeOf30 (by rintro _ rfl; exact (fun j u hu => boxAt (i := 0) H rfl hu))) (fun a S => ?_)
 obtain ⟨x54, e55, hm⟩ := bind_some hm
 refine lx_call (xs := [.tmp 4]) S trivial (by decide) rfl rfl Tryz.call22 ((impl_ValidLts_ok (hG.ext H.ext) ⟨[(.int .i64 a0.1), (.int .i64 a0.2.1), v33, v35], rfl, ⟨[(.int .i64 a0.1)], [(.int .i64 a0.2.1), v33, v35], rfl, rfl, ⟨[(.int .i64 a0.2.1)], [v33, v35], rfl, rfl, ⟨[v33], [v35], rfl, ((H.arg h34)).list_rd, ((H.arg h36)).list_rd⟩⟩⟩⟩ e55).mono ?_)
 rintro e w52 ⟨rfl, Hc53⟩
 have H := H.call0 Hc53
 refine ⟨_, rfl, trivial, fun a S => ?_⟩
 refine lq (.bool (!x54)) S (q_not rfl) fun a S => ?_
 refine lx_nil (thenN ?_)
 refine cond_b S rfl (fun hc57 => ?_) (fun hc57 => ?_)
 ·have hm := ite_t hc57 hm
  refine wp_seq (region_plain ?_)
  refine lq (.slice none 0 0) S (q_assign rfl) fun a S => ?_
  refine lq (.int .i64 (1 : Int)) S (q_assign rfl) fun a S => ?_
  refine lx_nil (thenN ?_)
  refine wp_ret (then_ret ?_)
  obtain rfl := Option.some.inj hm
  have H : Heap w0 [oA (rList (rInt .i64)) (.slice none 0 0) ([] : List Int), bA b49 [(.int .i64 a0.1), (.int .i64 a0.2.1), v33, v35] 30] w52 := H.nilList (rInt .i64)
  have H : Heap w0 [oA (rList (rInt .i64)) (.slice none 0 0) ([] : List Int)] w52 := H.sel [0] (by decide)
  exact leave2 S rfl rfl rfl ⟨(.slice none 0 0), rfl, H⟩
 ·have hm := ite_f hc57 hm
  refine wp_skip (thenN ?_)
  refine wp_seq (region_plain ?_)
  refine lx_e (.agg #[(.int .i64 a0.1), (.int .i64 a0.2.1), v33, v35]) S trivial (by decide) rfl trivial (q_loadA (cs := [(.int .i64 a0.1), (.int .i64 a0.2.1), v33, v35]) rfl (isP_bp _) Tryz.isAgg30 Tryz.sizeOf30 (by rintro _ rfl; exact (fun j u hu => boxAt (i := 0) H rfl hu))) (fun a S => ?_)
  obtain ⟨x61, e62, hm⟩ := bind_some hm
  refine lx_call (xs := [.tmp 7]) S trivial (by decide) rfl rfl Tryz.call97 ((impl_Lts_divergent_ok ⟨[(.int .i64 a0.1), (.int .i64 a0.2.1), v33, v35], rfl, ⟨[(.int .i64 a0.1)], [(.int .i64 a0.2.1), v33, v35], rfl, rfl, ⟨[(.int .i64 a0.2.1)], [v33, v35], rfl, rfl, ⟨[v33], [v35], rfl, ((H.arg h34)).list_rd, ((H.arg h36)).list_rd⟩⟩⟩⟩ e62).mono ?_)
  rintro e w59 ⟨v63, rfl, Hc60⟩
  have H := H.call1 Hc60
  refine ⟨_, rfl, trivial, fun a S => ?_⟩
  obtain ⟨x68, e69, hm⟩ := bind_some hm
  refine lx_call (xs := [.tmp 8]) S trivial (by decide) rfl rfl Tryz.call96 ((impl_trueAt_ok (H.rdAt 0 rfl) e69).mono ?_)
  rintro e w66 ⟨v70, rfl, Hc67⟩
  have H := H.call1 Hc67
  refine ⟨_, rfl, trivial, fun a S => ?_⟩
  refine lq v70 S (q_assign rfl) fun a S => ?_
  refine lq (.int .i64 (0 : Int)) S (q_assign rfl) fun a S => ?_
  refine lx_nil (thenN ?_)
  refine wp_ret ?_
  obtain rfl := Option.some.inj hm
  have H : Heap w0 [oA (rList (rInt .i64)) v70 x68] w66 := H.sel [0] (by decide)
  exact leave2 S rfl rfl rfl ⟨v70, rfl, H⟩

/-- laws.FnExactDivergentStates -/
def laws_FnExactDivergentStates_m (fuel : Nat) (a0 : Tlaws_Lts) : Option (Bool) :=
  (laws_szLts_m fuel (a0.1, a0.2.1, a0.2.2.1, a0.2.2.2) (1048576 : Int)).bind fun x54 => (if (decide (x54 < (0 : Int))) = true then some (true) else (laws_toLts_m fuel (a0.1, a0.2.1, a0.2.2.1, a0.2.2.2)).bind fun x60 => (spec_DivergentStates_m fuel (x60.1, x60.2.1, x60.2.2.1, x60.2.2.2)).bind fun x69 => (laws_toLts_m fuel (a0.1, a0.2.1, a0.2.2.1, a0.2.2.2)).bind fun x76 => (impl_DivergentStates_m fuel (x76.1, x76.2.1, x76.2.2.1, x76.2.2.2)).bind fun x89 => (laws_eqInt64S_m fuel x89.1 x69.1).bind fun x96 => (if (!x96) = true then some true else some (x89.2 != x69.2)).bind fun t99 => (if t99 = true then some (false) else (laws_toLts_m fuel (a0.1, a0.2.1, a0.2.2.1, a0.2.2.2)).bind fun x107 => (laws_eqLts_m fuel (x76.1, x76.2.1, x76.2.2.1, x76.2.2.2) (x107.1, x107.2.1, x107.2.2.1, x107.2.2.2)).bind fun x116 => (if (!x116) = true then some (false) else (laws_markLts_m fuel (x76.1, x76.2.1, x76.2.2.1, x76.2.2.2) (1 : Int)).bind fun x122 => (if (decide (x122.1 < (0 : Int))) = true then some true else (laws_eqInt64S_m fuel x89.1 x69.1).bind fun x129 => some (!x129)).bind fun t124 => (if t124 = true then some true else some (x89.2 != x69.2)).bind fun t132 => (if t132 = true then some (false) else (laws_markInt64S_m fuel x89.1 (1 : Int)).bind fun x138 => (laws_heldInt64S_m fuel x138.2 (1 : Int)).bind fun x142 => (if (decide (x142 < (0 : Int))) = true then some (false) else (if (x142 != x138.1) = true then some (false) else (laws_toLts_m fuel (a0.1, a0.2.1, a0.2.2.1, a0.2.2.2)).bind fun x149 => (impl_DivergentStates_m fuel (x149.1, x149.2.1, x149.2.2.1, x149.2.2.2)).bind fun x158 => (laws_eqInt64S_m fuel x158.1 x69.1).bind fun x165 => (if (!x165) = true then some true else some (x158.2 != x69.2)).bind fun t168 => (if t168 = true then some (false) else (laws_heldInt64S_m fuel x138.2 (1 : Int)).bind fun x174 => (if (decide (x174 < (0 : Int))) = true then some (false) else (if (x174 != x138.1) = true then some (false) else some (true))))))))))
set_option maxRecDepth 20000 in
theorem laws_FnExactDivergentStates_ok {w0 : World} {fuel : Nat} {p0 : Value} {a0 : Tlaws_Lts} {r : Bool} (hG : Glob Tryz.prog w0) (h0 : Rd Rlaws_Lts w0 p0 a0) (hm : laws_FnExactDivergentStates_m fuel a0 = some r) :
  Calls Tryz.prog 10 #[p0] w0 fun e w => e = .returned (.bool r) ∧ Heap w0 [] w := by
 unfold laws_FnExactDivergentStates_m at hm
 have H := Heap.start w0
 obtain ⟨c31, rfl, h32⟩ := h0
 obtain ⟨c37, c38, rfl, h39, h40⟩ := h32
 obtain rfl := h39
 obtain ⟨c41, c42, rfl, h43, h44⟩ := h40
 obtain rfl := h43
 obtain ⟨c45, c46, rfl, h47, h48⟩ := h44
 obtain ⟨v33, rfl, h34⟩ := rd_list h47
 obtain ⟨v35, rfl, h36⟩ := rd_list h48
 refine enter (args := [(.agg #[(.int .i64 a0.1), (.int .i64 a0.2.1), v33, v35])]) Tryz.func10 rfl 96 rfl (Nat.le_of_ble_eq_true rfl) (fun a S => ?_)
 refine wp_seq (region_plain ?_)
 refine lx_box S trivial (by decide) rfl H rfl rfl (fun b49 w50 H => ⟨trivial, fun a S => ?_⟩)
 refine lq (.bool false) S (q_assign rfl) fun a S => ?_
 refine lx_nil (thenN ?_)
 refine wp_seq (region_plain ?_)
 refine lq (.int .i64 (1048576 : Int)) S (q_assign rfl) fun a S => ?_
 refine lx_nil (thenN ?_)
 refine wp_seq (region_plain ?_)
 refine lx_e (.agg #[(.int .i64 a0.1), (.int .i64 a0.2.1), v33, v35]) S trivial (by decide) rfl trivial (q_loadA (cs := [(.int .i64 a0.1), (.int .i64 a0.2.1), v33, v35]) rfl (isP_bp _) Tryz.isAgg25 Tryz.sizeOf25 (by rintro _ rfl; exact (fun j u hu => boxAt (i := 0) H rfl hu))) (fun a S => ?_)
 refine lq (.int .i64 (1048576 : Int)) S (q_move rfl) fun a S => ?_
 obtain ⟨x54, e55, hm⟩ := bind_some hm
 refine lx_call (xs := [.tmp 14, .tmp 15]) S trivial (by decide) rfl rfl Tryz.call19 ((laws_szLts_ok ⟨[(.int .i64 a0.1), (.int .i64 a0.2.1), v33, v35], rfl, ⟨[(.int .i64 a0.1)], [(.int .i64 a0.2.1), v33, v35], rfl, rfl, ⟨[(.int .i64 a0.2.1)], [v33, v35], rfl, rfl, ⟨[v33], [v35], rfl, ((H.arg h34)).list_rd, ((H.arg h36)).list_rd⟩⟩⟩⟩  e55).mono ?_)
 rintro e w52 ⟨rfl, Hc53⟩
 have H := H.call0 Hc53
 refine ⟨_, rfl, trivial, fun a S => ?_⟩
 refine lq (.int .i64 x54) S (q_assign rfl) fun a S => ?_
 refine lx_nil (thenN ?_)
 refine wp_seq (wp_seq (region_plain ?_))
 refine lq (.int .i64 x54) S (q_move rfl) fun a S => ?_
 refine lq (.bool (decide (x54 < (0 : Int)))) S (q_lss rfl rfl) fun a S => ?_
 refine lx_nil (thenN ?_)
 refine cond_b S rfl (fun hc57 => ?_) (fun hc57 => ?_)
 ·have hm := ite_t hc57 hm
  refine wp_seq (region_plain ?_)
  refine lq (.bool true) S (q_assign rfl) fun a S => ?_
  refine lx_nil (thenN ?_)
  refine wp_ret (then_ret ?_)
  obtain rfl := Option.some.inj hm
  have H : Heap w0 [] w52 := H.sel [] (by decide)
  exact leave1 S rfl rfl ⟨rfl, H⟩
 ·have hm := ite_f hc57 hm
  refine wp_skip (thenN ?_)
  refine wp_seq (region_plain ?_)
  refine lx_e (.agg #[(.int .i64 a0.1), (.int .i64 a0.2.1), v33, v35]) S trivial (by decide) rfl trivial (q_loadA (cs := [(.int .i64 a0.1), (.int .i64 a0.2.1), v33, v35]) rfl (isP_bp _) Tryz.isAgg25 Tryz.sizeOf25 (by rintro _ rfl; exact (fun j u hu => boxAt (i := 0) H rfl hu))) (fun a S => ?_)
  obtain ⟨x60, e61, hm⟩ := bind_some hm
  refine lx_call (xs := [.tmp 20]) S trivial (by decide) rfl rfl Tryz.call21 ((laws_toLts_ok ⟨[(.int .i64 a0.1), (.int .i64 a0.2.1), v33, v35], rfl, ⟨[(.int .i64 a0.1)], [(.int .i64 a0.2.1), v33, v35], rfl, rfl, ⟨[(.int .i64 a0.2.1)], [v33, v35], rfl, rfl, ⟨[v33], [v35], rfl, ((H.arg h34)).list_rd, ((H.arg h36)).list_rd⟩⟩⟩⟩ e61).mono ?_)
  rintro e w58 ⟨v62, v63, rfl, Hc59⟩
  have H := H.call2 Hc59
  refine ⟨_, rfl, trivial, fun a S => ?_⟩
  obtain ⟨x69, e70, hm⟩ := bind_some hm
  refine lx_call (xs := [.tmp 21]) S trivial (by decide) rfl rfl Tryz.call47 ((spec_DivergentStates_ok ⟨[(.int .i64 x60.1), (.int .i64 x60.2.1), v62, v63], rfl, ⟨[(.int .i64 x60.1)], [(.int .i64 x60.2.1), v62, v63], rfl, rfl, ⟨[(.int .i64 x60.2.1)], [v62, v63], rfl, rfl, ⟨[v62], [v63], rfl, ((H.rdAt 0 rfl)).list_rd, ((H.rdAt 1 rfl)).list_rd⟩⟩⟩⟩ e70).mono ?_)
  rintro e w67 ⟨v71, rfl, Hc68⟩
  have H := H.call1 Hc68
  refine ⟨_, rfl, trivial, fun a S => ?_⟩
  refine lq (.tuple #[v71, (.int .i64 x69.2)]) S (q_move rfl) fun a S => ?_
  refine lq v71 S (q_extract rfl rfl) fun a S => ?_
  refine lq (.int .i64 x69.2) S (q_extract rfl rfl) fun a S => ?_
  refine lq v71 S (q_assign rfl) fun a S => ?_
  refine lq (.int .i64 x69.2) S (q_assign rfl) fun a S => ?_
  refine lx_nil (thenN ?_)
  refine wp_seq (region_plain ?_)
  refine lx_e (.agg #[(.int .i64 a0.1), (.int .i64 a0.2.1), v33, v35]) S trivial (by decide) rfl trivial (q_loadA (cs := [(.int .i64 a0.1), (.int .i64 a0.2.1), v33, v35]) rfl (isP_bp _) Tryz.isAgg25 Tryz.sizeOf25 (by rintro _ rfl; exact (fun j u hu => boxAt (i := 3) H rfl hu))) (fun a S => ?_)
  obtain ⟨x76, e77, hm⟩ := bind_some hm
  refine lx_call (xs := [.tmp 25]) S trivial (by decide) rfl rfl Tryz.call21 ((laws_toLts_ok ⟨[(.int .i64 a0.1), (.int .i64 a0.2.1), v33, v35], rfl, ⟨[(.int .i64 a0.1)], [(.int .i64 a0.2.1), v33, v35], rfl, rfl, ⟨[(.int .i64 a0.2.1)], [v33, v35], rfl, rfl, ⟨[v33], [v35], rfl, ((H.arg h34)).list_rd, ((H.arg h36)).list_rd⟩⟩⟩⟩ e77).mono ?_)
  rintro e w74 ⟨v78, v79, rfl, Hc75⟩
  have H := H.call2 Hc75
  refine ⟨_, rfl, trivial, fun a S => ?_⟩
  refine lx_alloc S trivial (by decide) rfl H Tryz.zeroValue30 rfl (fun b83 w84 H => ⟨trivial, fun a S => ?_⟩)
  refine lx_storeBox (o := 0) (i := 0) (us := [(.int .i64 x76.1), (.int .i64 x76.2.1), v78, v79]) (cs' := [(.int .i64 x76.1), (.int .i64 x76.2.1), v78, v79]) S trivial rfl H rfl rfl rfl rfl Tryz.sizeOf30 (Nat.le_of_ble_eq_true rfl) (List.forall_mem_cons.2 ⟨rfl, (List.forall_mem_cons.2 ⟨rfl, (List.forall_mem_cons.2 ⟨one_sl (H.isSl 1 rfl), (List.forall_mem_cons.2 ⟨one_sl (H.isSl 2 rfl), (fun _ h => nomatch h)⟩)⟩)⟩)⟩) rfl (fun w86 H => ⟨trivial, fun a S => ?_⟩)
  change Heap w0 [bA b83 [(.int .i64 x76.1), (.int .i64 x76.2.1), v78, v79] 30, oA (rList rStr) v78 x76.2.2.1, oA (rList Rimpl_Edge) v79 x76.2.2.2, oA (rList (rInt .i64)) v71 x69.1, oA (rList rStr) v62 x60.2.2.1, oA (rList Rimpl_Edge) v63 x60.2.2.2, bA b49 [(.int .i64 a0.1), (.int .i64 a0.2.1), v33, v35] 25] w86 at H
  refine lx_nil (thenN ?_)
  refine wp_seq (region_plain ?_)
  refine lx_e (.agg #[(.int .i64 x76.1), (.int .i64 x76.2.1), v78, v79]) S trivial (by decide) rfl trivial (q_loadA (cs := [(.int .i64 x76.1), (.int .i64 x76.2.1), v78, v79]) rfl (isP_bp _) Tryz.isAgg30 Tryz.sizeOf30 (by rintro _ rfl; exact (fun j u hu => boxAt (i := 0) H rfl hu))) (fun a S => ?_)
  obtain ⟨x89, e90, hm⟩ := bind_some hm
  refine lx_call (xs := [.tmp 28]) S trivial (by decide) rfl rfl Tryz.call48 ((impl_DivergentStates_ok (hG.ext H.ext) ⟨[(.int .i64 x76.1), (.int .i64 x76.2.1), v78, v79], rfl, ⟨[(.int .i64 x76.1)], [(.int .i64 x76.2.1), v78, v79], rfl, rfl, ⟨[(.int .i64 x76.2.1)], [v78, v79], rfl, rfl, ⟨[v78], [v79], rfl, ((H.rdAt 1 rfl)).list_rd, ((H.rdAt 2 rfl)).list_rd⟩⟩⟩⟩ e90).mono ?_)
  rintro e w87 ⟨v91, rfl, Hc88⟩
  have H := H.call1 Hc88
  refine ⟨_, rfl, trivial, fun a S => ?_⟩
  refine lq (.tuple #[v91, (.int .i64 x89.2)]) S (q_move rfl) fun a S => ?_
  refine lq v91 S (q_extract rfl rfl) fun a S => ?_
  refine lq (.int .i64 x89.2) S (q_extract rfl rfl) fun a S => ?_
  refine lq v91 S (q_assign rfl) fun a S => ?_
  refine lq (.int .i64 x89.2) S (q_assign rfl) fun a S => ?_
  refine lx_nil (thenN ?_)
  refine wp_seq (wp_seq (region_plain ?_))
  refine lq v91 S (q_move rfl) fun a S => ?_
  refine lq v71 S (q_move rfl) fun a S => ?_
  obtain ⟨x96, e97, hm⟩ := bind_some hm
  refine lx_call (xs := [.tmp 32, .tmp 33]) S trivial (by decide) rfl rfl Tryz.call29 ((laws_eqInt64S_ok (H.rdAt 0 rfl) (H.rdAt 4 rfl) e97).mono ?_)
  rintro e w94 ⟨rfl, Hc95⟩
  have H := H.call0 Hc95
  refine ⟨_, rfl, trivial, fun a S => ?_⟩
  refine lq (.bool (!x96)) S (q_not rfl) fun a S => ?_
  refine lq (.bool (!x96)) S (q_move rfl) fun a S => ?_
  obtain ⟨t99, e100, hm⟩ := bind_some hm
  refine lx_cut 4 (fun a w => Slots a 96 [(1, (bp b49)), (4, v71), (5, (.int .i64 x69.2)), (6, (bp b83)), (7, v91), (8, (.int .i64 x89.2)), (40, (.bool t99))] ∧ Heap w0 [oA (rList (rInt .i64)) v91 x89.1, bA b83 [(.int .i64 x76.1), (.int .i64 x76.2.1), v78, v79] 30, oA (rList rStr) v78 x76.2.2.1, oA (rList Rimpl_Edge) v79 x76.2.2.2, oA (rList (rInt .i64)) v71 x69.1, bA b49 [(.int .i64 a0.1), (.int .i64 a0.2.1), v33, v35] 25] w) ?_ ?_
  ·by_cases hc101 : (!x96) = true
   ·have hm := ite_t hc101 e100
    refine lx_skip S rfl rfl (isB_ne hc101) (by decide) (fun a S => ?_)
    refine lx_skip S rfl rfl (isB_ne hc101) (by decide) (fun a S => ?_)
    refine lx_skip S rfl rfl (isB_ne hc101) (by decide) (fun a S => ?_)
    refine lq (.bool true) S (q_pickT' rfl hc101 rfl) fun a S => ?_
    refine lx_nil ?_
    obtain rfl := Option.some.inj hm
    have H := H.sel [0, 1, 2, 3, 4, 7] (by decide)
    exact ⟨S.sub ⟨rfl, rfl, rfl, rfl, rfl, rfl, rfl, trivial⟩, H⟩
   ·have hm := ite_f (eq_false_of_ne_true hc101) e100
    have hc101 : (!x96) = false := eq_false_of_ne_true hc101
    refine lx_q (.int .i64 x89.2) S (want_b rfl rfl hc101) (by decide) (q_move rfl) (fun a S => ?_)
    refine lx_q (.int .i64 x69.2) S (want_b rfl rfl hc101) (by decide) (q_move rfl) (fun a S => ?_)
    refine lx_q (.bool (x89.2 != x69.2)) S (want_b rfl rfl hc101) (by decide) (q_neq rfl rfl) (fun a S => ?_)
    refine lq (.bool (x89.2 != x69.2)) S (q_pickF' rfl hc101 rfl) fun a S => ?_
    refine lx_nil ?_
    obtain rfl := Option.some.inj hm
    have H := H.sel [0, 1, 2, 3, 4, 7] (by decide)
    exact ⟨S.sub ⟨rfl, rfl, rfl, rfl, rfl, rfl, rfl, trivial⟩, H⟩
  ·rintro a w ⟨S, H⟩
   refine lx_nil (thenN ?_)
   refine cond_b S rfl (fun hc102 => ?_) (fun hc102 => ?_)
   ·have hm := ite_t hc102 hm
    refine wp_seq (region_plain ?_)
    refine lq (.bool false) S (q_assign rfl) fun a S => ?_
    refine lx_nil (thenN ?_)
    refine wp_ret (then_ret ?_)
    obtain rfl := Option.some.inj hm
    have H : Heap w0 [] w := H.sel [] (by decide)
    exact leave1 S rfl rfl ⟨rfl, H⟩
   ·have hm := ite_f hc102 hm
    refine wp_skip (thenN ?_)
    refine wp_seq ?_
    refine wp_seq ?_
    refine region_drawG (fun w1 => Heap w0 [bA b83 [(.int .i64 x76.1), (.int .i64 x76.2.1), v78, v79] 30, bA b49 [(.int .i64 a0.1), (.int .i64 a0.2.1), v33, v35] 25] w1) (fun i => [2, 3].contains i) mixed (by kernel_rfl) (fun w104 he103 => ?_)
    have H := H.later he103
    refine ⟨H.sel [1, 5] (by decide), ?_⟩
    refine lq (.agg #[(.int .i64 x76.1), (.int .i64 x76.2.1), v78, v79]) S (q_loadA (cs := [(.int .i64 x76.1), (.int .i64 x76.2.1), v78, v79]) rfl (isP_bp _) Tryz.isAgg30 Tryz.sizeOf30 (fun w1 hC => (fun j u hu => boxAt (i := 0) hC rfl hu))) fun a S => ?_
    refine lq (.agg #[(.int .i64 a0.1), (.int .i64 a0.2.1), v33, v35]) S (q_loadA (cs := [(.int .i64 a0.1), (.int .i64 a0.2.1), v33, v35]) rfl (isP_bp _) Tryz.isAgg25 Tryz.sizeOf25 (fun w1 hC => (fun j u hu => boxAt (i := 1) hC rfl hu))) fun a S => ?_
    obtain ⟨x107, e108, hm⟩ := bind_some hm
    refine lx_call (xs := [.tmp 42]) S trivial (by decide) rfl rfl Tryz.call21 ((laws_toLts_ok ⟨[(.int .i64 a0.1), (.int .i64 a0.2.1), v33, v35], rfl, ⟨[(.int .i64 a0.1)], [(.int .i64 a0.2.1), v33, v35], rfl, rfl, ⟨[(.int .i64 a0.2.1)], [v33, v35], rfl, rfl, ⟨[v33], [v35], rfl, ((H.arg h34)).list_rd, ((H.arg h36)).list_rd⟩⟩⟩⟩ e108).mono ?_)
    rintro e w105 ⟨v109, v110, rfl, Hc106⟩
    have H := H.call2 Hc106
    refine ⟨_, rfl, H.sel [3, 7] (by decide), fun a S => ?_⟩
    obtain ⟨x116, e117, hm⟩ := bind_some hm
    refine lx_call (xs := [.tmp 41, .tmp 43]) S trivial (by decide) rfl rfl Tryz.call23 ((laws_eqLts_ok ⟨[(.int .i64 x76.1), (.int .i64 x76.2.1), v78, v79], rfl, ⟨[(.int .i64 x76.1)], [(.int .i64 x76.2.1), v78, v79], rfl, rfl, ⟨[(.int .i64 x76.2.1)], [v78, v79], rfl, rfl, ⟨[v78], [v79], rfl, ((H.rdAt 4 rfl)).list_rd, ((H.rdAt 5 rfl)).list_rd⟩⟩⟩⟩ ⟨[(.int .i64 x107.1), (.int .i64 x107.2.1), v109, v110], rfl, ⟨[(.int .i64 x107.1)], [(.int .i64 x107.2.1), v109, v110], rfl, rfl, ⟨[(.int .i64 x107.2.1)], [v109, v110], rfl, rfl, ⟨[v109], [v110], rfl, ((H.rdAt 0 rfl)).list_rd, ((H.rdAt 1 rfl)).list_rd⟩⟩⟩⟩ e117).mono ?_)
    rintro e w114 ⟨rfl, Hc115⟩
    have H := H.call0 Hc115
    refine ⟨_, rfl, H.sel [3, 7] (by decide), fun a S => ?_⟩
    refine lq (.bool (!x116)) S (q_not rfl) fun a S => ?_
    refine lx_nil (thenN ?_)
    refine cond_b S rfl (fun hc119 => ?_) (fun hc119 => ?_)
    ·have hm := ite_t hc119 hm
     refine wp_seq (region_plain ?_)
     refine lq (.bool false) S (q_assign rfl) fun a S => ?_
     refine lx_nil (thenN ?_)
     refine wp_ret (then_ret ?_)
     obtain rfl := Option.some.inj hm
     have H : Heap w0 [] w114 := H.sel [] (by decide)
     exact leave1 S rfl rfl ⟨rfl, H⟩
    ·have hm := ite_f hc119 hm
     refine wp_skip (thenN ?_)
     refine wp_seq (region_plain ?_)
     refine lq (.int .i64 (1 : Int)) S (q_assign rfl) fun a S => ?_
     refine lx_nil (thenN ?_)
     refine wp_seq (region_plain ?_)
     refine lx_e (.agg #[(.int .i64 x76.1), (.int .i64 x76.2.1), v78, v79]) S trivial (by decide) rfl trivial (q_loadA (cs := [(.int .i64 x76.1), (.int .i64 x76.2.1), v78, v79]) rfl (isP_bp _) Tryz.isAgg30 Tryz.sizeOf30 (by rintro _ rfl; exact (fun j u hu => boxAt (i := 3) H rfl hu))) (fun a S => ?_)
     refine lq (.int .i64 (1 : Int)) S (q_move rfl) fun a S => ?_
     obtain ⟨x122, e123, hm⟩ := bind_some hm
     have H : Heap w0 [oA (rList Rimpl_Edge) v79 x76.2.2.2, oA (rList rStr) v109 x107.2.2.1, oA (rList Rimpl_Edge) v110 x107.2.2.2, oA (rList (rInt .i64)) v91 x89.1, bA b83 [(.int .i64 x76.1), (.int .i64 x76.2.1), v78, v79] 30, oA (rList rStr) v78 x76.2.2.1, oA (rList (rInt .i64)) v71 x69.1, bA b49 [(.int .i64 a0.1), (.int .i64 a0.2.1), v33, v35] 25] w114 := H.front 5 rfl
     have H : Heap w0 [oA (rList rStr) v78 x76.2.2.1, oA (rList Rimpl_Edge) v79 x76.2.2.2, oA (rList rStr) v109 x107.2.2.1, oA (rList Rimpl_Edge) v110 x107.2.2.2, oA (rList (rInt .i64)) v91 x89.1, bA b83 [(.int .i64 x76.1), (.int .i64 x76.2.1), v78, v79] 30, oA (rList (rInt .i64)) v71 x69.1, bA b49 [(.int .i64 a0.1), (.int .i64 a0.2.1), v33, v35] 25] w114 := H.front 5 rfl
     refine lx_call (xs := [.tmp 46, .tmp 47]) S trivial (by decide) rfl rfl Tryz.call33 ((laws_markLts_ok H  e123).mono ?_)
     rintro e w120 ⟨rfl, H⟩
     refine ⟨_, rfl, trivial, fun a S => ?_⟩
     refine lq (.int .i64 x122.1) S (q_assign rfl) fun a S => ?_
     refine lx_nil (thenN ?_)
     refine wp_seq (wp_seq (region_plain ?_))
     refine lq (.int .i64 x122.1) S (q_move rfl) fun a S => ?_
     refine lq (.bool (decide (x122.1 < (0 : Int)))) S (q_lss rfl rfl) fun a S => ?_
     refine lq (.bool (decide (x122.1 < (0 : Int)))) S (q_move rfl) fun a S => ?_
     obtain ⟨t124, e125, hm⟩ := bind_some hm
     refine lx_cut 5 (fun a w => Slots a 96 [(1, (bp b49)), (4, v71), (5, (.int .i64 x69.2)), (7, v91), (8, (.int .i64 x89.2)), (56, (.bool t124))] ∧ Heap w0 [oA (rList (rInt .i64)) v91 x89.1, oA (rList (rInt .i64)) v71 x69.1, bA b49 [(.int .i64 a0.1), (.int .i64 a0.2.1), v33, v35] 25] w) ?_ ?_
     ·by_cases hc126 : (decide (x122.1 < (0 : Int))) = true
      ·have hm := ite_t hc126 e125
       refine lx_skip S rfl rfl (isB_ne hc126) (by decide) (fun a S => ?_)
       refine lx_skip S rfl rfl (isB_ne hc126) (by decide) (fun a S => ?_)
       refine lx_skip S rfl rfl (isB_ne hc126) (by decide) (fun a S => ?_)
       refine lx_skip S rfl rfl (isB_ne hc126) (by decide) (fun a S => ?_)
       refine lq (.bool true) S (q_pickT' rfl hc126 rfl) fun a S => ?_
       refine lx_nil ?_
       obtain rfl := Option.some.inj hm
       have H := H.sel [4, 6, 7] (by decide)
       exact ⟨S.sub ⟨rfl, rfl, rfl, rfl, rfl, rfl, trivial⟩, H⟩
      ·have hm := ite_f (eq_false_of_ne_true hc126) e125
       have hc126 : (decide (x122.1 < (0 : Int))) = false := eq_false_of_ne_true hc126
       refine lx_q v91 S (want_b rfl rfl hc126) (by decide) (q_move rfl) (fun a S => ?_)
       refine lx_q v71 S (want_b rfl rfl hc126) (by decide) (q_move rfl) (fun a S => ?_)
       obtain ⟨x129, e130, hm⟩ := bind_some hm
       refine lx_call (xs := [.tmp 52, .tmp 53]) S (want_b rfl rfl hc126) (by decide) rfl rfl Tryz.call29 ((laws_eqInt64S_ok (H.rdAt 4 rfl) (H.rdAt 6 rfl) e130).mono ?_)
       rintro e w127 ⟨rfl, Hc128⟩
       have H := H.call0 Hc128
       refine ⟨_, rfl, trivial, fun a S => ?_⟩
       refine lx_q (.bool (!x129)) S (want_b rfl rfl hc126) (by decide) (q_not rfl) (fun a S => ?_)
       refine lq (.bool (!x129)) S (q_pickF' rfl hc126 rfl) fun a S => ?_
       refine lx_nil ?_
       obtain rfl := Option.some.inj hm
       have H := H.sel [4, 6, 7] (by decide)
       exact ⟨S.sub ⟨rfl, rfl, rfl, rfl, rfl, rfl, trivial⟩, H⟩
     ·rintro a w ⟨S, H⟩
      refine lq (.bool t124) S (q_move rfl) fun a S => ?_
      obtain ⟨t132, e133, hm⟩ := bind_some hm
      refine lx_cut 4 (fun a w => Slots a 96 [(1, (bp b49)), (4, v71), (5, (.int .i64 x69.2)), (7, v91), (61, (.bool t132))] ∧ Heap w0 [oA (rList (rInt .i64)) v91 x89.1, oA (rList (rInt .i64)) v71 x69.1, bA b49 [(.int .i64 a0.1), (.int .i64 a0.2.1), v33, v35] 25] w) ?_ ?_
      ·by_cases hc134 : t124 = true
       ·have hm := ite_t hc134 e133
        refine lx_skip S rfl rfl (isB_ne hc134) (by decide) (fun a S => ?_)
        refine lx_skip S rfl rfl (isB_ne hc134) (by decide) (fun a S => ?_)
        refine lx_skip S rfl rfl (isB_ne hc134) (by decide) (fun a S => ?_)
        refine lq (.bool true) S (q_pickT' rfl hc134 rfl) fun a S => ?_
        refine lx_nil ?_
        obtain rfl := Option.some.inj hm
        exact ⟨S.sub ⟨rfl, rfl, rfl, rfl, rfl, trivial⟩, H⟩
       ·have hm := ite_f (eq_false_of_ne_true hc134) e133
        have hc134 : t124 = false := eq_false_of_ne_true hc134
        refine lx_q (.int .i64 x89.2) S (want_b rfl rfl hc134) (by decide) (q_move rfl) (fun a S => ?_)
        refine lx_q (.int .i64 x69.2) S (want_b rfl rfl hc134) (by decide) (q_move rfl) (fun a S => ?_)
        refine lx_q (.bool (x89.2 != x69.2)) S (want_b rfl rfl hc134) (by decide) (q_neq rfl rfl) (fun a S => ?_)
        refine lq (.bool (x89.2 != x69.2)) S (q_pickF' rfl hc134 rfl) fun a S => ?_
        refine lx_nil ?_
        obtain rfl := Option.some.inj hm
        exact ⟨S.sub ⟨rfl, rfl, rfl, rfl, rfl, trivial⟩, H⟩
      ·rintro a w ⟨S, H⟩
       refine lx_nil (thenN ?_)
       refine cond_b S rfl (fun hc135 => ?_) (fun hc135 => ?_)
       ·have hm := ite_t hc135 hm
        refine wp_seq (region_plain ?_)
        refine lq (.bool false) S (q_assign rfl) fun a S => ?_
        refine lx_nil (thenN ?_)
        refine wp_ret (then_ret ?_)
        obtain rfl := Option.some.inj hm
        have H : Heap w0 [] w := H.sel [] (by decide)
        exact leave1 S rfl rfl ⟨rfl, H⟩
       ·have hm := ite_f hc135 hm
        refine wp_skip (thenN ?_)
        refine wp_seq (region_plain ?_)
        refine lq (.int .i64 (1 : Int)) S (q_assign rfl) fun a S => ?_
        refine lx_nil (thenN ?_)
        refine wp_seq (region_plain ?_)
        refine lq v91 S (q_move rfl) fun a S => ?_
        refine lq (.int .i64 (1 : Int)) S (q_move rfl) fun a S => ?_
        obtain ⟨x138, e139, hm⟩ := bind_some hm
        refine lx_call (xs := [.tmp 62, .tmp 63]) S trivial (by decide) rfl rfl Tryz.call39 ((laws_markInt64S_ok H  e139).mono ?_)
        rintro e w136 ⟨rfl, H⟩
        refine ⟨_, rfl, trivial, fun a S => ?_⟩
        refine lq (.int .i64 x138.1) S (q_assign rfl) fun a S => ?_
        refine lx_nil (thenN ?_)
        refine wp_seq (region_plain ?_)
        refine lq (.int .i64 (1 : Int)) S (q_assign rfl) fun a S => ?_
        refine lx_nil (thenN ?_)
        refine wp_seq (region_plain ?_)
        refine lq v91 S (q_move rfl) fun a S => ?_
        refine lq (.int .i64 (1 : Int)) S (q_move rfl) fun a S => ?_
        obtain ⟨x142, e143, hm⟩ := bind_some hm
        refine lx_call (xs := [.tmp 65, .tmp 66]) S trivial (by decide) rfl rfl Tryz.call44 ((laws_heldInt64S_ok (H.rdAt 0 rfl)  e143).mono ?_)
        rintro e w140 ⟨rfl, Hc141⟩
        have H := H.call0 Hc141
        refine ⟨_, rfl, trivial, fun a S => ?_⟩
        refine lq (.int .i64 x142) S (q_assign rfl) fun a S => ?_
        refine lx_nil (thenN ?_)
        refine wp_seq (wp_seq (region_plain ?_))
        refine lq (.int .i64 x142) S (q_move rfl) fun a S => ?_
        refine lq (.bool (decide (x142 < (0 : Int)))) S (q_lss rfl rfl) fun a S => ?_
        refine lx_nil (thenN ?_)
        refine cond_b S rfl (fun hc145 => ?_) (fun hc145 => ?_)
        ·have hm := ite_t hc145 hm
         refine wp_seq (region_plain ?_)
         refine lq (.bool false) S (q_assign rfl) fun a S => ?_
         refine lx_nil (thenN ?_)
         refine wp_ret (then_ret ?_)
         obtain rfl := Option.some.inj hm
         have H : Heap w0 [] w140 := H.sel [] (by decide)
         exact leave1 S rfl rfl ⟨rfl, H⟩
        ·have hm := ite_f hc145 hm
         refine wp_skip (thenN ?_)
         refine wp_seq (wp_seq (region_plain ?_))
         refine lq (.int .i64 x142) S (q_move rfl) fun a S => ?_
         refine lq (.int .i64 x138.1) S (q_move rfl) fun a S => ?_
         refine lq (.bool (x142 != x138.1)) S (q_neq rfl rfl) fun a S => ?_
         refine lx_nil (thenN ?_)
         refine cond_b S rfl (fun hc146 => ?_) (fun hc146 => ?_)
         ·have hm := ite_t hc146 hm
          refine wp_seq (region_plain ?_)
          refine lq (.bool false) S (q_assign rfl) fun a S => ?_
          refine lx_nil (thenN ?_)
          refine wp_ret (then_ret ?_)
          obtain rfl := Option.some.inj hm
          have H : Heap w0 [] w140 := H.sel [] (by decide)
          exact leave1 S rfl rfl ⟨rfl, H⟩
         ·have hm := ite_f hc146 hm
          refine wp_skip (thenN ?_)
          refine wp_seq (region_plain ?_)
          refine lx_e (.agg #[(.int .i64 a0.1), (.int .i64 a0.2.1), v33, v35]) S trivial (by decide) rfl trivial (q_loadA (cs := [(.int .i64 a0.1), (.int .i64 a0.2.1), v33, v35]) rfl (isP_bp _) Tryz.isAgg25 Tryz.sizeOf25 (by rintro _ rfl; exact (fun j u hu => boxAt (i := 2) H rfl hu))) (fun a S => ?_)
          obtain ⟨x149, e150, hm⟩ := bind_some hm
          refine lx_call (xs := [.tmp 74]) S trivial (by decide) rfl rfl Tryz.call21 ((laws_toLts_ok ⟨[(.int .i64 a0.1), (.int .i64 a0.2.1), v33, v35], rfl, ⟨[(.int .i64 a0.1)], [(.int .i64 a0.2.1), v33, v35], rfl, rfl, ⟨[(.int .i64 a0.2.1)], [v33, v35], rfl, rfl, ⟨[v33], [v35], rfl, ((H.arg h34)).list_rd, ((H.arg h36)).list_rd⟩⟩⟩⟩ e150).mono ?_)
          rintro e w147 ⟨v151, v152, rfl, Hc148⟩
          have H := H.call2 Hc148
          refine ⟨_, rfl, trivial, fun a S => ?_⟩
          obtain ⟨x158, e159, hm⟩ := bind_some hm
          refine lx_call (xs := [.tmp 75]) S trivial (by decide) rfl rfl Tryz.call48 ((impl_DivergentStates_ok (hG.ext H.ext) ⟨[(.int .i64 x149.1), (.int .i64 x149.2.1), v151, v152], rfl, ⟨[(.int .i64 x149.1)], [(.int .i64 x149.2.1), v151, v152], rfl, rfl, ⟨[(.int .i64 x149.2.1)], [v151, v152], rfl, rfl, ⟨[v151], [v152], rfl, ((H.rdAt 0 rfl)).list_rd, ((H.rdAt 1 rfl)).list_rd⟩⟩⟩⟩ e159).mono ?_)
          rintro e w156 ⟨v160, rfl, Hc157⟩
          have H := H.call1 Hc157
          refine ⟨_, rfl, trivial, fun a S => ?_⟩
          refine lq (.tuple #[v160, (.int .i64 x158.2)]) S (q_move rfl) fun a S => ?_
          refine lq v160 S (q_extract rfl rfl) fun a S => ?_
          refine lq (.int .i64 x158.2) S (q_extract rfl rfl) fun a S => ?_
          refine lq v160 S (q_assign rfl) fun a S => ?_
          refine lq (.int .i64 x158.2) S (q_assign rfl) fun a S => ?_
          refine lx_nil (thenN ?_)
          refine wp_seq (wp_seq (region_plain ?_))
          refine lq v160 S (q_move rfl) fun a S => ?_
          refine lq v71 S (q_move rfl) fun a S => ?_
          obtain ⟨x165, e166, hm⟩ := bind_some hm
          refine lx_call (xs := [.tmp 79, .tmp 80]) S trivial (by decide) rfl rfl Tryz.call29 ((laws_eqInt64S_ok (H.rdAt 0 rfl) (H.rdAt 4 rfl) e166).mono ?_)
          rintro e w163 ⟨rfl, Hc164⟩
          have H := H.call0 Hc164
          refine ⟨_, rfl, trivial, fun a S => ?_⟩
          refine lq (.bool (!x165)) S (q_not rfl) fun a S => ?_
          refine lq (.bool (!x165)) S (q_move rfl) fun a S => ?_
          obtain ⟨t168, e169, hm⟩ := bind_some hm
          refine lx_cut 4 (fun a w => Slots a 96 [(7, v91), (10, (.int .i64 x138.1)), (87, (.bool t168))] ∧ Heap w0 [oA (rList (rInt .i64)) v91 x138.2] w) ?_ ?_
          ·by_cases hc170 : (!x165) = true
           ·have hm := ite_t hc170 e169
            refine lx_skip S rfl rfl (isB_ne hc170) (by decide) (fun a S => ?_)
            refine lx_skip S rfl rfl (isB_ne hc170) (by decide) (fun a S => ?_)
            refine lx_skip S rfl rfl (isB_ne hc170) (by decide) (fun a S => ?_)
            refine lq (.bool true) S (q_pickT' rfl hc170 rfl) fun a S => ?_
            refine lx_nil ?_
            obtain rfl := Option.some.inj hm
            have H := H.sel [3] (by decide)
            exact ⟨S.sub ⟨rfl, rfl, rfl, trivial⟩, H⟩
           ·have hm := ite_f (eq_false_of_ne_true hc170) e169
            have hc170 : (!x165) = false := eq_false_of_ne_true hc170
            refine lx_q (.int .i64 x158.2) S (want_b rfl rfl hc170) (by decide) (q_move rfl) (fun a S => ?_)
            refine lx_q (.int .i64 x69.2) S (want_b rfl rfl hc170) (by decide) (q_move rfl) (fun a S => ?_)
            refine lx_q (.bool (x158.2 != x69.2)) S (want_b rfl rfl hc170) (by decide) (q_neq rfl rfl) (fun a S => ?_)
            refine lq (.bool (x158.2 != x69.2)) S (q_pickF' rfl hc170 rfl) fun a S => ?_
            refine lx_nil ?_
            obtain rfl := Option.some.inj hm
            have H := H.sel [3] (by decide)
            exact ⟨S.sub ⟨rfl, rfl, rfl, trivial⟩, H⟩
          ·rintro a w ⟨S, H⟩
           refine lx_nil (thenN ?_)
           refine cond_b S rfl (fun hc171 => ?_) (fun hc171 => ?_)
           ·have hm := ite_t hc171 hm
            refine wp_seq (region_plain ?_)
            refine lq (.bool false) S (q_assign rfl) fun a S => ?_
            refine lx_nil (thenN ?_)
            refine wp_ret (then_ret ?_)
            obtain rfl := Option.some.inj hm
            have H : Heap w0 [] w := H.sel [] (by decide)
            exact leave1 S rfl rfl ⟨rfl, H⟩
           ·have hm := ite_f hc171 hm
            refine wp_skip (thenN ?_)
            refine wp_seq (region_plain ?_)
            refine lq (.int .i64 (1 : Int)) S (q_assign rfl) fun a S => ?_
            refine lx_nil (thenN ?_)
            refine wp_seq (region_plain ?_)
            refine lq v91 S (q_move rfl) fun a S => ?_
            refine lq (.int .i64 (1 : Int)) S (q_move rfl) fun a S => ?_
            obtain ⟨x174, e175, hm⟩ := bind_some hm
            refine lx_call (xs := [.tmp 88, .tmp 89]) S trivial (by decide) rfl rfl Tryz.call44 ((laws_heldInt64S_ok (H.rdAt 0 rfl)  e175).mono ?_)
            rintro e w172 ⟨rfl, Hc173⟩
            have H := H.call0 Hc173
            refine ⟨_, rfl, trivial, fun a S => ?_⟩
            refine lq (.int .i64 x174) S (q_assign rfl) fun a S => ?_
            refine lx_nil (thenN ?_)
            refine wp_seq (wp_seq (region_plain ?_))
            refine lq (.int .i64 x174) S (q_move rfl) fun a S => ?_
            refine lq (.bool (decide (x174 < (0 : Int)))) S (q_lss rfl rfl) fun a S => ?_
            refine lx_nil (thenN ?_)
            refine cond_b S rfl (fun hc177 => ?_) (fun hc177 => ?_)
            ·have hm := ite_t hc177 hm
             refine wp_seq (region_plain ?_)
             refine lq (.bool false) S (q_assign rfl) fun a S => ?_
             refine lx_nil (thenN ?_)
             refine wp_ret (then_ret ?_)
             obtain rfl := Option.some.inj hm
             have H : Heap w0 [] w172 := H.sel [] (by decide)
             exact leave1 S rfl rfl ⟨rfl, H⟩
            ·have hm := ite_f hc177 hm
             refine wp_skip (thenN ?_)
             refine wp_seq (wp_seq (region_plain ?_))
             refine lq (.int .i64 x174) S (q_move rfl) fun a S => ?_
             refine lq (.int .i64 x138.1) S (q_move rfl) fun a S => ?_
             refine lq (.bool (x174 != x138.1)) S (q_neq rfl rfl) fun a S => ?_
             refine lx_nil (thenN ?_)
             refine cond_b S rfl (fun hc178 => ?_) (fun hc178 => ?_)
             ·have hm := ite_t hc178 hm
              refine wp_seq (region_plain ?_)
              refine lq (.bool false) S (q_assign rfl) fun a S => ?_
              refine lx_nil (thenN ?_)
              refine wp_ret (then_ret ?_)
              obtain rfl := Option.some.inj hm
              have H : Heap w0 [] w172 := H.sel [] (by decide)
              exact leave1 S rfl rfl ⟨rfl, H⟩
             ·have hm := ite_f hc178 hm
              refine wp_skip (thenN ?_)
              refine wp_seq (region_plain ?_)
              refine lq (.bool true) S (q_assign rfl) fun a S => ?_
              refine lx_nil (thenN ?_)
              refine wp_ret ?_
              obtain rfl := Option.some.inj hm
              have H : Heap w0 [] w172 := H.sel [] (by decide)
              exact leave1 S rfl rfl ⟨rfl, H⟩
end Go.Proofs.YtkgkfbmcnchdbaaGreatDoor
