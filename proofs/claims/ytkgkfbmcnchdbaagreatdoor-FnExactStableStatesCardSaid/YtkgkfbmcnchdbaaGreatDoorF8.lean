/- The models of some functions and their walks (printed by a program of this repo). -/
import Derived.Test.YtkgkfbmcnchdbaaGreatDoorF0
import Derived.Test.YtkgkfbmcnchdbaaGreatDoorF2
import Derived.Test.YtkgkfbmcnchdbaaGreatDoorGxT
import Derived.Test.YtkgkfbmcnchdbaaGreatDoorGxY
namespace Go.Proofs.YtkgkfbmcnchdbaaGreatDoor
open Go.RowKit Go.Gx

/-- impl.upTo -/
def impl_upTo_m (fuel : Nat) (a0 : Int) : Option ((List Int)) :=
  (iter (fun (s : (List Int) × (Int)) => (match s with | (xs46, x48) => (if (decide (x48 < a0)) = true then (app xs46 [x48]).bind fun x78 => some (.inl (x78, (W (x48 + (1 : Int))))) else some (.inr (.inl (xs46)))) : Option (((List Int) × (Int)) ⊕ (((List Int)) ⊕ ((List Int)))))) fuel ([], (0 : Int))).bind fun res65 => ctl (β := (List Int)) (ρ := (List Int)) (τ := (List Int)) res65 (fun (xs63) => some (xs63)) (fun q => some (q))
set_option maxRecDepth 20000 in
theorem impl_upTo_ok {w0 : World} {fuel : Nat} {a0 : Int} {r : (List Int)} (hm : impl_upTo_m fuel a0 = some r) :
  Calls Tryz.prog 117 #[.int .i64 a0] w0 fun e w => ∃ (v0 : Value), e = .returned (v0) ∧ Heap w0 [oA (rList (rInt .i64)) v0 r] w := by
 unfold impl_upTo_m at hm
 have H := Heap.start w0
 refine enter (args := [.int .i64 a0]) Tryz.func117 rfl 15 rfl (Nat.le_of_ble_eq_true rfl) (fun a S => ?_)
 refine wp_seq (region_plain ?_)
 refine lq (.slice none 0 0) S (q_assign rfl) fun a S => ?_
 refine lx_nil (thenN ?_)
 refine wp_seq (region_plain ?_)
 refine lq (.slice none 0 0) S (q_assign rfl) fun a S => ?_
 refine lx_nil (thenN ?_)
 refine wp_seq (wp_seq (region_plain ?_))
 refine lq (.int .i64 a0) S (q_move rfl) fun a S => ?_
 refine lq (.int .i64 (0 : Int)) S (q_move rfl) fun a S => ?_
 refine lx_nil (thenN ?_)
 obtain ⟨res65, hit66, hk69⟩ := bind_some hm
 obtain ⟨f67, hf68, hit66⟩ := iter_name hit66
 refine block_loop (fun a w => ∃ (xs63 : List Int) (v62 : Value), Slots a 15 [(3, v62)] ∧ Heap w0 [oA (rList (rInt .i64)) v62 xs63] w ∧ res65 = .inl (xs63)) ?_ ?_
 ·rintro a w ⟨xs63, v62, S, H, rfl⟩
  have hm := ctl_inl hk69
  refine thenN ?_
  refine wp_seq (region_plain ?_)
  refine lq v62 S (q_move rfl) fun a S => ?_
  refine lq v62 S (q_assign rfl) fun a S => ?_
  refine lx_nil (thenN ?_)
  refine wp_ret ?_
  obtain rfl := Option.some.inj hm
  exact leave1 S rfl rfl ⟨v62, rfl, H⟩
 ·skip
  have H : Heap w0 [oA (rList (rInt .i64)) (.slice none 0 0) ([] : List Int)] w0 := H.nilList (rInt .i64)
  refine loop_ghost (fun n a w => ∃ (xs46 : List Int) (x48 : Int) (v45 : Value), Slots a 15 [(3, v45), (5, (.int .i64 a0)), (6, (.int .i64 x48))] ∧ Heap w0 [oA (rList (rInt .i64)) v45 xs46] w ∧ iter f67 n (xs46, x48) = some res65) _ ⟨[], (0 : Int), (.slice none 0 0), S.sub ⟨rfl, rfl, rfl, trivial⟩, H, hit66⟩ ?_
  rintro n a w ⟨xs46, x48, v45, S, H, hit66⟩
  obtain ⟨m71, o72, rfl, hm, hc73⟩ := iter_step hit66
  rw [hf68] at hm
  refine wp_seq (region_plain ?_)
  refine lq (.bool (decide (x48 < a0))) S (q_lss rfl rfl) fun a S => ?_
  refine lx_nil (thenN ?_)
  refine wp_seq ?_
  refine cond_b S rfl (fun hc74 => ?_) (fun hc74 => ?_)
  ·have hm := ite_t hc74 hm
   refine wp_skip (thenN ?_)
   refine wp_seq ?_
   refine wp_block ?_
   refine wp_seq (region_plain ?_)
   refine lq (.int .i64 x48) S (q_move rfl) fun a S => ?_
   refine lq (.int .i64 x48) S (q_assign rfl) fun a S => ?_
   refine lx_nil (thenN ?_)
   refine region_plain ?_
   refine lq v45 S (q_move rfl) fun a S => ?_
   refine lq (.int .i64 x48) S (q_move rfl) fun a S => ?_
   refine lx_buildSlice (r := (rInt .i64)) (xs := [x48]) (ps := [(0, [(.int .i64 x48)])]) (cs := [(.int .i64 x48)]) (parts := [(0, .tmp 10)]) S trivial (by decide) rfl (H.put0 (A := eA) rfl) rfl Tryz.underlying34 Tryz.sizeOf2 Tryz.zeroValue2 (by decide) ⟨rfl, rfl, Nat.le_of_ble_eq_true rfl, trivial⟩ (by intro zs hz; exact fill_dense hz ⟨rfl, trivial⟩ rfl rfl) rfl (by decide) (fun w F hA => by cases (show F = [] from hA); exact ⟨_, _, [(.int .i64 x48)], _, rfl, rfl, ⟨rfl, rfl⟩, ⟨rfl, rfl⟩⟩) (fun v75 w76 H => ⟨trivial, fun a S => ?_⟩)
   obtain ⟨x78, e79, hm⟩ := bind_some hm
   obtain ⟨hle, hap⟩ := app_some e79
   replace hap := hap.symm
   subst hap
   have H : Heap w0 [oA (rList (rInt .i64)) v75 [x48], oA (rList (rInt .i64)) v45 xs46] w76 := H.front 0 rfl
   have H : Heap w0 [oA (rList (rInt .i64)) v45 xs46, oA (rList (rInt .i64)) v75 [x48]] w76 := H.front 1 rfl
   refine lx_appendOwn (r := (rInt .i64)) S trivial (by decide) rfl H rfl rfl Tryz.underlying34 Tryz.ti2 rfl rfl rfl (by decide) (by decide) hle (fun v80 w81 H => ⟨trivial, fun a S => ?_⟩)
   refine lq v80 S (q_assign rfl) fun a S => ?_
   refine lx_nil ?_
   refine inBlock_norm ?_
   refine thenN ?_
   refine region_plain ?_
   refine lq (.int .i64 (W (x48 + (1 : Int)))) S (q_add rfl rfl) fun a S => ?_
   refine lq (.int .i64 (W (x48 + (1 : Int)))) S (q_move rfl) fun a S => ?_
   refine lx_nil ?_
   exact ⟨m71, Nat.lt_succ_self _, (xs46 ++ [x48]), (W (x48 + (1 : Int))), v80, S.sub ⟨rfl, rfl, rfl, trivial⟩, H, it_cont hm hc73⟩
  ·have hm := ite_f hc74 hm
   refine wp_exit ?_
   refine then_exit ?_
   refine then_exit ?_
   refine inBlock_exit ?_
   obtain rfl := it_brk hm hc73
   exact ⟨xs46, v45, S.sub ⟨rfl, trivial⟩, H, rfl⟩

/-- slices.DeleteFunc[[]int64,int64] -/
def slices_DeleteFunc__int64_int64_m (fuel : Nat) (a0 : (List Int)) (a1 : (Int → Option Bool)) : Option ((List Int)) :=
  (slices_IndexFunc__int64_int64_m fuel a0 a1).bind fun x33 => (if (x33 == (-1 : Int)) = true then some (a0) else (iter (fun (s : (List Int) × (Int) × (Int)) => (match s with | (xs61, x62, x63) => (if (decide (x63 < (xs61.length : Int))) = true then join (κ := List Int → Int → Option (((List Int) × (Int) × (Int)) ⊕ (((List Int) × Int) ⊕ ((List Int))))) (fun (xs104 : List Int) (x105 : Int) => some (.inl (xs104, x105, (W (x63 + (1 : Int)))))) (fun K106 => (idx xs61 x63).bind fun x108 => (a1 x108).bind fun x117 => (if (!x117) = true then (idx xs61 x62).bind fun _ => (K106 (xs61.set x62.toNat x108) (W (x62 + (1 : Int)))) else (K106 xs61 x62))) else some (.inr (.inl (xs61, x62)))) : Option (((List Int) × (Int) × (Int)) ⊕ (((List Int) × Int) ⊕ ((List Int)))))) fuel (a0, x33, (W (x33 + (1 : Int))))).bind fun res90 => ctl (β := (List Int) × Int) (ρ := (List Int)) (τ := (List Int)) res90 (fun (xs88, x89) => (sub xs88 x89 (xs88.length : Int)).bind fun _xs95 => (sub (clr xs88 (x89).toNat ((xs88.length : Int)).toNat (0 : Int)) (0 : Int) x89).bind fun xs98 => some (xs98)) (fun q => some (q)))
set_option maxRecDepth 20000 in
theorem slices_DeleteFunc__int64_int64_ok {w0 : World} {fuel : Nat} {p0 : Value} {a0 : (List Int)} {a1 : (Int → Option Bool)} {f1 : Nat} {fs1 cp1 : List Value} {w00 : World} {L : List Asrt} {r : (List Int)} (H : Heap w00 (oA (rList (rInt .i64)) p0 a0 :: L) w0) (hcf1 : ∀ args w, (callFunc f1 args).run Tryz.prog w = .ok (.enter f1 args) w) (hf1 : ∀ {w : World} {x0_ : Int} {y : Bool}, Heap w00 L w → a1 x0_ = some y → Calls Tryz.prog f1 (fs1 ++ ([.int .i64 x0_] : List Value) ++ cp1).toArray w fun e w' => e = .returned (.bool y) ∧ Heap w [] w') (hm : slices_DeleteFunc__int64_int64_m fuel a0 a1 = some r) :
  Calls Tryz.prog 100 #[p0, .func (.func f1) fs1.toArray cp1.toArray] w0 fun e w => ∃ (v0 : Value), e = .returned (v0) ∧ Heap w00 (oA (rList (rInt .i64)) v0 r :: L) w := by
 unfold slices_DeleteFunc__int64_int64_m at hm
 refine enter (args := [p0, .func (.func f1) fs1.toArray cp1.toArray]) Tryz.func100 rfl 42 rfl (Nat.le_of_ble_eq_true rfl) (fun a S => ?_)
 refine wp_seq (region_plain ?_)
 refine lq (.slice none 0 0) S (q_assign rfl) fun a S => ?_
 refine lx_nil (thenN ?_)
 refine wp_seq (region_plain ?_)
 refine lq p0 S (q_move rfl) fun a S => ?_
 refine lq (.func (.func f1) fs1.toArray cp1.toArray) S (q_move rfl) fun a S => ?_
 obtain ⟨x33, e34, hm⟩ := bind_some hm
 refine lx_call (xs := [.tmp 8, .tmp 9]) S trivial (by decide) rfl rfl Tryz.call131 ((slices_IndexFunc__int64_int64_ok (f1 := f1) (fs1 := fs1) (cp1 := cp1) (a1 := a1) (H.rdAt 0 rfl) hcf1 (fun he  hm => hf1 (Heap.later (H.tail) he)  hm) e34).mono ?_)
 rintro e w31 ⟨rfl, Hc32⟩
 have H := H.call0 Hc32
 refine ⟨_, rfl, trivial, fun a S => ?_⟩
 refine lq (.int .i64 x33) S (q_assign rfl) fun a S => ?_
 refine lx_nil (thenN ?_)
 refine wp_seq (wp_seq (region_plain ?_))
 refine lq (.int .i64 x33) S (q_move rfl) fun a S => ?_
 refine lq (.bool (x33 == (-1 : Int))) S (q_eql rfl rfl) fun a S => ?_
 refine lx_nil (thenN ?_)
 refine cond_b S rfl (fun hc36 => ?_) (fun hc36 => ?_)
 ·have hm := ite_t hc36 hm
  refine wp_seq (region_plain ?_)
  refine lq p0 S (q_move rfl) fun a S => ?_
  refine lq p0 S (q_assign rfl) fun a S => ?_
  refine lx_nil (thenN ?_)
  refine wp_ret (then_ret ?_)
  obtain rfl := Option.some.inj hm
  exact leave1 S rfl rfl ⟨p0, rfl, H⟩
 ·have hm := ite_f hc36 hm
  refine wp_skip (thenN ?_)
  refine wp_seq (wp_seq (region_plain ?_))
  refine lq (.int .i64 x33) S (q_move rfl) fun a S => ?_
  refine lq (.int .i64 (W (x33 + (1 : Int)))) S (q_add rfl rfl) fun a S => ?_
  refine lq (.int .i64 (W (x33 + (1 : Int)))) S (q_assign rfl) fun a S => ?_
  refine lx_nil (thenN ?_)
  obtain ⟨res90, hit91, hk94⟩ := bind_some hm
  obtain ⟨f92, hf93, hit91⟩ := iter_name hit91
  refine block_loop (fun a w => ∃ (xs88 : List Int) (x89 : Int), Slots a 42 [(0, p0), (5, (.int .i64 x89))] ∧ Heap w00 (oA (rList (rInt .i64)) p0 xs88 :: L) w ∧ res90 = .inl (xs88, x89)) ?_ ?_
  ·rintro a w ⟨xs88, x89, S, H, rfl⟩
   have hm := ctl_inl hk94
   refine thenN ?_
   refine wp_seq (region_plain ?_)
   refine lq p0 S (q_move rfl) fun a S => ?_
   refine lq (.int .i64 x89) S (q_move rfl) fun a S => ?_
   obtain ⟨xs95, e96, hm⟩ := bind_some hm
   have hsb := (sub_some e96).1
   refine lq (subV p0 (x89).toNat ((xs88.length : Int)).toNat 1) S (q_slice (lo := (some (.tmp 37))) (hi := none) (l := x89) (h := (xs88.length : Int)) (size := 1) rfl (H.isSl 0 rfl) Tryz.underlying34 Tryz.sizeOf2 rfl rfl hsb.1 hsb.2.1 hsb.2.2) fun a S => ?_
   have hS := e96
   refine lx_clear (r := (rInt .i64)) (lo := x89) (hi := (xs88.length : Int)) (z0 := (0 : Int)) S trivial rfl H rfl hS Tryz.underlying34 Tryz.zeroValue2 rfl rfl (fun w => ⟨rfl, rfl⟩) (fun w97 H => ⟨trivial, fun a S => ?_⟩)
   refine lx_nil (thenN ?_)
   refine wp_seq (region_plain ?_)
   refine lq p0 S (q_move rfl) fun a S => ?_
   refine lq (.int .i64 x89) S (q_move rfl) fun a S => ?_
   obtain ⟨xs98, e99, hm⟩ := bind_some hm
   have hsb := (sub_some e99).1
   refine lq (subV p0 ((0 : Int)).toNat (x89).toNat 1) S (q_slice (lo := none) (hi := (some (.tmp 40))) (l := (0 : Int)) (h := x89) (size := 1) rfl (H.isSl 0 rfl) Tryz.underlying34 Tryz.sizeOf2 rfl rfl hsb.1 hsb.2.1 hsb.2.2) fun a S => ?_
   have H : Heap w00 (oA (rList (rInt .i64)) (subV p0 ((0 : Int)).toNat (x89).toNat 1) xs98 :: L) w97 := H.cut e99
   refine lq (subV p0 ((0 : Int)).toNat (x89).toNat 1) S (q_assign rfl) fun a S => ?_
   refine lx_nil (thenN ?_)
   refine wp_ret ?_
   obtain rfl := Option.some.inj hm
   exact leave1 S rfl rfl ⟨(subV p0 ((0 : Int)).toNat (x89).toNat 1), rfl, H⟩
  ·skip
   refine loop_ghost (fun n a w => ∃ (xs61 : List Int) (x62 : Int) (x63 : Int), Slots a 42 [(0, p0), (1, (.func (.func f1) fs1.toArray cp1.toArray)), (5, (.int .i64 x62)), (6, (.int .i64 x63))] ∧ Heap w00 (oA (rList (rInt .i64)) p0 xs61 :: L) w ∧ iter f92 n (xs61, x62, x63) = some res90) _ ⟨a0, x33, (W (x33 + (1 : Int))), S.sub ⟨rfl, rfl, rfl, rfl, trivial⟩, H, hit91⟩ ?_
   rintro n a w ⟨xs61, x62, x63, S, H, hit91⟩
   obtain ⟨m100, o101, rfl, hm, hc102⟩ := iter_step hit91
   rw [hf93] at hm
   refine wp_seq (wp_seq (region_plain ?_))
   refine lq (.int .i64 x63) S (q_move rfl) fun a S => ?_
   refine lq p0 S (q_move rfl) fun a S => ?_
   refine lq (.int .i64 (xs61.length : Int)) S (q_lenSl rfl (H.isSl 0 rfl) rfl Tryz.underlying34) fun a S => ?_
   refine lq (.bool (decide (x63 < (xs61.length : Int)))) S (q_lss rfl rfl) fun a S => ?_
   refine lx_nil (thenN ?_)
   refine cond_b S rfl (fun hc103 => ?_) (fun hc103 => ?_)
   ·have hm := ite_t hc103 hm
    refine wp_skip (thenN ?_)
    obtain ⟨K106, hK107, hm⟩ := join_elim hm
    refine seq_cut (fun a w => ∃ (xs104 : List Int) (x105 : Int), Slots a 42 [(0, p0), (1, (.func (.func f1) fs1.toArray cp1.toArray)), (5, (.int .i64 x105)), (6, (.int .i64 x63))] ∧ Heap w00 (oA (rList (rInt .i64)) p0 xs104 :: L) w ∧ K106 xs104 x105 = some o101) ?_ ?_
    ·rintro a w ⟨xs104, x105, S, H, hm⟩
     subst hK107
     refine region_plain ?_
     refine lq (.int .i64 x63) S (q_move rfl) fun a S => ?_
     refine lq (.int .i64 (W (x63 + (1 : Int)))) S (q_add rfl rfl) fun a S => ?_
     refine lq (.int .i64 (W (x63 + (1 : Int)))) S (q_assign rfl) fun a S => ?_
     refine lx_nil ?_
     exact ⟨m100, Nat.lt_succ_self _, xs104, x105, (W (x63 + (1 : Int))), S.sub ⟨rfl, rfl, rfl, rfl, trivial⟩, H, it_cont hm hc102⟩
    ·skip
     refine wp_block ?_
     refine wp_seq (region_plain ?_)
     refine lq p0 S (q_move rfl) fun a S => ?_
     refine lq (.int .i64 x63) S (q_move rfl) fun a S => ?_
     obtain ⟨x108, e109, hm⟩ := bind_some hm
     have hlt := lt_of_idx (idx_some e109).2
     refine lq (ePtr p0 (x63.toNat * 1)) S (q_indexAddr rfl (H.isSl 0 rfl) rfl (idx_some e109).1 hlt Tryz.underlying34 Tryz.sizeOf2) fun a S => ?_
     obtain ⟨c110, h111, hat112⟩ := (H.rdAt 0 rfl).elem (idx_some e109).2
     obtain rfl := h111
     refine lx_e (.int .i64 x108) S trivial (by decide) rfl trivial (q_load1 rfl Tryz.isAgg2 (by rintro _ rfl; exact (hat112 0 _ rfl))) (fun a S => ?_)
     refine lq (.int .i64 x108) S (q_assign rfl) fun a S => ?_
     refine lx_nil (thenN ?_)
     refine wp_seq (region_plain ?_)
     refine lq (.func (.func f1) fs1.toArray cp1.toArray) S (q_move rfl) fun a S => ?_
     refine lq (.int .i64 x108) S (q_move rfl) fun a S => ?_
     obtain ⟨x117, e118, hm⟩ := bind_some hm
     refine lx_callV (f := f1) (first := fs1) (cap := cp1) (xs := [.tmp 27]) S trivial (by decide) rfl rfl rfl hcf1 ((hf1 H.tail  e118).mono ?_)
     rintro e w115 ⟨rfl, Hc116⟩
     have H := H.call0 Hc116
     refine ⟨_, rfl, trivial, fun a S => ?_⟩
     refine lq (.bool (!x117)) S (q_not rfl) fun a S => ?_
     refine lx_nil (thenN ?_)
     refine cond_b S rfl (fun hc120 => ?_) (fun hc120 => ?_)
     ·have hm := ite_t hc120 hm
      refine wp_seq (region_plain ?_)
      refine lq p0 S (q_move rfl) fun a S => ?_
      refine lq (.int .i64 x62) S (q_move rfl) fun a S => ?_
      refine lq (.int .i64 x108) S (q_move rfl) fun a S => ?_
      obtain ⟨x121, e122, hm⟩ := bind_some hm
      have hlt := lt_of_idx (idx_some e122).2
      refine lq (ePtr p0 (x62.toNat * 1)) S (q_indexAddr rfl (H.isSl 0 rfl) rfl (idx_some e122).1 hlt Tryz.underlying34 Tryz.sizeOf2) fun a S => ?_
      refine lx_storeElem (r := (rInt .i64)) (us := [(.int .i64 x108)]) (off := 0) (e' := x108) S trivial rfl H.putE (ev_zero rfl) rfl (idx_some e122).2 rfl Tryz.sizeOf2 (Nat.le_of_ble_eq_true rfl) (List.forall_mem_cons.2 ⟨rfl, (fun _ h => nomatch h)⟩) (Upd.full rfl (fun w G hG => by cases (show G = [] from hG); exact ⟨rfl, rfl⟩)) (fun w123 H => ⟨trivial, fun a S => ?_⟩)
      refine lx_nil (thenN ?_)
      refine region_plain ?_
      refine lq (.int .i64 x62) S (q_move rfl) fun a S => ?_
      refine lq (.int .i64 (W (x62 + (1 : Int)))) S (q_add rfl rfl) fun a S => ?_
      refine lq (.int .i64 (W (x62 + (1 : Int)))) S (q_assign rfl) fun a S => ?_
      refine lx_nil ?_
      refine inBlock_norm ?_
      exact ⟨(xs61.set x62.toNat x108), (W (x62 + (1 : Int))), S.sub ⟨rfl, rfl, rfl, rfl, trivial⟩, H, hm⟩
     ·have hm := ite_f hc120 hm
      refine wp_skip ?_
      refine inBlock_norm ?_
      exact ⟨xs61, x62, S.sub ⟨rfl, rfl, rfl, rfl, trivial⟩, H, hm⟩
   ·have hm := ite_f hc103 hm
    refine wp_exit ?_
    refine then_exit ?_
    refine then_exit ?_
    refine inBlock_exit ?_
    obtain rfl := it_brk hm hc102
    exact ⟨xs61, x62, S.sub ⟨rfl, rfl, trivial⟩, H, rfl⟩

/-- slices.Index[[]string,string] -/
def slices_Index__string_string_m (fuel : Nat) (a0 : (List Str)) (a1 : Str) : Option (Int) :=
  (iter (fun (s : (Int)) => (match s with | (x39) => (if (decide (x39 < (a0.length : Int))) = true then (idx a0 x39).bind fun x57 => (if (a1 == x57) = true then some (.inr (.inr x39)) else some (.inl ((W (x39 + (1 : Int)))))) else some (.inr (.inl ()))) : Option (((Int)) ⊕ ((Unit) ⊕ (Int))))) fuel ((0 : Int))).bind fun res48 => ctl (β := Unit) (ρ := Int) (τ := Int) res48 (fun _ => some ((-1 : Int))) (fun q => some (q))
set_option maxRecDepth 20000 in
theorem slices_Index__string_string_ok {w0 : World} {fuel : Nat} {p0 : Value} {a0 : (List Str)} {a1 : Str} {r : Int} (h0 : Rd (rList rStr) w0 p0 a0) (hm : slices_Index__string_string_m fuel a0 a1 = some r) :
  Calls Tryz.prog 144 #[p0, sv a1] w0 fun e w => e = .returned (.int .i64 r) ∧ Heap w0 [] w := by
 unfold slices_Index__string_string_m at hm
 have H := Heap.start w0
 refine enter (args := [p0, sv a1]) Tryz.func144 rfl 19 rfl (Nat.le_of_ble_eq_true rfl) (fun a S => ?_)
 refine wp_seq (region_plain ?_)
 refine lq (.int .i64 (0 : Int)) S (q_assign rfl) fun a S => ?_
 refine lx_nil (thenN ?_)
 refine wp_seq (wp_seq (region_plain ?_))
 refine lq p0 S (q_move rfl) fun a S => ?_
 refine lq (.int .i64 (a0.length : Int)) S (q_lenSl rfl (h0).isSl rfl Tryz.underlying22) fun a S => ?_
 refine lq (.int .i64 (0 : Int)) S (q_move rfl) fun a S => ?_
 refine lx_nil (thenN ?_)
 obtain ⟨res48, hit49, hk52⟩ := bind_some hm
 obtain ⟨f50, hf51, hit49⟩ := iter_name hit49
 refine block_loop (fun a w => Slots a 19 [] ∧ Heap w0 [] w ∧ res48 = .inl ()) ?_ ?_
 ·rintro a w ⟨S, H, rfl⟩
  have hm := ctl_inl hk52
  refine thenN ?_
  refine wp_seq (region_plain ?_)
  refine lq (.int .i64 (-1 : Int)) S (q_assign rfl) fun a S => ?_
  refine lx_nil (thenN ?_)
  refine wp_ret ?_
  obtain rfl := Option.some.inj hm
  exact leave1 S rfl rfl ⟨rfl, H⟩
 ·skip
  refine loop_ghost (fun n a w => ∃ (x39 : Int), Slots a 19 [(0, p0), (1, (sv a1)), (7, (.int .i64 (a0.length : Int))), (8, (.int .i64 x39))] ∧ Heap w0 [] w ∧ iter f50 n (x39) = some res48) _ ⟨(0 : Int), S.sub ⟨rfl, rfl, rfl, rfl, trivial⟩, H, hit49⟩ ?_
  rintro n a w ⟨x39, S, H, hit49⟩
  obtain ⟨m53, o54, rfl, hm, hc55⟩ := iter_step hit49
  rw [hf51] at hm
  refine wp_seq (region_plain ?_)
  refine lq (.bool (decide (x39 < (a0.length : Int)))) S (q_lss rfl rfl) fun a S => ?_
  refine lx_nil (thenN ?_)
  refine wp_seq ?_
  refine cond_b S rfl (fun hc56 => ?_) (fun hc56 => ?_)
  ·have hm := ite_t hc56 hm
   refine wp_skip (thenN ?_)
   refine wp_seq ?_
   refine wp_block ?_
   refine wp_seq (region_plain ?_)
   refine lq (.int .i64 x39) S (q_move rfl) fun a S => ?_
   refine lq (.int .i64 x39) S (q_assign rfl) fun a S => ?_
   refine lx_nil (thenN ?_)
   refine wp_seq (region_plain ?_)
   refine lq (sv a1) S (q_move rfl) fun a S => ?_
   refine lq p0 S (q_move rfl) fun a S => ?_
   refine lq (.int .i64 x39) S (q_move rfl) fun a S => ?_
   obtain ⟨x57, e58, hm⟩ := bind_some hm
   obtain ⟨c59, h60, hat61⟩ := (h0).elem (idx_some e58).2
   obtain rfl := h60
   have hlt := lt_of_idx (idx_some e58).2
   refine lq (ePtr p0 (x39.toNat * 1)) S (q_indexAddr rfl (h0).isSl rfl (idx_some e58).1 hlt Tryz.underlying22 Tryz.sizeOf9) fun a S => ?_
   refine lx_e (sv x57) S trivial (by decide) rfl trivial (q_load1 rfl Tryz.isAgg9 (by rintro _ rfl; exact ((hat61 0 _ rfl).ext H.ext))) (fun a S => ?_)
   refine lq (.bool (a1 == x57)) S (q_seql rfl rfl) fun a S => ?_
   refine lx_nil (thenN ?_)
   refine cond_b S rfl (fun hc62 => ?_) (fun hc62 => ?_)
   ·have hm := ite_t hc62 hm
    refine wp_seq (region_plain ?_)
    refine lq (.int .i64 x39) S (q_move rfl) fun a S => ?_
    refine lq (.int .i64 x39) S (q_assign rfl) fun a S => ?_
    refine lx_nil (thenN ?_)
    refine wp_ret (inBlock_ret ?_)
    refine then_ret ?_
    refine then_ret ?_
    refine inBlock_ret ?_
    refine then_ret ?_
    refine then_ret ?_
    obtain rfl := it_brk hm hc55
    have hm := ctl_inr hk52
    obtain rfl := Option.some.inj hm
    exact leave1 S rfl rfl ⟨rfl, H⟩
   ·have hm := ite_f hc62 hm
    refine wp_skip ?_
    refine inBlock_norm ?_
    refine thenN ?_
    refine region_plain ?_
    refine lq (.int .i64 (W (x39 + (1 : Int)))) S (q_add rfl rfl) fun a S => ?_
    refine lq (.int .i64 (W (x39 + (1 : Int)))) S (q_move rfl) fun a S => ?_
    refine lx_nil ?_
    exact ⟨m53, Nat.lt_succ_self _, (W (x39 + (1 : Int))), S.sub ⟨rfl, rfl, rfl, rfl, trivial⟩, H, it_cont hm hc55⟩
  ·have hm := ite_f hc56 hm
   refine wp_exit ?_
   refine then_exit ?_
   refine then_exit ?_
   refine inBlock_exit ?_
   obtain rfl := it_brk hm hc55
   exact ⟨S.sub trivial, H, rfl⟩

/-- slices.Contains[[]string,string] -/
def slices_Contains__string_string_m (fuel : Nat) (a0 : (List Str)) (a1 : Str) : Option (Bool) :=
  (slices_Index__string_string_m fuel a0 a1).bind fun x33 => some ((decide ((0 : Int) ≤ x33)))
set_option maxRecDepth 20000 in
theorem slices_Contains__string_string_ok {w0 : World} {fuel : Nat} {p0 : Value} {a0 : (List Str)} {a1 : Str} {r : Bool} (h0 : Rd (rList rStr) w0 p0 a0) (hm : slices_Contains__string_string_m fuel a0 a1 = some r) :
  Calls Tryz.prog 108 #[p0, sv a1] w0 fun e w => e = .returned (.bool r) ∧ Heap w0 [] w := by
 unfold slices_Contains__string_string_m at hm
 have H := Heap.start w0
 refine enter (args := [p0, sv a1]) Tryz.func108 rfl 9 rfl (Nat.le_of_ble_eq_true rfl) (fun a S => ?_)
 refine wp_seq (region_plain ?_)
 refine lq (.bool false) S (q_assign rfl) fun a S => ?_
 refine lx_nil (thenN ?_)
 refine wp_seq (region_plain ?_)
 refine lq p0 S (q_move rfl) fun a S => ?_
 refine lq (sv a1) S (q_move rfl) fun a S => ?_
 obtain ⟨x33, e34, hm⟩ := bind_some hm
 refine lx_call (xs := [.tmp 5, .tmp 6]) S trivial (by decide) rfl rfl Tryz.call144 ((slices_Index__string_string_ok (H.arg h0)  e34).mono ?_)
 rintro e w31 ⟨rfl, Hc32⟩
 have H := H.call0 Hc32
 refine ⟨_, rfl, trivial, fun a S => ?_⟩
 refine lq (.bool (decide ((0 : Int) ≤ x33))) S (q_geq rfl rfl) fun a S => ?_
 refine lq (.bool (decide ((0 : Int) ≤ x33))) S (q_assign rfl) fun a S => ?_
 refine lx_nil (thenN ?_)
 refine wp_ret ?_
 obtain rfl := Option.some.inj hm
 exact leave1 S rfl rfl ⟨rfl, H⟩
end Go.Proofs.YtkgkfbmcnchdbaaGreatDoor
