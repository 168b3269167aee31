/- The models of some functions and their walks (printed by a program of this repo). -/
import Derived.Test.YtecknjdlbmmmiaaF0
import Derived.Test.YtecknjdlbmmmiaaF1
import Derived.Test.YtecknjdlbmmmiaaF2
import Derived.Test.YtecknjdlbmmmiaaF3
import Derived.Test.YtecknjdlbmmmiaaF4
import Derived.Test.YtecknjdlbmmmiaaF9
import Derived.Test.YtecknjdlbmmmiaaFS
import Derived.Test.YtecknjdlbmmmiaaGxT
namespace Go.Proofs.Ytecknjdlbmmmiaa
open Go.RowKit Go.Gx

/-- slices.DeleteFunc[[]int64,int64] -/
def slices_DeleteFunc__int64_int64_m (fuel : Nat) (a0 : (List Int)) (a1 : (Int → Option Bool)) : Option ((List Int)) :=
  (slices_IndexFunc__int64_int64_m fuel a0 a1).bind fun x33 => (if (x33 == (-1 : Int)) = true then some (a0) else (iter (fun (s : (List Int) × (Int) × (Int)) => (match s with | (xs61, x62, x63) => (if (decide (x63 < (xs61.length : Int))) = true then join (κ := List Int → Int → Option (((List Int) × (Int) × (Int)) ⊕ (((List Int) × Int) ⊕ ((List Int))))) (fun (xs104 : List Int) (x105 : Int) => some (.inl (xs104, x105, (W (x63 + (1 : Int)))))) (fun K106 => (idx xs61 x63).bind fun x108 => (a1 x108).bind fun x117 => (if (!x117) = true then (idx xs61 x62).bind fun _ => (K106 (xs61.set x62.toNat x108) (W (x62 + (1 : Int)))) else (K106 xs61 x62))) else some (.inr (.inl (xs61, x62)))) : Option (((List Int) × (Int) × (Int)) ⊕ (((List Int) × Int) ⊕ ((List Int)))))) fuel (a0, x33, (W (x33 + (1 : Int))))).bind fun res90 => ctl (β := (List Int) × Int) (ρ := (List Int)) (τ := (List Int)) res90 (fun (xs88, x89) => (sub xs88 x89 (xs88.length : Int)).bind fun xs95 => (sub (clr xs88 (x89).toNat ((xs88.length : Int)).toNat (0 : Int)) (0 : Int) x89).bind fun xs98 => some (xs98)) (fun q => some (q)))
set_option maxRecDepth 20000 in
theorem slices_DeleteFunc__int64_int64_ok {w0 : World} {fuel : Nat} {p0 : Value} {a0 : (List Int)} {a1 : (Int → Option Bool)} {f1 : Nat} {fs1 cp1 : List Value} {w00 : World} {L : List Asrt} {r : (List Int)} (H : Heap w00 (oA (rList (rInt .i64)) p0 a0 :: L) w0) (hcf1 : ∀ args w, (callFunc f1 args).run Try.prog w = .ok (.enter f1 args) w) (hf1 : ∀ {w : World} {x0_ : Int} {y : Bool}, Heap w00 L w → a1 x0_ = some y → Calls Try.prog f1 (fs1 ++ ([.int .i64 x0_] : List Value) ++ cp1).toArray w fun e w' => e = .returned (.bool y) ∧ Heap w [] w') (hm : slices_DeleteFunc__int64_int64_m fuel a0 a1 = some r) :
    Calls Try.prog 95 #[p0, .func (.func f1) fs1.toArray cp1.toArray] w0 fun e w => ∃ (v0 : Value), e = .returned (v0) ∧ Heap w00 (oA (rList (rInt .i64)) v0 r :: L) w := by
  unfold slices_DeleteFunc__int64_int64_m at hm
  refine enter (args := [p0, .func (.func f1) fs1.toArray cp1.toArray]) Try.func95 rfl 42 rfl (Nat.le_of_ble_eq_true rfl) (fun a S => ?_)
  refine wp_seq ?_
  refine region_plain ?_
  refine lx_q (.slice none 0 0) S trivial (by decide) (q_assign rfl) (fun a S => ?_)
  refine lx_nil ?_
  refine thenN ?_
  refine wp_seq ?_
  refine region_plain ?_
  refine lx_q p0 S trivial (by decide) (q_move rfl) (fun a S => ?_)
  refine lx_q (.func (.func f1) fs1.toArray cp1.toArray) S trivial (by decide) (q_move rfl) (fun a S => ?_)
  obtain ⟨x33, e34, hm⟩ := bind_some hm
  refine lx_call (xs := [.tmp 8, .tmp 9]) S trivial (by decide) rfl rfl Try.call117 ((slices_IndexFunc__int64_int64_ok (f1 := f1) (fs1 := fs1) (cp1 := cp1) (a1 := a1) (H.rdAt 0 rfl) hcf1 (fun he  hm => hf1 (Heap.later (H.tail) he)  hm) e34).mono ?_)
  rintro e w31 ⟨rfl, Hc32⟩
  have he35 := Hc32.ext
  have H := H.call0 Hc32
  refine ⟨_, rfl, trivial, fun a S => ?_⟩
  refine lx_q (.int .i64 x33) S trivial (by decide) (q_assign rfl) (fun a S => ?_)
  refine lx_nil ?_
  refine thenN ?_
  refine wp_seq ?_
  refine wp_seq ?_
  refine region_plain ?_
  refine lx_q (.int .i64 x33) S trivial (by decide) (q_move rfl) (fun a S => ?_)
  refine lx_q (.bool (x33 == (-1 : Int))) S trivial (by decide) (q_eql rfl rfl) (fun a S => ?_)
  refine lx_nil ?_
  refine thenN ?_
  refine cond_b S rfl (fun hc36 => ?_) (fun hc36 => ?_)
  · have hm := ite_t hc36 hm
    refine wp_seq ?_
    refine region_plain ?_
    refine lx_q p0 S trivial (by decide) (q_move rfl) (fun a S => ?_)
    refine lx_q p0 S trivial (by decide) (q_assign rfl) (fun a S => ?_)
    refine lx_nil ?_
    refine thenN ?_
    refine wp_ret ?_
    refine then_ret ?_
    obtain rfl := Option.some.inj hm
    exact leave1 S rfl rfl ⟨p0, rfl, H⟩
  · have hm := ite_f hc36 hm
    refine wp_skip ?_
    refine thenN ?_
    refine wp_seq ?_
    refine wp_seq ?_
    refine region_plain ?_
    refine lx_q (.int .i64 x33) S trivial (by decide) (q_move rfl) (fun a S => ?_)
    refine lx_q (.int .i64 (W (x33 + (1 : Int)))) S trivial (by decide) (q_add rfl rfl) (fun a S => ?_)
    refine lx_q (.int .i64 (W (x33 + (1 : Int)))) S trivial (by decide) (q_assign rfl) (fun a S => ?_)
    refine lx_nil ?_
    refine thenN ?_
    obtain ⟨res90, hit91, hk94⟩ := bind_some hm
    obtain ⟨f92, hf93, hit91⟩ := iter_name hit91
    refine block_loop (fun a w => ∃ (xs88 : List Int) (x89 : Int), Slots a 42 [(0, p0), (5, (.int .i64 x89))] ∧ Heap w00 (oA (rList (rInt .i64)) p0 xs88 :: L) w ∧ res90 = .inl (xs88, x89)) ?_ ?_
    · rintro a w ⟨xs88, x89, S, H, rfl⟩
      have hm := ctl_inl hk94
      refine thenN ?_
      refine wp_seq ?_
      refine region_plain ?_
      refine lx_q p0 S trivial (by decide) (q_move rfl) (fun a S => ?_)
      refine lx_q (.int .i64 x89) S trivial (by decide) (q_move rfl) (fun a S => ?_)
      obtain ⟨xs95, e96, hm⟩ := bind_some hm
      have hsb := (sub_some e96).1
      refine lx_q (subV p0 (x89).toNat ((xs88.length : Int)).toNat 1) S trivial (by decide) (q_slice (lo := (some (.tmp 37))) (hi := none) (l := x89) (h := (xs88.length : Int)) (size := 1) rfl (H.isSl 0 rfl) Try.underlying23 Try.sizeOf2 rfl rfl hsb.1 hsb.2.1 hsb.2.2) (fun a S => ?_)
      have hS := e96
      refine lx_clear (r := (rInt .i64)) (lo := x89) (hi := (xs88.length : Int)) (z0 := (0 : Int)) S trivial rfl H rfl hS Try.underlying23 Try.zeroValue2 rfl rfl (fun w => ⟨rfl, rfl⟩) (fun w97 H => ⟨trivial, fun a S => ?_⟩)
      refine lx_nil ?_
      refine thenN ?_
      refine wp_seq ?_
      refine region_plain ?_
      refine lx_q p0 S trivial (by decide) (q_move rfl) (fun a S => ?_)
      refine lx_q (.int .i64 x89) S trivial (by decide) (q_move rfl) (fun a S => ?_)
      obtain ⟨xs98, e99, hm⟩ := bind_some hm
      have hsb := (sub_some e99).1
      refine lx_q (subV p0 ((0 : Int)).toNat (x89).toNat 1) S trivial (by decide) (q_slice (lo := none) (hi := (some (.tmp 40))) (l := (0 : Int)) (h := x89) (size := 1) rfl (H.isSl 0 rfl) Try.underlying23 Try.sizeOf2 rfl rfl hsb.1 hsb.2.1 hsb.2.2) (fun a S => ?_)
      have H : Heap w00 (oA (rList (rInt .i64)) (subV p0 ((0 : Int)).toNat (x89).toNat 1) xs98 :: L) w97 := H.cut e99
      refine lx_q (subV p0 ((0 : Int)).toNat (x89).toNat 1) S trivial (by decide) (q_assign rfl) (fun a S => ?_)
      refine lx_nil ?_
      refine thenN ?_
      refine wp_ret ?_
      obtain rfl := Option.some.inj hm
      exact leave1 S rfl rfl ⟨(subV p0 ((0 : Int)).toNat (x89).toNat 1), rfl, H⟩
    · skip
      refine loop_ghost (fun n a w => ∃ (xs61 : List Int) (x62 : Int) (x63 : Int), Slots a 42 [(0, p0), (1, (.func (.func f1) fs1.toArray cp1.toArray)), (5, (.int .i64 x62)), (6, (.int .i64 x63))] ∧ Heap w00 (oA (rList (rInt .i64)) p0 xs61 :: L) w ∧ iter f92 n (xs61, x62, x63) = some res90) _ ⟨a0, x33, (W (x33 + (1 : Int))), S.sub ⟨rfl, rfl, rfl, rfl, trivial⟩, H, hit91⟩ ?_
      rintro n a w ⟨xs61, x62, x63, S, H, hit91⟩
      obtain ⟨m100, o101, rfl, hm, hc102⟩ := iter_step hit91
      rw [hf93] at hm
      refine wp_seq ?_
      refine wp_seq ?_
      refine region_plain ?_
      refine lx_q (.int .i64 x63) S trivial (by decide) (q_move rfl) (fun a S => ?_)
      refine lx_q p0 S trivial (by decide) (q_move rfl) (fun a S => ?_)
      refine lx_q (.int .i64 (xs61.length : Int)) S trivial (by decide) (q_lenSl rfl (H.isSl 0 rfl) rfl Try.underlying23) (fun a S => ?_)
      refine lx_q (.bool (decide (x63 < (xs61.length : Int)))) S trivial (by decide) (q_lss rfl rfl) (fun a S => ?_)
      refine lx_nil ?_
      refine thenN ?_
      refine cond_b S rfl (fun hc103 => ?_) (fun hc103 => ?_)
      · have hm := ite_t hc103 hm
        refine wp_skip ?_
        refine thenN ?_
        obtain ⟨K106, hK107, hm⟩ := join_elim hm
        refine seq_cut (fun a w => ∃ (xs104 : List Int) (x105 : Int), Slots a 42 [(0, p0), (1, (.func (.func f1) fs1.toArray cp1.toArray)), (5, (.int .i64 x105)), (6, (.int .i64 x63))] ∧ Heap w00 (oA (rList (rInt .i64)) p0 xs104 :: L) w ∧ K106 xs104 x105 = some o101) ?_ ?_
        · rintro a w ⟨xs104, x105, S, H, hm⟩
          subst hK107
          refine region_plain ?_
          refine lx_q (.int .i64 x63) S trivial (by decide) (q_move rfl) (fun a S => ?_)
          refine lx_q (.int .i64 (W (x63 + (1 : Int)))) S trivial (by decide) (q_add rfl rfl) (fun a S => ?_)
          refine lx_q (.int .i64 (W (x63 + (1 : Int)))) S trivial (by decide) (q_assign rfl) (fun a S => ?_)
          refine lx_nil ?_
          exact ⟨m100, Nat.lt_succ_self _, xs104, x105, (W (x63 + (1 : Int))), S.sub ⟨rfl, rfl, rfl, rfl, trivial⟩, H, it_cont hm hc102⟩
        · skip
          refine wp_block ?_
          refine wp_seq ?_
          refine region_plain ?_
          refine lx_q p0 S trivial (by decide) (q_move rfl) (fun a S => ?_)
          refine lx_q (.int .i64 x63) S trivial (by decide) (q_move rfl) (fun a S => ?_)
          obtain ⟨x108, e109, hm⟩ := bind_some hm
          have hlt := lt_of_idx (idx_some e109).2
          refine lx_q (ePtr p0 (x63.toNat * 1)) S trivial (by decide) (q_indexAddr rfl (H.isSl 0 rfl) rfl (idx_some e109).1 hlt Try.underlying23 Try.sizeOf2) (fun a S => ?_)
          obtain ⟨c110, h111, hat112⟩ := (H.rdAt 0 rfl).elem (idx_some e109).2
          obtain rfl := h111
          refine lx_e (.int .i64 x108) S trivial (by decide) rfl trivial (q_load1 rfl Try.isAgg2 (by rintro _ rfl; exact (hat112 0 _ rfl))) (fun a S => ?_)
          refine lx_q (.int .i64 x108) S trivial (by decide) (q_assign rfl) (fun a S => ?_)
          refine lx_nil ?_
          refine thenN ?_
          refine wp_seq ?_
          refine region_plain ?_
          refine lx_q (.func (.func f1) fs1.toArray cp1.toArray) S trivial (by decide) (q_move rfl) (fun a S => ?_)
          refine lx_q (.int .i64 x108) S trivial (by decide) (q_move rfl) (fun a S => ?_)
          obtain ⟨x117, e118, hm⟩ := bind_some hm
          refine lx_callV (f := f1) (first := fs1) (cap := cp1) (xs := [.tmp 27]) S trivial (by decide) rfl rfl rfl hcf1 ((hf1 H.tail  e118).mono ?_)
          rintro e w115 ⟨rfl, Hc116⟩
          have he119 := Hc116.ext
          have H := H.call0 Hc116
          refine ⟨_, rfl, trivial, fun a S => ?_⟩
          refine lx_q (.bool (!x117)) S trivial (by decide) (q_not rfl) (fun a S => ?_)
          refine lx_nil ?_
          refine thenN ?_
          refine cond_b S rfl (fun hc120 => ?_) (fun hc120 => ?_)
          · have hm := ite_t hc120 hm
            refine wp_seq ?_
            refine region_plain ?_
            refine lx_q p0 S trivial (by decide) (q_move rfl) (fun a S => ?_)
            refine lx_q (.int .i64 x62) S trivial (by decide) (q_move rfl) (fun a S => ?_)
            refine lx_q (.int .i64 x108) S trivial (by decide) (q_move rfl) (fun a S => ?_)
            obtain ⟨x121, e122, hm⟩ := bind_some hm
            have hlt := lt_of_idx (idx_some e122).2
            refine lx_q (ePtr p0 (x62.toNat * 1)) S trivial (by decide) (q_indexAddr rfl (H.isSl 0 rfl) rfl (idx_some e122).1 hlt Try.underlying23 Try.sizeOf2) (fun a S => ?_)
            refine lx_storeElem (r := (rInt .i64)) (us := [(.int .i64 x108)]) (off := 0) (e' := x108) S trivial rfl H.putE (by rw [pAdd_zero]; rfl) rfl (idx_some e122).2 rfl Try.sizeOf2 (Nat.le_of_ble_eq_true rfl) (List.forall_mem_cons.2 ⟨rfl, (fun _ h => nomatch h)⟩) (Upd.full rfl (fun w G hG => by cases (show G = [] from hG); exact ⟨rfl, rfl⟩)) (fun w123 H => ⟨trivial, fun a S => ?_⟩)
            refine lx_nil ?_
            refine thenN ?_
            refine region_plain ?_
            refine lx_q (.int .i64 x62) S trivial (by decide) (q_move rfl) (fun a S => ?_)
            refine lx_q (.int .i64 (W (x62 + (1 : Int)))) S trivial (by decide) (q_add rfl rfl) (fun a S => ?_)
            refine lx_q (.int .i64 (W (x62 + (1 : Int)))) S trivial (by decide) (q_assign rfl) (fun a S => ?_)
            refine lx_nil ?_
            refine inBlock_norm ?_
            exact ⟨(xs61.set x62.toNat x108), (W (x62 + (1 : Int))), S.sub ⟨rfl, rfl, rfl, rfl, trivial⟩, H, hm⟩
          · have hm := ite_f hc120 hm
            refine wp_skip ?_
            refine inBlock_norm ?_
            exact ⟨xs61, x62, S.sub ⟨rfl, rfl, rfl, rfl, trivial⟩, H, hm⟩
      · have hm := ite_f hc103 hm
        refine wp_exit ?_
        refine then_exit ?_
        refine then_exit ?_
        refine inBlock_exit ?_
        obtain rfl := it_brk hm hc102
        exact ⟨xs61, x62, S.sub ⟨rfl, rfl, trivial⟩, H, rfl⟩

/-- impl.sortedSet -/
def impl_sortedSet_m (fuel : Nat) (a0 : (List Int)) : Option ((List Int)) :=
  (slices_Clone__int64_int64_m fuel a0).bind fun x33 => (slices_Sort__int64_int64_m fuel x33).bind fun x40 => (slices_Compact__int64_int64_m fuel x40).bind fun x44 => some (x44)
set_option maxRecDepth 20000 in
theorem impl_sortedSet_ok {w0 : World} {fuel : Nat} {p0 : Value} {a0 : (List Int)} {r : (List Int)} (h0 : Rd (rList (rInt .i64)) w0 p0 a0) (hm : impl_sortedSet_m fuel a0 = some r) :
    Calls Try.prog 101 #[p0] w0 fun e w => ∃ (v0 : Value), e = .returned (v0) ∧ Heap w0 [oA (rList (rInt .i64)) v0 r] w := by
  unfold impl_sortedSet_m at hm
  have H := Heap.start w0
  refine enter (args := [p0]) Try.func101 rfl 10 rfl (Nat.le_of_ble_eq_true rfl) (fun a S => ?_)
  refine wp_seq ?_
  refine region_plain ?_
  refine lx_q (.slice none 0 0) S trivial (by decide) (q_assign rfl) (fun a S => ?_)
  refine lx_nil ?_
  refine thenN ?_
  refine wp_seq ?_
  refine region_plain ?_
  refine lx_q p0 S trivial (by decide) (q_move rfl) (fun a S => ?_)
  obtain ⟨x33, e34, hm⟩ := bind_some hm
  refine lx_call (xs := [.tmp 4]) S trivial (by decide) rfl rfl Try.call96 ((slices_Clone__int64_int64_ok (H.arg h0) e34).mono ?_)
  rintro e w31 ⟨v35, rfl, Hc32⟩
  have he37 := Hc32.ext
  have H := H.call1 Hc32
  refine ⟨_, rfl, trivial, fun a S => ?_⟩
  refine lx_q v35 S trivial (by decide) (q_assign rfl) (fun a S => ?_)
  refine lx_nil ?_
  refine thenN ?_
  refine wp_seq ?_
  refine region_plain ?_
  refine lx_q v35 S trivial (by decide) (q_move rfl) (fun a S => ?_)
  obtain ⟨x40, e41, hm⟩ := bind_some hm
  refine lx_call (xs := [.tmp 6]) S trivial (by decide) rfl rfl Try.call133 ((slices_Sort__int64_int64_ok H  e41).mono ?_)
  rintro e w38 ⟨rfl, H⟩
  refine ⟨_, rfl, trivial, fun a S => ?_⟩
  refine lx_nil ?_
  refine thenN ?_
  refine wp_seq ?_
  refine region_plain ?_
  refine lx_q v35 S trivial (by decide) (q_move rfl) (fun a S => ?_)
  obtain ⟨x44, e45, hm⟩ := bind_some hm
  refine lx_call (xs := [.tmp 8]) S trivial (by decide) rfl rfl Try.call134 ((slices_Compact__int64_int64_ok H  e45).mono ?_)
  rintro e w42 ⟨v46, rfl, H⟩
  refine ⟨_, rfl, trivial, fun a S => ?_⟩
  refine lx_q v46 S trivial (by decide) (q_assign rfl) (fun a S => ?_)
  refine lx_nil ?_
  refine thenN ?_
  refine wp_ret ?_
  obtain rfl := Option.some.inj hm
  exact leave1 S rfl rfl ⟨v46, rfl, H⟩

/-- impl.placesIn -/
def impl_placesIn_m (fuel : Nat) (a0 : (List Int)) (a1 : (List Int)) : Option ((List Int)) :=
  (iter (fun (s : (List Int) × (Int)) => (match s with | (xs56, x58) => (if (decide (x58 < (a1.length : Int))) = true then (idx a1 x58).bind fun x102 => (slices_Index__int64_int64_m fuel a0 x102).bind fun x109 => (app xs56 [x109]).bind fun x115 => some (.inl (x115, (W (x58 + (1 : Int))))) else some (.inr (.inl (xs56)))) : Option (((List Int) × (Int)) ⊕ (((List Int)) ⊕ ((List Int)))))) fuel ([], (0 : Int))).bind fun res85 => ctl (β := (List Int)) (ρ := (List Int)) (τ := (List Int)) res85 (fun (xs83) => (impl_sortedSet_m fuel xs83).bind fun x92 => some (x92)) (fun q => some (q))
set_option maxRecDepth 20000 in
theorem impl_placesIn_ok {w0 : World} {fuel : Nat} {p0 p1 : Value} {a0 : (List Int)} {a1 : (List Int)} {r : (List Int)} (h0 : Rd (rList (rInt .i64)) w0 p0 a0) (h1 : Rd (rList (rInt .i64)) w0 p1 a1) (hm : impl_placesIn_m fuel a0 a1 = some r) :
    Calls Try.prog 98 #[p0, p1] w0 fun e w => ∃ (v0 : Value), e = .returned (v0) ∧ Heap w0 [oA (rList (rInt .i64)) v0 r] w := by
  unfold impl_placesIn_m at hm
  have H := Heap.start w0
  refine enter (args := [p0, p1]) Try.func98 rfl 23 rfl (Nat.le_of_ble_eq_true rfl) (fun a S => ?_)
  refine wp_seq ?_
  refine region_plain ?_
  refine lx_q (.slice none 0 0) S trivial (by decide) (q_assign rfl) (fun a S => ?_)
  refine lx_nil ?_
  refine thenN ?_
  refine wp_seq ?_
  refine region_plain ?_
  refine lx_q (.slice none 0 0) S trivial (by decide) (q_assign rfl) (fun a S => ?_)
  refine lx_nil ?_
  refine thenN ?_
  refine wp_seq ?_
  refine wp_seq ?_
  refine region_plain ?_
  refine lx_q p1 S trivial (by decide) (q_move rfl) (fun a S => ?_)
  refine lx_q (.int .i64 (a1.length : Int)) S trivial (by decide) (q_lenSl rfl (h1).isSl rfl Try.underlying23) (fun a S => ?_)
  refine lx_q (.int .i64 (0 : Int)) S trivial (by decide) (q_move rfl) (fun a S => ?_)
  refine lx_nil ?_
  refine thenN ?_
  obtain ⟨res85, hit86, hk89⟩ := bind_some hm
  obtain ⟨f87, hf88, hit86⟩ := iter_name hit86
  refine block_loop (fun a w => ∃ (xs83 : List Int) (v82 : Value), Slots a 23 [(5, v82)] ∧ Heap w0 [oA (rList (rInt .i64)) v82 xs83] w ∧ res85 = .inl (xs83)) ?_ ?_
  · rintro a w ⟨xs83, v82, S, H, rfl⟩
    have hm := ctl_inl hk89
    refine thenN ?_
    refine wp_seq ?_
    refine region_plain ?_
    refine lx_q v82 S trivial (by decide) (q_move rfl) (fun a S => ?_)
    obtain ⟨x92, e93, hm⟩ := bind_some hm
    refine lx_call (xs := [.tmp 21]) S trivial (by decide) rfl rfl Try.call101 ((impl_sortedSet_ok (H.rdAt 0 rfl) e93).mono ?_)
    rintro e w90 ⟨v94, rfl, Hc91⟩
    have he96 := Hc91.ext
    have H := H.call1 Hc91
    refine ⟨_, rfl, trivial, fun a S => ?_⟩
    refine lx_q v94 S trivial (by decide) (q_assign rfl) (fun a S => ?_)
    refine lx_nil ?_
    refine thenN ?_
    refine wp_ret ?_
    obtain rfl := Option.some.inj hm
    have H : Heap w0 [oA (rList (rInt .i64)) v94 x92] w90 := H.sel [0] (by decide)
    exact leave1 S rfl rfl ⟨v94, rfl, H⟩
  · skip
    have H : Heap w0 [oA (rList (rInt .i64)) (.slice none 0 0) ([] : List Int)] w0 := H.nilList (rInt .i64)
    refine loop_ghost (fun n a w => ∃ (xs56 : List Int) (x58 : Int) (v55 : Value), Slots a 23 [(0, p0), (5, v55), (8, p1), (9, (.int .i64 (a1.length : Int))), (10, (.int .i64 x58))] ∧ Heap w0 [oA (rList (rInt .i64)) v55 xs56] w ∧ iter f87 n (xs56, x58) = some res85) _ ⟨[], (0 : Int), (.slice none 0 0), S.sub ⟨rfl, rfl, rfl, rfl, rfl, trivial⟩, H, hit86⟩ ?_
    rintro n a w ⟨xs56, x58, v55, S, H, hit86⟩
    obtain ⟨m98, o99, rfl, hm, hc100⟩ := iter_step hit86
    rw [hf88] at hm
    refine wp_seq ?_
    refine region_plain ?_
    refine lx_q (.bool (decide (x58 < (a1.length : Int)))) S trivial (by decide) (q_lss rfl rfl) (fun a S => ?_)
    refine lx_nil ?_
    refine thenN ?_
    refine wp_seq ?_
    refine cond_b S rfl (fun hc101 => ?_) (fun hc101 => ?_)
    · have hm := ite_t hc101 hm
      refine wp_skip ?_
      refine thenN ?_
      refine wp_seq ?_
      refine wp_block ?_
      refine wp_seq ?_
      refine region_plain ?_
      obtain ⟨x102, e103, hm⟩ := bind_some hm
      obtain ⟨c104, h105, hat106⟩ := (h1).elem (idx_some e103).2
      obtain rfl := h105
      have hlt := lt_of_idx (idx_some e103).2
      refine lx_q (ePtr p1 (x58.toNat * 1)) S trivial (by decide) (q_indexAddr rfl (h1).isSl rfl (idx_some e103).1 hlt Try.underlying23 Try.sizeOf2) (fun a S => ?_)
      refine lx_e (.int .i64 x102) S trivial (by decide) rfl trivial (q_load1 rfl Try.isAgg2 (by rintro _ rfl; exact ((hat106 0 _ rfl).ext H.ext))) (fun a S => ?_)
      refine lx_q (.int .i64 x102) S trivial (by decide) (q_assign rfl) (fun a S => ?_)
      refine lx_nil ?_
      refine thenN ?_
      refine region_plain ?_
      refine lx_q v55 S trivial (by decide) (q_move rfl) (fun a S => ?_)
      refine lx_q p0 S trivial (by decide) (q_move rfl) (fun a S => ?_)
      refine lx_q (.int .i64 x102) S trivial (by decide) (q_move rfl) (fun a S => ?_)
      obtain ⟨x109, e110, hm⟩ := bind_some hm
      refine lx_call (xs := [.tmp 15, .tmp 16]) S trivial (by decide) rfl rfl Try.call116 ((slices_Index__int64_int64_ok (H.arg h0)  e110).mono ?_)
      rintro e w107 ⟨rfl, Hc108⟩
      have he111 := Hc108.ext
      have H := H.call0 Hc108
      refine ⟨_, rfl, trivial, fun a S => ?_⟩
      refine lx_buildSlice (r := (rInt .i64)) (xs := [x109]) (ps := [(0, [(.int .i64 x109)])]) (cs := [(.int .i64 x109)]) (parts := [(0, .tmp 17)]) S trivial (by decide) rfl (H.put0 (A := eA) rfl) rfl Try.underlying23 Try.sizeOf2 Try.zeroValue2 (by decide) ⟨rfl, rfl, Nat.le_of_ble_eq_true rfl, trivial⟩ (by intro zs hz; exact fill_dense hz ⟨rfl, trivial⟩ rfl rfl) rfl (by decide) (fun w F hA => by cases (show F = [] from hA); exact ⟨_, _, [(.int .i64 x109)], _, rfl, rfl, ⟨rfl, rfl⟩, ⟨rfl, rfl⟩⟩) (fun v112 w113 H => ⟨trivial, fun a S => ?_⟩)
      obtain ⟨x115, e116, hm⟩ := bind_some hm
      obtain ⟨hle, hap⟩ := app_some e116
      replace hap := hap.symm
      subst hap
      have H : Heap w0 [oA (rList (rInt .i64)) v112 [x109], oA (rList (rInt .i64)) v55 xs56] w113 := H.front 0 rfl
      have H : Heap w0 [oA (rList (rInt .i64)) v55 xs56, oA (rList (rInt .i64)) v112 [x109]] w113 := H.front 1 rfl
      refine lx_appendOwn (r := (rInt .i64)) S trivial (by decide) rfl H rfl rfl Try.underlying23 Try.ti2 rfl rfl rfl (by decide) (by decide) hle (fun v117 w118 H => ⟨trivial, fun a S => ?_⟩)
      refine lx_q v117 S trivial (by decide) (q_assign rfl) (fun a S => ?_)
      refine lx_nil ?_
      refine inBlock_norm ?_
      refine thenN ?_
      refine region_plain ?_
      refine lx_q (.int .i64 (W (x58 + (1 : Int)))) S trivial (by decide) (q_add rfl rfl) (fun a S => ?_)
      refine lx_q (.int .i64 (W (x58 + (1 : Int)))) S trivial (by decide) (q_move rfl) (fun a S => ?_)
      refine lx_nil ?_
      exact ⟨m98, Nat.lt_succ_self _, (xs56 ++ [x109]), (W (x58 + (1 : Int))), v117, S.sub ⟨rfl, rfl, rfl, rfl, rfl, trivial⟩, H, it_cont hm hc100⟩
    · have hm := ite_f hc101 hm
      refine wp_exit ?_
      refine then_exit ?_
      refine then_exit ?_
      refine inBlock_exit ?_
      obtain rfl := it_brk hm hc100
      exact ⟨xs56, v55, S.sub ⟨rfl, trivial⟩, H, rfl⟩

/-- impl.SubGame -/
def impl_SubGame_m (fuel : Nat) (a0 : (List Timpl_Vertex)) (a1 : (List Int)) : Option (((List Timpl_Vertex) × Int)) :=
  (impl_ValidGame_m fuel a0).bind fun x36 => (if (!x36) = true then some (([], (1 : Int))) else (impl_increasing_m fuel a1 (a0.length : Int)).bind fun x43 => (if (!x43) = true then some (([], (2 : Int))) else (if ((a1.length : Int) == (0 : Int)) = true then some (([], (3 : Int))) else (iter (fun (s : (List Timpl_Vertex) × (Int)) => (match s with | (xs137, x139) => (if (decide (x139 < (a1.length : Int))) = true then (idx a1 x139).bind fun x238 => (idx a0 x238).bind fun x243 => (slices_Clone__int64_int64_m fuel x243.2.2).bind fun x260 => (slices_DeleteFunc__int64_int64_m fuel x260 (fun (z0 : Int) => impl_SubGame_1_m fuel z0 a1)).bind fun x267 => (idx a0 x238).bind fun x273 => (idx a0 x238).bind fun x288 => (impl_placesIn_m fuel a1 x267).bind fun x305 => (app xs137 [(x273.1, x288.2.1, x305)]).bind fun x313 => some (.inl (x313, (W (x139 + (1 : Int))))) else some (.inr (.inl (xs137)))) : Option (((List Timpl_Vertex) × (Int)) ⊕ (((List Timpl_Vertex)) ⊕ (((List Timpl_Vertex) × Int)))))) fuel ([], (0 : Int))).bind fun res228 => ctl (β := (List Timpl_Vertex)) (ρ := ((List Timpl_Vertex) × Int)) (τ := ((List Timpl_Vertex) × Int)) res228 (fun (xs226) => some ((xs226, (0 : Int)))) (fun q => some (q)))))
set_option maxRecDepth 20000 in
theorem impl_SubGame_ok {w0 : World} {fuel : Nat} {p0 p1 : Value} {a0 : (List Timpl_Vertex)} {a1 : (List Int)} {r : ((List Timpl_Vertex) × Int)} (h0 : Rd (rList Rimpl_Vertex) w0 p0 a0) (h1 : Rd (rList (rInt .i64)) w0 p1 a1) (hm : impl_SubGame_m fuel a0 a1 = some r) :
    Calls Try.prog 44 #[p0, p1] w0 fun e w => ∃ (v0 : Value), e = .returned (.tuple #[v0, .int .i64 r.2]) ∧ Heap w0 [oA (rList Rimpl_Vertex) v0 r.1] w := by
  unfold impl_SubGame_m at hm
  have H := Heap.start w0
  refine enter (args := [p0, p1]) Try.func44 rfl 57 rfl (Nat.le_of_ble_eq_true rfl) (fun a S => ?_)
  refine wp_seq ?_
  refine region_plain ?_
  refine lx_box S trivial (by decide) rfl H rfl (cells_sl (h1).isSl) (fun b31 w32 H => ⟨trivial, fun a S => ?_⟩)
  refine lx_q (.slice none 0 0) S trivial (by decide) (q_assign rfl) (fun a S => ?_)
  refine lx_q (.int .i64 (0 : Int)) S trivial (by decide) (q_assign rfl) (fun a S => ?_)
  refine lx_nil ?_
  refine thenN ?_
  refine wp_seq ?_
  refine wp_block ?_
  refine wp_seq ?_
  refine region_plain ?_
  refine lx_q p0 S trivial (by decide) (q_move rfl) (fun a S => ?_)
  obtain ⟨x36, e37, hm⟩ := bind_some hm
  refine lx_call (xs := [.tmp 11]) S trivial (by decide) rfl rfl Try.call59 ((impl_ValidGame_ok (H.arg h0) e37).mono ?_)
  rintro e w34 ⟨rfl, Hc35⟩
  have he38 := Hc35.ext
  have H := H.call0 Hc35
  refine ⟨_, rfl, trivial, fun a S => ?_⟩
  refine lx_q (.bool (!x36)) S trivial (by decide) (q_not rfl) (fun a S => ?_)
  refine lx_q (.bool (!x36)) S trivial (by decide) (q_assign rfl) (fun a S => ?_)
  refine lx_nil ?_
  refine thenN ?_
  refine cond_b S rfl (fun hc39 => ?_) (fun hc39 => ?_)
  · have hm := ite_t hc39 hm
    refine wp_seq ?_
    refine region_plain ?_
    refine lx_q (.slice none 0 0) S trivial (by decide) (q_assign rfl) (fun a S => ?_)
    refine lx_q (.int .i64 (1 : Int)) S trivial (by decide) (q_assign rfl) (fun a S => ?_)
    refine lx_nil ?_
    refine thenN ?_
    refine wp_ret ?_
    refine inBlock_ret ?_
    refine then_ret ?_
    obtain rfl := Option.some.inj hm
    have H : Heap w0 [oA (rList Rimpl_Vertex) (.slice none 0 0) ([] : List Timpl_Vertex), bA b31 [p1] 23] w34 := H.nilList Rimpl_Vertex
    have H : Heap w0 [oA (rList Rimpl_Vertex) (.slice none 0 0) ([] : List Timpl_Vertex)] w34 := H.sel [0] (by decide)
    exact leave2 S rfl rfl rfl ⟨(.slice none 0 0), rfl, H⟩
  · have hm := ite_f hc39 hm
    refine wp_seq ?_
    refine region_plain ?_
    refine lx_e p1 S trivial (by decide) rfl trivial (q_load1 rfl Try.isAgg23 (by rintro _ rfl; exact (boxAt (i := 0) H rfl (j := 0) rfl))) (fun a S => ?_)
    refine lx_q p0 S trivial (by decide) (q_move rfl) (fun a S => ?_)
    refine lx_q (.int .i64 (a0.length : Int)) S trivial (by decide) (q_lenSl rfl (h0).isSl rfl Try.underlying26) (fun a S => ?_)
    obtain ⟨x43, e44, hm⟩ := bind_some hm
    refine lx_call (xs := [.tmp 15, .tmp 17]) S trivial (by decide) rfl rfl Try.call61 ((impl_increasing_ok (H.arg h1)  e44).mono ?_)
    rintro e w41 ⟨rfl, Hc42⟩
    have he45 := Hc42.ext
    have H := H.call0 Hc42
    refine ⟨_, rfl, trivial, fun a S => ?_⟩
    refine lx_q (.bool (!x43)) S trivial (by decide) (q_not rfl) (fun a S => ?_)
    refine lx_q (.bool (!x43)) S trivial (by decide) (q_assign rfl) (fun a S => ?_)
    refine lx_nil ?_
    refine thenN ?_
    refine cond_b S rfl (fun hc46 => ?_) (fun hc46 => ?_)
    · have hm := ite_t hc46 hm
      refine wp_seq ?_
      refine region_plain ?_
      refine lx_q (.slice none 0 0) S trivial (by decide) (q_assign rfl) (fun a S => ?_)
      refine lx_q (.int .i64 (2 : Int)) S trivial (by decide) (q_assign rfl) (fun a S => ?_)
      refine lx_nil ?_
      refine thenN ?_
      refine wp_ret ?_
      refine inBlock_ret ?_
      refine then_ret ?_
      obtain rfl := Option.some.inj hm
      have H : Heap w0 [oA (rList Rimpl_Vertex) (.slice none 0 0) ([] : List Timpl_Vertex), bA b31 [p1] 23] w41 := H.nilList Rimpl_Vertex
      have H : Heap w0 [oA (rList Rimpl_Vertex) (.slice none 0 0) ([] : List Timpl_Vertex)] w41 := H.sel [0] (by decide)
      exact leave2 S rfl rfl rfl ⟨(.slice none 0 0), rfl, H⟩
    · have hm := ite_f hc46 hm
      refine wp_seq ?_
      refine region_plain ?_
      refine lx_e p1 S trivial (by decide) rfl trivial (q_load1 rfl Try.isAgg23 (by rintro _ rfl; exact (boxAt (i := 0) H rfl (j := 0) rfl))) (fun a S => ?_)
      refine lx_q (.int .i64 (a1.length : Int)) S trivial (by decide) (q_lenSl rfl (h1).isSl rfl Try.underlying23) (fun a S => ?_)
      refine lx_q (.bool ((a1.length : Int) == (0 : Int))) S trivial (by decide) (q_eql rfl rfl) (fun a S => ?_)
      refine lx_q (.bool ((a1.length : Int) == (0 : Int))) S trivial (by decide) (q_assign rfl) (fun a S => ?_)
      refine lx_nil ?_
      refine thenN ?_
      refine cond_b S rfl (fun hc48 => ?_) (fun hc48 => ?_)
      · have hm := ite_t hc48 hm
        refine wp_seq ?_
        refine region_plain ?_
        refine lx_q (.slice none 0 0) S trivial (by decide) (q_assign rfl) (fun a S => ?_)
        refine lx_q (.int .i64 (3 : Int)) S trivial (by decide) (q_assign rfl) (fun a S => ?_)
        refine lx_nil ?_
        refine thenN ?_
        refine wp_ret ?_
        refine inBlock_ret ?_
        refine then_ret ?_
        obtain rfl := Option.some.inj hm
        have H : Heap w0 [oA (rList Rimpl_Vertex) (.slice none 0 0) ([] : List Timpl_Vertex), bA b31 [p1] 23] w41 := H.nilList Rimpl_Vertex
        have H : Heap w0 [oA (rList Rimpl_Vertex) (.slice none 0 0) ([] : List Timpl_Vertex)] w41 := H.sel [0] (by decide)
        exact leave2 S rfl rfl rfl ⟨(.slice none 0 0), rfl, H⟩
      · have hm := ite_f hc48 hm
        refine wp_skip ?_
        refine inBlock_norm ?_
        refine thenN ?_
        refine wp_seq ?_
        refine region_plain ?_
        refine lx_q (.slice none 0 0) S trivial (by decide) (q_assign rfl) (fun a S => ?_)
        refine lx_nil ?_
        refine thenN ?_
        refine wp_seq ?_
        refine wp_seq ?_
        refine region_plain ?_
        refine lx_e p1 S trivial (by decide) rfl trivial (q_load1 rfl Try.isAgg23 (by rintro _ rfl; exact (boxAt (i := 0) H rfl (j := 0) rfl))) (fun a S => ?_)
        refine lx_q (.int .i64 (a1.length : Int)) S trivial (by decide) (q_lenSl rfl (h1).isSl rfl Try.underlying23) (fun a S => ?_)
        refine lx_q (.int .i64 (0 : Int)) S trivial (by decide) (q_move rfl) (fun a S => ?_)
        refine lx_nil ?_
        refine thenN ?_
        obtain ⟨res228, hit229, hk232⟩ := bind_some hm
        obtain ⟨f230, hf231, hit229⟩ := iter_name hit229
        refine block_loop (fun a w => ∃ (xs226 : List Timpl_Vertex) (v225 : Value), Slots a 57 [(6, v225)] ∧ Heap w0 [oA (rList Rimpl_Vertex) v225 xs226] w ∧ res228 = .inl (xs226)) ?_ ?_
        · rintro a w ⟨xs226, v225, S, H, rfl⟩
          have hm := ctl_inl hk232
          refine thenN ?_
          refine wp_seq ?_
          refine region_plain ?_
          refine lx_q v225 S trivial (by decide) (q_move rfl) (fun a S => ?_)
          refine lx_q v225 S trivial (by decide) (q_assign rfl) (fun a S => ?_)
          refine lx_q (.int .i64 (0 : Int)) S trivial (by decide) (q_assign rfl) (fun a S => ?_)
          refine lx_nil ?_
          refine thenN ?_
          refine wp_ret ?_
          obtain rfl := Option.some.inj hm
          exact leave2 S rfl rfl rfl ⟨v225, rfl, H⟩
        · skip
          have H : Heap w0 [oA (rList Rimpl_Vertex) (.slice none 0 0) ([] : List Timpl_Vertex), bA b31 [p1] 23] w41 := H.nilList Rimpl_Vertex
          have H : Heap w0 [bA b31 [p1] 23, oA (rList Rimpl_Vertex) (.slice none 0 0) ([] : List Timpl_Vertex)] w41 := H.front 1 rfl
          refine loop_ghost (fun n a w => ∃ (xs137 : List Timpl_Vertex) (x139 : Int) (v136 : Value), Slots a 57 [(0, p0), (3, (bp b31)), (6, v136), (24, p1), (25, (.int .i64 (a1.length : Int))), (26, (.int .i64 x139))] ∧ Heap w0 [bA b31 [p1] 23, oA (rList Rimpl_Vertex) v136 xs137] w ∧ iter f230 n (xs137, x139) = some res228) _ ⟨[], (0 : Int), (.slice none 0 0), S.sub ⟨rfl, rfl, rfl, rfl, rfl, rfl, trivial⟩, H, hit229⟩ ?_
          rintro n a w ⟨xs137, x139, v136, S, H, hit229⟩
          obtain ⟨m234, o235, rfl, hm, hc236⟩ := iter_step hit229
          rw [hf231] at hm
          refine wp_seq ?_
          refine region_plain ?_
          refine lx_q (.bool (decide (x139 < (a1.length : Int)))) S trivial (by decide) (q_lss rfl rfl) (fun a S => ?_)
          refine lx_nil ?_
          refine thenN ?_
          refine wp_seq ?_
          refine cond_b S rfl (fun hc237 => ?_) (fun hc237 => ?_)
          · have hm := ite_t hc237 hm
            refine wp_skip ?_
            refine thenN ?_
            refine wp_seq ?_
            refine wp_block ?_
            refine wp_seq ?_
            refine region_plain ?_
            obtain ⟨x238, e239, hm⟩ := bind_some hm
            obtain ⟨c240, h241, hat242⟩ := (h1).elem (idx_some e239).2
            obtain rfl := h241
            have hlt := lt_of_idx (idx_some e239).2
            refine lx_q (ePtr p1 (x139.toNat * 1)) S trivial (by decide) (q_indexAddr rfl (h1).isSl rfl (idx_some e239).1 hlt Try.underlying23 Try.sizeOf2) (fun a S => ?_)
            refine lx_e (.int .i64 x238) S trivial (by decide) rfl trivial (q_load1 rfl Try.isAgg2 (by rintro _ rfl; exact ((hat242 0 _ rfl).ext H.ext))) (fun a S => ?_)
            refine lx_q (.int .i64 x238) S trivial (by decide) (q_assign rfl) (fun a S => ?_)
            refine lx_nil ?_
            refine thenN ?_
            refine wp_seq ?_
            refine region_plain ?_
            refine lx_q p0 S trivial (by decide) (q_move rfl) (fun a S => ?_)
            refine lx_q (.int .i64 x238) S trivial (by decide) (q_move rfl) (fun a S => ?_)
            obtain ⟨x243, e244, hm⟩ := bind_some hm
            obtain ⟨c245, h246, hat247⟩ := (h0).elem (idx_some e244).2
            obtain ⟨c250, c251, rfl, h252, h253⟩ := h246
            obtain rfl := h252
            obtain ⟨c254, c255, rfl, h256, h257⟩ := h253
            obtain rfl := h256
            obtain ⟨v248, rfl, h249⟩ := rd_list h257
            have hlt := lt_of_idx (idx_some e244).2
            refine lx_q (ePtr p0 (x238.toNat * 3)) S trivial (by decide) (q_indexAddr rfl (h0).isSl rfl (idx_some e244).1 hlt Try.underlying26 Try.sizeOf71) (fun a S => ?_)
            refine lx_q (pAdd (ePtr p0 (x238.toNat * 3)) 2) S trivial (by decide) (q_fieldAddr' 2 23 rfl ((hat247 0 _ rfl).isP) Try.underlying71 rfl Try.sizeOf23) (fun a S => ?_)
            refine lx_e v248 S trivial (by decide) rfl trivial (q_load1 rfl Try.isAgg23 (by rintro _ rfl; exact (At.of_add (m := 2) (j := 0) ((hat247 2 _ rfl).ext H.ext)))) (fun a S => ?_)
            obtain ⟨x260, e261, hm⟩ := bind_some hm
            refine lx_call (xs := [.tmp 34]) S trivial (by decide) rfl rfl Try.call96 ((slices_Clone__int64_int64_ok (H.arg h249) e261).mono ?_)
            rintro e w258 ⟨v262, rfl, Hc259⟩
            have he264 := Hc259.ext
            have H := H.call1 Hc259
            refine ⟨_, rfl, trivial, fun a S => ?_⟩
            refine lx_q (.func (.func 97) #[] #[(bp b31)]) S trivial (by decide) (q_makeFunc (xs := []) (ys := [.tmp 3]) rfl rfl) (fun a S => ?_)
            obtain ⟨x267, e268, hm⟩ := bind_some hm
            refine lx_call (xs := [.tmp 35, .tmp 36]) S trivial (by decide) rfl rfl Try.call95 ((slices_DeleteFunc__int64_int64_ok (f1 := 97) (fs1 := ([] : List Value)) (cp1 := ([(bp b31)] : List Value)) (a1 := (fun (z0 : Int) => impl_SubGame_1_m fuel z0 a1)) H Try.call97 (fun H  hm => impl_SubGame_1_ok  (rdPtr_box H 0 rfl ((H.arg h1)).list_rd) hm) e268).mono ?_)
            rintro e w265 ⟨v269, rfl, H⟩
            refine ⟨_, rfl, trivial, fun a S => ?_⟩
            refine lx_q v269 S trivial (by decide) (q_assign rfl) (fun a S => ?_)
            refine lx_nil ?_
            refine thenN ?_
            refine region_drawG (fun w1 => Heap w0 [bA b31 [p1] 23] w1) (fun i => [13, 15, 16].contains i) mixed (by kernel_rfl) (fun w272 he271 => ?_)
            have H := H.later he271
            refine ⟨H.sel [1] (by decide), ?_⟩
            refine lx_q v136 S trivial (by decide) (q_move rfl) (fun a S => ?_)
            refine lx_q p0 S trivial (by decide) (q_move rfl) (fun a S => ?_)
            refine lx_q (.int .i64 x238) S trivial (by decide) (q_move rfl) (fun a S => ?_)
            obtain ⟨x273, e274, hm⟩ := bind_some hm
            obtain ⟨c275, h276, hat277⟩ := (h0).elem (idx_some e274).2
            obtain ⟨c280, c281, rfl, h282, h283⟩ := h276
            obtain rfl := h282
            obtain ⟨c284, c285, rfl, h286, h287⟩ := h283
            obtain rfl := h286
            obtain ⟨v278, rfl, h279⟩ := rd_list h287
            have hlt := lt_of_idx (idx_some e274).2
            refine lx_q (ePtr p0 (x238.toNat * 3)) S trivial (by decide) (q_indexAddr rfl (h0).isSl rfl (idx_some e274).1 hlt Try.underlying26 Try.sizeOf71) (fun a S => ?_)
            refine lx_q (pAdd (ePtr p0 (x238.toNat * 3)) 0) S trivial (by decide) (q_fieldAddr' 0 2 rfl ((hat277 0 _ rfl).isP) Try.underlying71 rfl Try.sizeOf2) (fun a S => ?_)
            refine lx_q (.int .i64 x273.1) S trivial (by decide) (q_load1 rfl Try.isAgg2 (fun w1 hC => (At.of_add (m := 0) (j := 0) ((hat277 0 _ rfl).ext hC.ext)))) (fun a S => ?_)
            refine lx_q p0 S trivial (by decide) (q_move rfl) (fun a S => ?_)
            refine lx_q (.int .i64 x238) S trivial (by decide) (q_move rfl) (fun a S => ?_)
            obtain ⟨x288, e289, hm⟩ := bind_some hm
            obtain ⟨c290, h291, hat292⟩ := (h0).elem (idx_some e289).2
            obtain ⟨c295, c296, rfl, h297, h298⟩ := h291
            obtain rfl := h297
            obtain ⟨c299, c300, rfl, h301, h302⟩ := h298
            obtain rfl := h301
            obtain ⟨v293, rfl, h294⟩ := rd_list h302
            have hlt := lt_of_idx (idx_some e289).2
            refine lx_q (ePtr p0 (x238.toNat * 3)) S trivial (by decide) (q_indexAddr rfl (h0).isSl rfl (idx_some e289).1 hlt Try.underlying26 Try.sizeOf71) (fun a S => ?_)
            refine lx_q (pAdd (ePtr p0 (x238.toNat * 3)) 1) S trivial (by decide) (q_fieldAddr' 1 2 rfl ((hat292 0 _ rfl).isP) Try.underlying71 rfl Try.sizeOf2) (fun a S => ?_)
            refine lx_q (.int .i64 x288.2.1) S trivial (by decide) (q_load1 rfl Try.isAgg2 (fun w1 hC => (At.of_add (m := 1) (j := 0) ((hat292 1 _ rfl).ext hC.ext)))) (fun a S => ?_)
            refine lx_q p1 S trivial (by decide) (q_load1 rfl Try.isAgg23 (fun w1 hC => (boxAt (i := 0) hC rfl (j := 0) rfl))) (fun a S => ?_)
            refine lx_q v269 S trivial (by decide) (q_move rfl) (fun a S => ?_)
            obtain ⟨x305, e306, hm⟩ := bind_some hm
            refine lx_call (xs := [.tmp 49, .tmp 50]) S trivial (by decide) rfl rfl Try.call98 ((impl_placesIn_ok (H.arg h1) (H.rdAt 0 rfl) e306).mono ?_)
            rintro e w303 ⟨v307, rfl, Hc304⟩
            have he309 := Hc304.ext
            have H := H.call1 Hc304
            refine ⟨_, rfl, H.sel [2] (by decide), fun a S => ?_⟩
            refine lx_q (.agg #[(.int .i64 x273.1), (.int .i64 x288.2.1), v307]) S trivial (by decide) (q_build (zs := [(.int .i64 (0 : Int)), (.int .i64 (0 : Int)), (.slice none 0 0)]) (szs := [1, 1, 1]) (ps := [(0, [(.int .i64 x273.1)]), (1, [(.int .i64 x288.2.1)]), (2, [v307])]) (parts := [(0, .tmp 43), (1, .tmp 48), (2, .tmp 51)]) rfl Try.underlying71 Try.zeroValue71 (fun w => by simp [Try.sizeOf2, Try.sizeOf23]) ⟨rfl, rfl, Nat.le_of_ble_eq_true rfl, ⟨rfl, rfl, Nat.le_of_ble_eq_true rfl, ⟨rfl, (cells_sl (H.isSl 0 rfl)), Nat.le_of_ble_eq_true rfl, trivial⟩⟩⟩ rfl) (fun a S => ?_)
            refine lx_buildSlice (r := Rimpl_Vertex) (xs := [(x273.1, x288.2.1, x305)]) (ps := [(0, [(.int .i64 x273.1), (.int .i64 x288.2.1), v307])]) (cs := [(.int .i64 x273.1), (.int .i64 x288.2.1), v307]) (parts := [(0, .tmp 52)]) S trivial (by decide) rfl H rfl Try.underlying26 Try.sizeOf71 Try.zeroValue71 (by decide) ⟨rfl, rfl, Nat.le_of_ble_eq_true rfl, trivial⟩ (by intro zs hz; exact fill_dense hz ⟨rfl, trivial⟩ rfl rfl) rfl (by decide) (fun w F hA => ownL_one_mk (ownF ⟨_, _, [(.int .i64 x273.1)], [(.int .i64 x288.2.1), v307], rfl, rfl, ⟨rfl, rfl⟩, ⟨_, _, [(.int .i64 x288.2.1)], [v307], rfl, rfl, ⟨rfl, rfl⟩, (oA_list.1 hA)⟩⟩)) (fun v310 w311 H => ⟨H.sel [2] (by decide), fun a S => ?_⟩)
            obtain ⟨x313, e314, hm⟩ := bind_some hm
            obtain ⟨hle, hap⟩ := app_some e314
            replace hap := hap.symm
            subst hap
            have H : Heap w0 [oA (rList Rimpl_Vertex) v310 [(x273.1, x288.2.1, x305)], oA (rList (rInt .i64)) v269 x267, bA b31 [p1] 23, oA (rList Rimpl_Vertex) v136 xs137] w311 := H.front 0 rfl
            have H : Heap w0 [oA (rList Rimpl_Vertex) v136 xs137, oA (rList Rimpl_Vertex) v310 [(x273.1, x288.2.1, x305)], oA (rList (rInt .i64)) v269 x267, bA b31 [p1] 23] w311 := H.front 3 rfl
            refine lx_appendOwn (r := Rimpl_Vertex) S trivial (by decide) rfl H rfl rfl Try.underlying26 Try.ti71 rfl rfl rfl (by decide) (by decide) hle (fun v315 w316 H => ⟨H.sel [2] (by decide), fun a S => ?_⟩)
            refine lx_q v315 S trivial (by decide) (q_assign rfl) (fun a S => ?_)
            refine lx_nil ?_
            refine inBlock_norm ?_
            refine thenN ?_
            refine region_plain ?_
            refine lx_q (.int .i64 (W (x139 + (1 : Int)))) S trivial (by decide) (q_add rfl rfl) (fun a S => ?_)
            refine lx_q (.int .i64 (W (x139 + (1 : Int)))) S trivial (by decide) (q_move rfl) (fun a S => ?_)
            refine lx_nil ?_
            have H : Heap w0 [bA b31 [p1] 23, oA (rList Rimpl_Vertex) v315 (xs137 ++ [(x273.1, x288.2.1, x305)]), oA (rList (rInt .i64)) v269 x267] w316 := H.front 2 rfl
            have H : Heap w0 [bA b31 [p1] 23, oA (rList Rimpl_Vertex) v315 (xs137 ++ [(x273.1, x288.2.1, x305)])] w316 := H.sel [0, 1] (by decide)
            exact ⟨m234, Nat.lt_succ_self _, (xs137 ++ [(x273.1, x288.2.1, x305)]), (W (x139 + (1 : Int))), v315, S.sub ⟨rfl, rfl, rfl, rfl, rfl, rfl, trivial⟩, H, it_cont hm hc236⟩
          · have hm := ite_f hc237 hm
            refine wp_exit ?_
            refine then_exit ?_
            refine then_exit ?_
            refine inBlock_exit ?_
            obtain rfl := it_brk hm hc236
            have H : Heap w0 [oA (rList Rimpl_Vertex) v136 xs137] w := H.sel [1] (by decide)
            exact ⟨xs137, v136, S.sub ⟨rfl, trivial⟩, H, rfl⟩

/-- spec.l00Put -/
def spec_l00Put_m (fuel : Nat) (a0 : (List Int)) (a1 : Int) : Option ((List Int)) :=
  (iter (fun (s : (List Int) × (Bool) × (Int)) => (match s with | (xs83, x85, x86) => (if (decide (x86 < (a0.length : Int))) = true then join (κ := List Int → Bool → Option (((List Int) × (Bool) × (Int)) ⊕ (((List Int) × Bool) ⊕ ((List Int))))) (fun (xs163 : List Int) (x165 : Bool) => (idx a0 x86).bind fun x168 => (app xs163 [x168]).bind fun x176 => some (.inl (x176, x165, (W (x86 + (1 : Int)))))) (fun K166 => (if (!x85) = true then (idx a0 x86).bind fun x184 => some (decide (a1 ≤ x184)) else some false).bind fun t181 => (if t181 = true then (idx a0 x86).bind fun x190 => (if (decide (a1 < x190)) = true then (app xs83 [a1]).bind fun x199 => (K166 x199 true) else (K166 xs83 true)) else (K166 xs83 x85))) else some (.inr (.inl (xs83, x85)))) : Option (((List Int) × (Bool) × (Int)) ⊕ (((List Int) × Bool) ⊕ ((List Int)))))) fuel (([] : List Int), false, (0 : Int))).bind fun res139 => ctl (β := (List Int) × Bool) (ρ := (List Int)) (τ := (List Int)) res139 (fun (xs136, x138) => join (κ := List Int → Option (List Int)) (fun (xs145 : List Int) => some (xs145)) (fun K147 => (if (!x138) = true then (app xs136 [a1]).bind fun x153 => (K147 x153) else (K147 xs136)))) (fun q => some (q))
set_option maxRecDepth 20000 in
theorem spec_l00Put_ok {w0 : World} {fuel : Nat} {p0 : Value} {a0 : (List Int)} {a1 : Int} {r : (List Int)} (h0 : Rd (rList (rInt .i64)) w0 p0 a0) (hm : spec_l00Put_m fuel a0 a1 = some r) :
    Calls Try.prog 99 #[p0, .int .i64 a1] w0 fun e w => ∃ (v0 : Value), e = .returned (v0) ∧ Heap w0 [oA (rList (rInt .i64)) v0 r] w := by
  unfold spec_l00Put_m at hm
  have H := Heap.start w0
  refine enter (args := [p0, .int .i64 a1]) Try.func99 rfl 49 rfl (Nat.le_of_ble_eq_true rfl) (fun a S => ?_)
  refine wp_seq ?_
  refine region_plain ?_
  refine lx_q (.slice none 0 0) S trivial (by decide) (q_assign rfl) (fun a S => ?_)
  refine lx_nil ?_
  refine thenN ?_
  refine wp_seq ?_
  refine region_plain ?_
  refine lx_buildSlice0 (r := (rInt .i64)) S trivial (by decide) rfl H Try.underlying23 Try.sizeOf2 (fun v31 w32 H => ⟨trivial, fun a S => ?_⟩)
  refine lx_q v31 S trivial (by decide) (q_assign rfl) (fun a S => ?_)
  refine lx_nil ?_
  refine thenN ?_
  refine wp_seq ?_
  refine region_plain ?_
  refine lx_q (.bool false) S trivial (by decide) (q_assign rfl) (fun a S => ?_)
  refine lx_nil ?_
  refine thenN ?_
  refine wp_seq ?_
  refine wp_seq ?_
  refine region_plain ?_
  refine lx_q (.int .i64 (0 : Int)) S trivial (by decide) (q_assign rfl) (fun a S => ?_)
  refine lx_nil ?_
  refine thenN ?_
  obtain ⟨res139, hit140, hk143⟩ := bind_some hm
  obtain ⟨f141, hf142, hit140⟩ := iter_name hit140
  refine block_loop (fun a w => ∃ (xs136 : List Int) (x138 : Bool) (v135 : Value), Slots a 49 [(1, (.int .i64 a1)), (5, v135), (6, (.bool x138))] ∧ Heap w0 [oA (rList (rInt .i64)) v135 xs136] w ∧ res139 = .inl (xs136, x138)) ?_ ?_
  · rintro a w ⟨xs136, x138, v135, S, H, rfl⟩
    have hm := ctl_inl hk143
    refine thenN ?_
    obtain ⟨K147, hK148, hm⟩ := join_elim hm
    refine seq_cut (fun a w => ∃ (xs145 : List Int) (v144 : Value), Slots a 49 [(5, v144)] ∧ Heap w0 [oA (rList (rInt .i64)) v144 xs145] w ∧ K147 xs145 = some r) ?_ ?_
    · rintro a w ⟨xs145, v144, S, H, hm⟩
      subst hK148
      refine wp_seq ?_
      refine region_plain ?_
      refine lx_q v144 S trivial (by decide) (q_move rfl) (fun a S => ?_)
      refine lx_q v144 S trivial (by decide) (q_assign rfl) (fun a S => ?_)
      refine lx_nil ?_
      refine thenN ?_
      refine wp_ret ?_
      obtain rfl := Option.some.inj hm
      exact leave1 S rfl rfl ⟨v144, rfl, H⟩
    · skip
      refine wp_seq ?_
      refine region_plain ?_
      refine lx_q (.bool x138) S trivial (by decide) (q_move rfl) (fun a S => ?_)
      refine lx_q (.bool (!x138)) S trivial (by decide) (q_not rfl) (fun a S => ?_)
      refine lx_nil ?_
      refine thenN ?_
      refine cond_b S rfl (fun hc149 => ?_) (fun hc149 => ?_)
      · have hm := ite_t hc149 hm
        refine region_plain ?_
        refine lx_q v135 S trivial (by decide) (q_move rfl) (fun a S => ?_)
        refine lx_q (.int .i64 a1) S trivial (by decide) (q_move rfl) (fun a S => ?_)
        refine lx_buildSlice (r := (rInt .i64)) (xs := [a1]) (ps := [(0, [(.int .i64 a1)])]) (cs := [(.int .i64 a1)]) (parts := [(0, .tmp 45)]) S trivial (by decide) rfl (H.put0 (A := eA) rfl) rfl Try.underlying23 Try.sizeOf2 Try.zeroValue2 (by decide) ⟨rfl, rfl, Nat.le_of_ble_eq_true rfl, trivial⟩ (by intro zs hz; exact fill_dense hz ⟨rfl, trivial⟩ rfl rfl) rfl (by decide) (fun w F hA => by cases (show F = [] from hA); exact ⟨_, _, [(.int .i64 a1)], _, rfl, rfl, ⟨rfl, rfl⟩, ⟨rfl, rfl⟩⟩) (fun v150 w151 H => ⟨trivial, fun a S => ?_⟩)
        obtain ⟨x153, e154, hm⟩ := bind_some hm
        obtain ⟨hle, hap⟩ := app_some e154
        replace hap := hap.symm
        subst hap
        have H : Heap w0 [oA (rList (rInt .i64)) v150 [a1], oA (rList (rInt .i64)) v135 xs136] w151 := H.front 0 rfl
        have H : Heap w0 [oA (rList (rInt .i64)) v135 xs136, oA (rList (rInt .i64)) v150 [a1]] w151 := H.front 1 rfl
        refine lx_appendOwn (r := (rInt .i64)) S trivial (by decide) rfl H rfl rfl Try.underlying23 Try.ti2 rfl rfl rfl (by decide) (by decide) hle (fun v155 w156 H => ⟨trivial, fun a S => ?_⟩)
        refine lx_q v155 S trivial (by decide) (q_assign rfl) (fun a S => ?_)
        refine lx_nil ?_
        exact ⟨(xs136 ++ [a1]), v155, S.sub ⟨rfl, trivial⟩, H, hm⟩
      · have hm := ite_f hc149 hm
        refine wp_skip ?_
        exact ⟨xs136, v135, S.sub ⟨rfl, trivial⟩, H, hm⟩
  · skip
    refine loop_ghost (fun n a w => ∃ (xs83 : List Int) (x85 : Bool) (x86 : Int) (v82 : Value), Slots a 49 [(0, p0), (1, (.int .i64 a1)), (5, v82), (6, (.bool x85)), (7, (.int .i64 x86))] ∧ Heap w0 [oA (rList (rInt .i64)) v82 xs83] w ∧ iter f141 n (xs83, x85, x86) = some res139) _ ⟨([] : List Int), false, (0 : Int), v31, S.sub ⟨rfl, rfl, rfl, rfl, rfl, trivial⟩, H, hit140⟩ ?_
    rintro n a w ⟨xs83, x85, x86, v82, S, H, hit140⟩
    obtain ⟨m158, o159, rfl, hm, hc160⟩ := iter_step hit140
    rw [hf142] at hm
    refine wp_seq ?_
    refine wp_seq ?_
    refine region_plain ?_
    refine lx_q (.int .i64 x86) S trivial (by decide) (q_move rfl) (fun a S => ?_)
    refine lx_q p0 S trivial (by decide) (q_move rfl) (fun a S => ?_)
    refine lx_q (.int .i64 (a0.length : Int)) S trivial (by decide) (q_lenSl rfl (h0).isSl rfl Try.underlying23) (fun a S => ?_)
    refine lx_q (.bool (decide (x86 < (a0.length : Int)))) S trivial (by decide) (q_lss rfl rfl) (fun a S => ?_)
    refine lx_nil ?_
    refine thenN ?_
    refine cond_b S rfl (fun hc161 => ?_) (fun hc161 => ?_)
    · have hm := ite_t hc161 hm
      refine wp_skip ?_
      refine thenN ?_
      refine wp_seq ?_
      refine wp_block ?_
      obtain ⟨K166, hK167, hm⟩ := join_elim hm
      refine seq_cut (fun a w => ∃ (xs163 : List Int) (x165 : Bool) (v162 : Value), Slots a 49 [(0, p0), (1, (.int .i64 a1)), (5, v162), (6, (.bool x165)), (7, (.int .i64 x86))] ∧ Heap w0 [oA (rList (rInt .i64)) v162 xs163] w ∧ K166 xs163 x165 = some o159) ?_ ?_
      · rintro a w ⟨xs163, x165, v162, S, H, hm⟩
        subst hK167
        refine region_plain ?_
        refine lx_q v162 S trivial (by decide) (q_move rfl) (fun a S => ?_)
        refine lx_q p0 S trivial (by decide) (q_move rfl) (fun a S => ?_)
        refine lx_q (.int .i64 x86) S trivial (by decide) (q_move rfl) (fun a S => ?_)
        obtain ⟨x168, e169, hm⟩ := bind_some hm
        obtain ⟨c170, h171, hat172⟩ := (h0).elem (idx_some e169).2
        obtain rfl := h171
        have hlt := lt_of_idx (idx_some e169).2
        refine lx_q (ePtr p0 (x86.toNat * 1)) S trivial (by decide) (q_indexAddr rfl (h0).isSl rfl (idx_some e169).1 hlt Try.underlying23 Try.sizeOf2) (fun a S => ?_)
        refine lx_e (.int .i64 x168) S trivial (by decide) rfl trivial (q_load1 rfl Try.isAgg2 (by rintro _ rfl; exact ((hat172 0 _ rfl).ext H.ext))) (fun a S => ?_)
        refine lx_buildSlice (r := (rInt .i64)) (xs := [x168]) (ps := [(0, [(.int .i64 x168)])]) (cs := [(.int .i64 x168)]) (parts := [(0, .tmp 39)]) S trivial (by decide) rfl (H.put0 (A := eA) rfl) rfl Try.underlying23 Try.sizeOf2 Try.zeroValue2 (by decide) ⟨rfl, rfl, Nat.le_of_ble_eq_true rfl, trivial⟩ (by intro zs hz; exact fill_dense hz ⟨rfl, trivial⟩ rfl rfl) rfl (by decide) (fun w F hA => by cases (show F = [] from hA); exact ⟨_, _, [(.int .i64 x168)], _, rfl, rfl, ⟨rfl, rfl⟩, ⟨rfl, rfl⟩⟩) (fun v173 w174 H => ⟨trivial, fun a S => ?_⟩)
        obtain ⟨x176, e177, hm⟩ := bind_some hm
        obtain ⟨hle, hap⟩ := app_some e177
        replace hap := hap.symm
        subst hap
        have H : Heap w0 [oA (rList (rInt .i64)) v173 [x168], oA (rList (rInt .i64)) v162 xs163] w174 := H.front 0 rfl
        have H : Heap w0 [oA (rList (rInt .i64)) v162 xs163, oA (rList (rInt .i64)) v173 [x168]] w174 := H.front 1 rfl
        refine lx_appendOwn (r := (rInt .i64)) S trivial (by decide) rfl H rfl rfl Try.underlying23 Try.ti2 rfl rfl rfl (by decide) (by decide) hle (fun v178 w179 H => ⟨trivial, fun a S => ?_⟩)
        refine lx_q v178 S trivial (by decide) (q_assign rfl) (fun a S => ?_)
        refine lx_nil ?_
        refine inBlock_norm ?_
        refine thenN ?_
        refine region_plain ?_
        refine lx_q (.int .i64 x86) S trivial (by decide) (q_move rfl) (fun a S => ?_)
        refine lx_q (.int .i64 (W (x86 + (1 : Int)))) S trivial (by decide) (q_add rfl rfl) (fun a S => ?_)
        refine lx_q (.int .i64 (W (x86 + (1 : Int)))) S trivial (by decide) (q_assign rfl) (fun a S => ?_)
        refine lx_nil ?_
        exact ⟨m158, Nat.lt_succ_self _, (xs163 ++ [x168]), x165, (W (x86 + (1 : Int))), v178, S.sub ⟨rfl, rfl, rfl, rfl, rfl, trivial⟩, H, it_cont hm hc160⟩
      · skip
        refine wp_seq ?_
        refine region_plain ?_
        refine lx_q (.bool x85) S trivial (by decide) (q_move rfl) (fun a S => ?_)
        refine lx_q (.bool (!x85)) S trivial (by decide) (q_not rfl) (fun a S => ?_)
        refine lx_q (.bool (!x85)) S trivial (by decide) (q_move rfl) (fun a S => ?_)
        obtain ⟨t181, e182, hm⟩ := bind_some hm
        refine lx_cut 7 (fun a w => Slots a 49 [(0, p0), (1, (.int .i64 a1)), (5, v82), (6, (.bool x85)), (7, (.int .i64 x86)), (24, (.bool t181))] ∧ Heap w0 [oA (rList (rInt .i64)) v82 xs83] w) ?_ ?_
        · by_cases hc183 : (!x85) = true
          · have hm := ite_t hc183 e182
            refine lx_q p0 S (want_b rfl rfl hc183) (by decide) (q_move rfl) (fun a S => ?_)
            refine lx_q (.int .i64 x86) S (want_b rfl rfl hc183) (by decide) (q_move rfl) (fun a S => ?_)
            obtain ⟨x184, e185, hm⟩ := bind_some hm
            obtain ⟨c186, h187, hat188⟩ := (h0).elem (idx_some e185).2
            obtain rfl := h187
            have hlt := lt_of_idx (idx_some e185).2
            refine lx_q (ePtr p0 (x86.toNat * 1)) S (want_b rfl rfl hc183) (by decide) (q_indexAddr rfl (h0).isSl rfl (idx_some e185).1 hlt Try.underlying23 Try.sizeOf2) (fun a S => ?_)
            refine lx_e (.int .i64 x184) S (want_b rfl rfl hc183) (by decide) rfl trivial (q_load1 rfl Try.isAgg2 (by rintro _ rfl; exact ((hat188 0 _ rfl).ext H.ext))) (fun a S => ?_)
            refine lx_q (.int .i64 a1) S (want_b rfl rfl hc183) (by decide) (q_move rfl) (fun a S => ?_)
            refine lx_q (.bool (decide (a1 ≤ x184))) S (want_b rfl rfl hc183) (by decide) (q_geq rfl rfl) (fun a S => ?_)
            refine lx_q (.bool (decide (a1 ≤ x184))) S trivial (by decide) (q_pickT' rfl hc183 rfl) (fun a S => ?_)
            refine lx_nil ?_
            obtain rfl := Option.some.inj hm
            exact ⟨S.sub ⟨rfl, rfl, rfl, rfl, rfl, rfl, trivial⟩, H⟩
          · have hm := ite_f (eq_false_of_ne_true hc183) e182
            have hc183 : (!x85) = false := eq_false_of_ne_true hc183
            refine lx_skip S rfl rfl (isB_ne hc183) (by decide) (fun a S => ?_)
            refine lx_skip S rfl rfl (isB_ne hc183) (by decide) (fun a S => ?_)
            refine lx_skip S rfl rfl (isB_ne hc183) (by decide) (fun a S => ?_)
            refine lx_skip S rfl rfl (isB_ne hc183) (by decide) (fun a S => ?_)
            refine lx_skip S rfl rfl (isB_ne hc183) (by decide) (fun a S => ?_)
            refine lx_skip S rfl rfl (isB_ne hc183) (by decide) (fun a S => ?_)
            refine lx_q (.bool false) S trivial (by decide) (q_pickF' rfl hc183 rfl) (fun a S => ?_)
            refine lx_nil ?_
            obtain rfl := Option.some.inj hm
            exact ⟨S.sub ⟨rfl, rfl, rfl, rfl, rfl, rfl, trivial⟩, H⟩
        · rintro a w ⟨S, H⟩
          refine lx_nil ?_
          refine thenN ?_
          refine cond_b S rfl (fun hc189 => ?_) (fun hc189 => ?_)
          · have hm := ite_t hc189 hm
            refine wp_seq ?_
            refine region_plain ?_
            refine lx_q (.bool true) S trivial (by decide) (q_assign rfl) (fun a S => ?_)
            refine lx_nil ?_
            refine thenN ?_
            refine wp_seq ?_
            refine region_plain ?_
            refine lx_q p0 S trivial (by decide) (q_move rfl) (fun a S => ?_)
            refine lx_q (.int .i64 x86) S trivial (by decide) (q_move rfl) (fun a S => ?_)
            obtain ⟨x190, e191, hm⟩ := bind_some hm
            obtain ⟨c192, h193, hat194⟩ := (h0).elem (idx_some e191).2
            obtain rfl := h193
            have hlt := lt_of_idx (idx_some e191).2
            refine lx_q (ePtr p0 (x86.toNat * 1)) S trivial (by decide) (q_indexAddr rfl (h0).isSl rfl (idx_some e191).1 hlt Try.underlying23 Try.sizeOf2) (fun a S => ?_)
            refine lx_e (.int .i64 x190) S trivial (by decide) rfl trivial (q_load1 rfl Try.isAgg2 (by rintro _ rfl; exact ((hat194 0 _ rfl).ext H.ext))) (fun a S => ?_)
            refine lx_q (.int .i64 a1) S trivial (by decide) (q_move rfl) (fun a S => ?_)
            refine lx_q (.bool (decide (a1 < x190))) S trivial (by decide) (q_gtr rfl rfl) (fun a S => ?_)
            refine lx_nil ?_
            refine thenN ?_
            refine cond_b S rfl (fun hc195 => ?_) (fun hc195 => ?_)
            · have hm := ite_t hc195 hm
              refine region_plain ?_
              refine lx_q v82 S trivial (by decide) (q_move rfl) (fun a S => ?_)
              refine lx_q (.int .i64 a1) S trivial (by decide) (q_move rfl) (fun a S => ?_)
              refine lx_buildSlice (r := (rInt .i64)) (xs := [a1]) (ps := [(0, [(.int .i64 a1)])]) (cs := [(.int .i64 a1)]) (parts := [(0, .tmp 32)]) S trivial (by decide) rfl (H.put0 (A := eA) rfl) rfl Try.underlying23 Try.sizeOf2 Try.zeroValue2 (by decide) ⟨rfl, rfl, Nat.le_of_ble_eq_true rfl, trivial⟩ (by intro zs hz; exact fill_dense hz ⟨rfl, trivial⟩ rfl rfl) rfl (by decide) (fun w F hA => by cases (show F = [] from hA); exact ⟨_, _, [(.int .i64 a1)], _, rfl, rfl, ⟨rfl, rfl⟩, ⟨rfl, rfl⟩⟩) (fun v196 w197 H => ⟨trivial, fun a S => ?_⟩)
              obtain ⟨x199, e200, hm⟩ := bind_some hm
              obtain ⟨hle, hap⟩ := app_some e200
              replace hap := hap.symm
              subst hap
              have H : Heap w0 [oA (rList (rInt .i64)) v196 [a1], oA (rList (rInt .i64)) v82 xs83] w197 := H.front 0 rfl
              have H : Heap w0 [oA (rList (rInt .i64)) v82 xs83, oA (rList (rInt .i64)) v196 [a1]] w197 := H.front 1 rfl
              refine lx_appendOwn (r := (rInt .i64)) S trivial (by decide) rfl H rfl rfl Try.underlying23 Try.ti2 rfl rfl rfl (by decide) (by decide) hle (fun v201 w202 H => ⟨trivial, fun a S => ?_⟩)
              refine lx_q v201 S trivial (by decide) (q_assign rfl) (fun a S => ?_)
              refine lx_nil ?_
              exact ⟨(xs83 ++ [a1]), true, v201, S.sub ⟨rfl, rfl, rfl, rfl, rfl, trivial⟩, H, hm⟩
            · have hm := ite_f hc195 hm
              refine wp_skip ?_
              exact ⟨xs83, true, v82, S.sub ⟨rfl, rfl, rfl, rfl, rfl, trivial⟩, H, hm⟩
          · have hm := ite_f hc189 hm
            refine wp_skip ?_
            exact ⟨xs83, x85, v82, S.sub ⟨rfl, rfl, rfl, rfl, rfl, trivial⟩, H, hm⟩
    · have hm := ite_f hc161 hm
      refine wp_exit ?_
      refine then_exit ?_
      refine then_exit ?_
      refine inBlock_exit ?_
      obtain rfl := it_brk hm hc160
      exact ⟨xs83, x85, v82, S.sub ⟨rfl, rfl, rfl, trivial⟩, H, rfl⟩

/-- spec.CompressPriorities -/
def spec_CompressPriorities_m (fuel : Nat) (a0 : (List Timpl_Vertex)) : Option (((List Timpl_Vertex) × Int)) :=
  (spec_l23Is_m fuel a0).bind fun x33 => (if (!x33) = true then some (([], (1 : Int))) else (iter (fun (s : (List Int) × (Int)) => (match s with | (xs69, x71) => (if (decide (x71 < (a0.length : Int))) = true then (idx a0 x71).bind fun x360 => (spec_l00Put_m fuel xs69 x360.2.1).bind fun x377 => some (.inl (x377, (W (x71 + (1 : Int))))) else some (.inr (.inl (xs69)))) : Option (((List Int) × (Int)) ⊕ (((List Int)) ⊕ (((List Timpl_Vertex) × Int)))))) fuel (([] : List Int), (0 : Int))).bind fun res102 => ctl (β := (List Int)) (ρ := ((List Timpl_Vertex) × Int)) (τ := ((List Timpl_Vertex) × Int)) res102 (fun (xs100) => (iter (fun (s : (List Int) × (Int)) => (match s with | (xs153, x155) => (if (decide (x155 < (xs100.length : Int))) = true then join (κ := List Int → Option (((List Int) × (Int)) ⊕ (((List Int)) ⊕ (((List Timpl_Vertex) × Int))))) (fun (xs320 : List Int) => some (.inl (xs320, (W (x155 + (1 : Int)))))) (fun K322 => (if (x155 == (0 : Int)) = true then (idx xs100 (0 : Int)).bind fun x325 => (app xs153 [(x325.tmod (2 : Int))]).bind fun x333 => (K322 x333) else (idx xs153 (W (x155 - (1 : Int)))).bind fun x338 => (idx xs100 x155).bind fun x343 => (app xs153 [(W (x338 + ((W (x343 + x338)).tmod (2 : Int))))]).bind fun x351 => (K322 x351))) else some (.inr (.inl (xs153)))) : Option (((List Int) × (Int)) ⊕ (((List Int)) ⊕ (((List Timpl_Vertex) × Int)))))) fuel (([] : List Int), (0 : Int))).bind fun res201 => ctl (β := (List Int)) (ρ := ((List Timpl_Vertex) × Int)) (τ := ((List Timpl_Vertex) × Int)) res201 (fun (xs199) => (spec_l23Own_m fuel a0).bind fun x208 => (iter (fun (s : (List Timpl_Vertex) × (Int)) => (match s with | (xs244, x245) => (if (decide (x245 < (xs244.length : Int))) = true then (idx xs244 x245).bind fun x287 => (spec_l11Place_m fuel xs100 x287.2.1).bind fun x304 => (idx xs199 x304).bind fun x307 => (idx xs244 x245).bind fun x312 => some (.inl ((xs244.set x245.toNat (x312.1, x307, x312.2.2)), (W (x245 + (1 : Int))))) else some (.inr (.inl (xs244)))) : Option (((List Timpl_Vertex) × (Int)) ⊕ (((List Timpl_Vertex)) ⊕ (((List Timpl_Vertex) × Int)))))) fuel (x208, (0 : Int))).bind fun res278 => ctl (β := (List Timpl_Vertex)) (ρ := ((List Timpl_Vertex) × Int)) (τ := ((List Timpl_Vertex) × Int)) res278 (fun (xs277) => some ((xs277, (0 : Int)))) (fun q => some (q))) (fun q => some (q))) (fun q => some (q)))
set_option maxRecDepth 20000 in
theorem spec_CompressPriorities_ok {w0 : World} {fuel : Nat} {p0 : Value} {a0 : (List Timpl_Vertex)} {r : ((List Timpl_Vertex) × Int)} (h0 : Rd (rList Rimpl_Vertex) w0 p0 a0) (hm : spec_CompressPriorities_m fuel a0 = some r) :
    Calls Try.prog 45 #[p0] w0 fun e w => ∃ (v0 : Value), e = .returned (.tuple #[v0, .int .i64 r.2]) ∧ Heap w0 [oA (rList Rimpl_Vertex) v0 r.1] w := by
  unfold spec_CompressPriorities_m at hm
  have H := Heap.start w0
  refine enter (args := [p0]) Try.func45 rfl 84 rfl (Nat.le_of_ble_eq_true rfl) (fun a S => ?_)
  refine wp_seq ?_
  refine region_plain ?_
  refine lx_q (.slice none 0 0) S trivial (by decide) (q_assign rfl) (fun a S => ?_)
  refine lx_q (.int .i64 (0 : Int)) S trivial (by decide) (q_assign rfl) (fun a S => ?_)
  refine lx_nil ?_
  refine thenN ?_
  refine wp_seq ?_
  refine wp_seq ?_
  refine region_plain ?_
  refine lx_q p0 S trivial (by decide) (q_move rfl) (fun a S => ?_)
  obtain ⟨x33, e34, hm⟩ := bind_some hm
  refine lx_call (xs := [.tmp 11]) S trivial (by decide) rfl rfl Try.call53 ((spec_l23Is_ok (H.arg h0) e34).mono ?_)
  rintro e w31 ⟨rfl, Hc32⟩
  have he35 := Hc32.ext
  have H := H.call0 Hc32
  refine ⟨_, rfl, trivial, fun a S => ?_⟩
  refine lx_q (.bool (!x33)) S trivial (by decide) (q_not rfl) (fun a S => ?_)
  refine lx_nil ?_
  refine thenN ?_
  refine cond_b S rfl (fun hc36 => ?_) (fun hc36 => ?_)
  · have hm := ite_t hc36 hm
    refine wp_seq ?_
    refine region_plain ?_
    refine lx_q (.slice none 0 0) S trivial (by decide) (q_assign rfl) (fun a S => ?_)
    refine lx_q (.int .i64 (1 : Int)) S trivial (by decide) (q_assign rfl) (fun a S => ?_)
    refine lx_nil ?_
    refine thenN ?_
    refine wp_ret ?_
    refine then_ret ?_
    obtain rfl := Option.some.inj hm
    have H : Heap w0 [oA (rList Rimpl_Vertex) (.slice none 0 0) ([] : List Timpl_Vertex)] w31 := H.nilList Rimpl_Vertex
    exact leave2 S rfl rfl rfl ⟨(.slice none 0 0), rfl, H⟩
  · have hm := ite_f hc36 hm
    refine wp_skip ?_
    refine thenN ?_
    refine wp_seq ?_
    refine region_plain ?_
    refine lx_buildSlice0 (r := (rInt .i64)) S trivial (by decide) rfl H Try.underlying23 Try.sizeOf2 (fun v38 w39 H => ⟨trivial, fun a S => ?_⟩)
    refine lx_q v38 S trivial (by decide) (q_assign rfl) (fun a S => ?_)
    refine lx_nil ?_
    refine thenN ?_
    refine wp_seq ?_
    refine wp_seq ?_
    refine region_plain ?_
    refine lx_q (.int .i64 (0 : Int)) S trivial (by decide) (q_assign rfl) (fun a S => ?_)
    refine lx_nil ?_
    refine thenN ?_
    obtain ⟨res102, hit103, hk106⟩ := bind_some hm
    obtain ⟨f104, hf105, hit103⟩ := iter_name hit103
    refine block_loop (fun a w => ∃ (xs100 : List Int) (v99 : Value), Slots a 84 [(0, p0), (4, v99)] ∧ Heap w0 [oA (rList (rInt .i64)) v99 xs100] w ∧ res102 = .inl (xs100)) ?_ ?_
    · rintro a w ⟨xs100, v99, S, H, rfl⟩
      have hm := ctl_inl hk106
      refine thenN ?_
      refine wp_seq ?_
      refine region_plain ?_
      refine lx_buildSlice0 (r := (rInt .i64)) S trivial (by decide) rfl H Try.underlying23 Try.sizeOf2 (fun v107 w108 H => ⟨trivial, fun a S => ?_⟩)
      refine lx_q v107 S trivial (by decide) (q_assign rfl) (fun a S => ?_)
      refine lx_nil ?_
      refine thenN ?_
      refine wp_seq ?_
      refine wp_seq ?_
      refine region_plain ?_
      refine lx_q (.int .i64 (0 : Int)) S trivial (by decide) (q_assign rfl) (fun a S => ?_)
      refine lx_nil ?_
      refine thenN ?_
      obtain ⟨res201, hit202, hk205⟩ := bind_some hm
      obtain ⟨f203, hf204, hit202⟩ := iter_name hit202
      refine block_loop (fun a w => ∃ (xs199 : List Int) (v198 : Value), Slots a 84 [(0, p0), (4, v99), (6, v198)] ∧ Heap w0 [oA (rList (rInt .i64)) v99 xs100, oA (rList (rInt .i64)) v198 xs199] w ∧ res201 = .inl (xs199)) ?_ ?_
      · rintro a w ⟨xs199, v198, S, H, rfl⟩
        have hm := ctl_inl hk205
        refine thenN ?_
        refine wp_seq ?_
        refine region_plain ?_
        refine lx_q p0 S trivial (by decide) (q_move rfl) (fun a S => ?_)
        obtain ⟨x208, e209, hm⟩ := bind_some hm
        refine lx_call (xs := [.tmp 61]) S trivial (by decide) rfl rfl Try.call100 ((spec_l23Own_ok (H.arg h0) e209).mono ?_)
        rintro e w206 ⟨v210, rfl, Hc207⟩
        have he212 := Hc207.ext
        have H := H.call1 Hc207
        refine ⟨_, rfl, trivial, fun a S => ?_⟩
        refine lx_q v210 S trivial (by decide) (q_assign rfl) (fun a S => ?_)
        refine lx_nil ?_
        refine thenN ?_
        refine wp_seq ?_
        refine wp_seq ?_
        refine region_plain ?_
        refine lx_q (.int .i64 (0 : Int)) S trivial (by decide) (q_assign rfl) (fun a S => ?_)
        refine lx_nil ?_
        refine thenN ?_
        obtain ⟨res278, hit279, hk282⟩ := bind_some hm
        obtain ⟨f280, hf281, hit279⟩ := iter_name hit279
        refine block_loop (fun a w => ∃ (xs277 : List Timpl_Vertex), Slots a 84 [(9, v210)] ∧ Heap w0 [oA (rList Rimpl_Vertex) v210 xs277] w ∧ res278 = .inl (xs277)) ?_ ?_
        · rintro a w ⟨xs277, S, H, rfl⟩
          have hm := ctl_inl hk282
          refine thenN ?_
          refine wp_seq ?_
          refine region_plain ?_
          refine lx_q v210 S trivial (by decide) (q_move rfl) (fun a S => ?_)
          refine lx_q v210 S trivial (by decide) (q_assign rfl) (fun a S => ?_)
          refine lx_q (.int .i64 (0 : Int)) S trivial (by decide) (q_assign rfl) (fun a S => ?_)
          refine lx_nil ?_
          refine thenN ?_
          refine wp_ret ?_
          obtain rfl := Option.some.inj hm
          exact leave2 S rfl rfl rfl ⟨v210, rfl, H⟩
        · skip
          have H : Heap w0 [oA (rList (rInt .i64)) v198 xs199, oA (rList Rimpl_Vertex) v210 x208, oA (rList (rInt .i64)) v99 xs100] w206 := H.front 2 rfl
          have H : Heap w0 [oA (rList (rInt .i64)) v99 xs100, oA (rList (rInt .i64)) v198 xs199, oA (rList Rimpl_Vertex) v210 x208] w206 := H.front 2 rfl
          refine loop_ghost (fun n a w => ∃ (xs244 : List Timpl_Vertex) (x245 : Int), Slots a 84 [(4, v99), (6, v198), (9, v210), (10, (.int .i64 x245))] ∧ Heap w0 [oA (rList (rInt .i64)) v99 xs100, oA (rList (rInt .i64)) v198 xs199, oA (rList Rimpl_Vertex) v210 xs244] w ∧ iter f280 n (xs244, x245) = some res278) _ ⟨x208, (0 : Int), S.sub ⟨rfl, rfl, rfl, rfl, trivial⟩, H, hit279⟩ ?_
          rintro n a w ⟨xs244, x245, S, H, hit279⟩
          obtain ⟨m283, o284, rfl, hm, hc285⟩ := iter_step hit279
          rw [hf281] at hm
          refine wp_seq ?_
          refine wp_seq ?_
          refine region_plain ?_
          refine lx_q (.int .i64 x245) S trivial (by decide) (q_move rfl) (fun a S => ?_)
          refine lx_q v210 S trivial (by decide) (q_move rfl) (fun a S => ?_)
          refine lx_q (.int .i64 (xs244.length : Int)) S trivial (by decide) (q_lenSl rfl (H.isSl 2 rfl) rfl Try.underlying26) (fun a S => ?_)
          refine lx_q (.bool (decide (x245 < (xs244.length : Int)))) S trivial (by decide) (q_lss rfl rfl) (fun a S => ?_)
          refine lx_nil ?_
          refine thenN ?_
          refine cond_b S rfl (fun hc286 => ?_) (fun hc286 => ?_)
          · have hm := ite_t hc286 hm
            refine wp_skip ?_
            refine thenN ?_
            refine wp_seq ?_
            refine wp_block ?_
            refine region_plain ?_
            refine lx_q v210 S trivial (by decide) (q_move rfl) (fun a S => ?_)
            refine lx_q (.int .i64 x245) S trivial (by decide) (q_move rfl) (fun a S => ?_)
            refine lx_q v198 S trivial (by decide) (q_move rfl) (fun a S => ?_)
            refine lx_q v99 S trivial (by decide) (q_move rfl) (fun a S => ?_)
            refine lx_q v210 S trivial (by decide) (q_move rfl) (fun a S => ?_)
            refine lx_q (.int .i64 x245) S trivial (by decide) (q_move rfl) (fun a S => ?_)
            obtain ⟨x287, e288, hm⟩ := bind_some hm
            have hlt := lt_of_idx (idx_some e288).2
            refine lx_q (ePtr v210 (x245.toNat * 3)) S trivial (by decide) (q_indexAddr rfl (H.isSl 2 rfl) rfl (idx_some e288).1 hlt Try.underlying26 Try.sizeOf71) (fun a S => ?_)
            refine lx_q (pAdd (ePtr v210 (x245.toNat * 3)) 1) S trivial (by decide) (q_fieldAddr' 1 2 rfl (((H.isSl 2 rfl)).ptr (lt_of_idx (idx_some e288).2) _) Try.underlying71 rfl Try.sizeOf2) (fun a S => ?_)
            obtain ⟨c289, h290, hat291⟩ := (H.rdAt 2 rfl).elem (idx_some e288).2
            obtain ⟨c294, c295, rfl, h296, h297⟩ := h290
            obtain rfl := h296
            obtain ⟨c298, c299, rfl, h300, h301⟩ := h297
            obtain rfl := h300
            obtain ⟨v292, rfl, h293⟩ := rd_list h301
            refine lx_e (.int .i64 x287.2.1) S trivial (by decide) rfl trivial (q_load1 rfl Try.isAgg2 (by rintro _ rfl; exact (At.of_add (m := 1) (j := 0) (hat291 1 _ rfl)))) (fun a S => ?_)
            obtain ⟨x304, e305, hm⟩ := bind_some hm
            refine lx_call (xs := [.tmp 72, .tmp 77]) S trivial (by decide) rfl rfl Try.call94 ((spec_l11Place_ok (H.rdAt 0 rfl)  e305).mono ?_)
            rintro e w302 ⟨rfl, Hc303⟩
            have he306 := Hc303.ext
            have H := H.call0 Hc303
            refine ⟨_, rfl, trivial, fun a S => ?_⟩
            obtain ⟨x307, e308, hm⟩ := bind_some hm
            have hlt := lt_of_idx (idx_some e308).2
            refine lx_q (ePtr v198 (x304.toNat * 1)) S trivial (by decide) (q_indexAddr rfl (H.isSl 1 rfl) rfl (idx_some e308).1 hlt Try.underlying23 Try.sizeOf2) (fun a S => ?_)
            obtain ⟨c309, h310, hat311⟩ := (H.rdAt 1 rfl).elem (idx_some e308).2
            obtain rfl := h310
            refine lx_e (.int .i64 x307) S trivial (by decide) rfl trivial (q_load1 rfl Try.isAgg2 (by rintro _ rfl; exact (hat311 0 _ rfl))) (fun a S => ?_)
            obtain ⟨x312, e313, hm⟩ := bind_some hm
            have hlt := lt_of_idx (idx_some e313).2
            refine lx_q (ePtr v210 (x245.toNat * 3)) S trivial (by decide) (q_indexAddr rfl (H.isSl 2 rfl) rfl (idx_some e313).1 hlt Try.underlying26 Try.sizeOf71) (fun a S => ?_)
            refine lx_q (pAdd (ePtr v210 (x245.toNat * 3)) 1) S trivial (by decide) (q_fieldAddr' 1 2 rfl (((H.isSl 2 rfl)).ptr (lt_of_idx (idx_some e313).2) _) Try.underlying71 rfl Try.sizeOf2) (fun a S => ?_)
            have H : Heap w0 [oA (rList Rimpl_Vertex) v210 xs244, oA (rList (rInt .i64)) v99 xs100, oA (rList (rInt .i64)) v198 xs199] w302 := H.front 2 rfl
            refine lx_storeElem (r := Rimpl_Vertex) (us := [(.int .i64 x307)]) (off := 1) (e' := (x312.1, x307, x312.2.2)) S trivial rfl H.putE rfl rfl (idx_some e313).2 rfl Try.sizeOf2 (Nat.le_of_ble_eq_true rfl) (List.forall_mem_cons.2 ⟨rfl, (fun _ h => nomatch h)⟩) (Upd.snd (off := 0) (Upd.fst (off := 0) (Nat.le_of_ble_eq_true rfl) (Upd.full rfl (fun w G hG => by cases (show G = [] from hG); exact ⟨rfl, rfl⟩)))) (fun w314 H => ⟨trivial, fun a S => ?_⟩)
            refine lx_nil ?_
            refine inBlock_norm ?_
            refine thenN ?_
            refine region_plain ?_
            refine lx_q (.int .i64 x245) S trivial (by decide) (q_move rfl) (fun a S => ?_)
            refine lx_q (.int .i64 (W (x245 + (1 : Int)))) S trivial (by decide) (q_add rfl rfl) (fun a S => ?_)
            refine lx_q (.int .i64 (W (x245 + (1 : Int)))) S trivial (by decide) (q_assign rfl) (fun a S => ?_)
            refine lx_nil ?_
            have H : Heap w0 [oA (rList (rInt .i64)) v198 xs199, oA (rList Rimpl_Vertex) v210 (xs244.set x245.toNat (x312.1, x307, x312.2.2)), oA (rList (rInt .i64)) v99 xs100] w314 := H.front 2 rfl
            have H : Heap w0 [oA (rList (rInt .i64)) v99 xs100, oA (rList (rInt .i64)) v198 xs199, oA (rList Rimpl_Vertex) v210 (xs244.set x245.toNat (x312.1, x307, x312.2.2))] w314 := H.front 2 rfl
            exact ⟨m283, Nat.lt_succ_self _, (xs244.set x245.toNat (x312.1, x307, x312.2.2)), (W (x245 + (1 : Int))), S.sub ⟨rfl, rfl, rfl, rfl, trivial⟩, H, it_cont hm hc285⟩
          · have hm := ite_f hc286 hm
            refine wp_exit ?_
            refine then_exit ?_
            refine then_exit ?_
            refine inBlock_exit ?_
            obtain rfl := it_brk hm hc285
            have H : Heap w0 [oA (rList Rimpl_Vertex) v210 xs244] w := H.sel [2] (by decide)
            exact ⟨xs244, S.sub ⟨rfl, trivial⟩, H, rfl⟩
      · skip
        have H : Heap w0 [oA (rList (rInt .i64)) v99 xs100, oA (rList (rInt .i64)) v107 ([] : List Int)] w108 := H.front 1 rfl
        refine loop_ghost (fun n a w => ∃ (xs153 : List Int) (x155 : Int) (v152 : Value), Slots a 84 [(0, p0), (4, v99), (6, v152), (7, (.int .i64 x155))] ∧ Heap w0 [oA (rList (rInt .i64)) v99 xs100, oA (rList (rInt .i64)) v152 xs153] w ∧ iter f203 n (xs153, x155) = some res201) _ ⟨([] : List Int), (0 : Int), v107, S.sub ⟨rfl, rfl, rfl, rfl, trivial⟩, H, hit202⟩ ?_
        rintro n a w ⟨xs153, x155, v152, S, H, hit202⟩
        obtain ⟨m315, o316, rfl, hm, hc317⟩ := iter_step hit202
        rw [hf204] at hm
        refine wp_seq ?_
        refine wp_seq ?_
        refine region_plain ?_
        refine lx_q (.int .i64 x155) S trivial (by decide) (q_move rfl) (fun a S => ?_)
        refine lx_q v99 S trivial (by decide) (q_move rfl) (fun a S => ?_)
        refine lx_q (.int .i64 (xs100.length : Int)) S trivial (by decide) (q_lenSl rfl (H.isSl 0 rfl) rfl Try.underlying23) (fun a S => ?_)
        refine lx_q (.bool (decide (x155 < (xs100.length : Int)))) S trivial (by decide) (q_lss rfl rfl) (fun a S => ?_)
        refine lx_nil ?_
        refine thenN ?_
        refine cond_b S rfl (fun hc318 => ?_) (fun hc318 => ?_)
        · have hm := ite_t hc318 hm
          refine wp_skip ?_
          refine thenN ?_
          obtain ⟨K322, hK323, hm⟩ := join_elim hm
          refine seq_cut (fun a w => ∃ (xs320 : List Int) (v319 : Value), Slots a 84 [(0, p0), (4, v99), (6, v319), (7, (.int .i64 x155))] ∧ Heap w0 [oA (rList (rInt .i64)) v99 xs100, oA (rList (rInt .i64)) v319 xs320] w ∧ K322 xs320 = some o316) ?_ ?_
          · rintro a w ⟨xs320, v319, S, H, hm⟩
            subst hK323
            refine region_plain ?_
            refine lx_q (.int .i64 x155) S trivial (by decide) (q_move rfl) (fun a S => ?_)
            refine lx_q (.int .i64 (W (x155 + (1 : Int)))) S trivial (by decide) (q_add rfl rfl) (fun a S => ?_)
            refine lx_q (.int .i64 (W (x155 + (1 : Int)))) S trivial (by decide) (q_assign rfl) (fun a S => ?_)
            refine lx_nil ?_
            exact ⟨m315, Nat.lt_succ_self _, xs320, (W (x155 + (1 : Int))), v319, S.sub ⟨rfl, rfl, rfl, rfl, trivial⟩, H, it_cont hm hc317⟩
          · skip
            refine wp_block ?_
            refine wp_seq ?_
            refine wp_seq ?_
            refine region_plain ?_
            refine lx_q (.int .i64 x155) S trivial (by decide) (q_move rfl) (fun a S => ?_)
            refine lx_q (.bool (x155 == (0 : Int))) S trivial (by decide) (q_eql rfl rfl) (fun a S => ?_)
            refine lx_nil ?_
            refine thenN ?_
            refine cond_b S rfl (fun hc324 => ?_) (fun hc324 => ?_)
            · have hm := ite_t hc324 hm
              refine wp_seq ?_
              refine region_plain ?_
              refine lx_q v152 S trivial (by decide) (q_move rfl) (fun a S => ?_)
              refine lx_q v99 S trivial (by decide) (q_move rfl) (fun a S => ?_)
              obtain ⟨x325, e326, hm⟩ := bind_some hm
              have hlt := lt_of_idx (idx_some e326).2
              refine lx_q (ePtr v99 ((0 : Int).toNat * 1)) S trivial (by decide) (q_indexAddr rfl (H.isSl 0 rfl) rfl (idx_some e326).1 hlt Try.underlying23 Try.sizeOf2) (fun a S => ?_)
              obtain ⟨c327, h328, hat329⟩ := (H.rdAt 0 rfl).elem (idx_some e326).2
              obtain rfl := h328
              refine lx_e (.int .i64 x325) S trivial (by decide) rfl trivial (q_load1 rfl Try.isAgg2 (by rintro _ rfl; exact (hat329 0 _ rfl))) (fun a S => ?_)
              refine lx_q (.int .i64 (x325.tmod (2 : Int))) S trivial (by decide) (q_rem rfl rfl (show (2 : Int) ≠ 0 from by decide)) (fun a S => ?_)
              refine lx_buildSlice (r := (rInt .i64)) (xs := [(x325.tmod (2 : Int))]) (ps := [(0, [(.int .i64 (x325.tmod (2 : Int)))])]) (cs := [(.int .i64 (x325.tmod (2 : Int)))]) (parts := [(0, .tmp 41)]) S trivial (by decide) rfl (H.put0 (A := eA) rfl) rfl Try.underlying23 Try.sizeOf2 Try.zeroValue2 (by decide) ⟨rfl, rfl, Nat.le_of_ble_eq_true rfl, trivial⟩ (by intro zs hz; exact fill_dense hz ⟨rfl, trivial⟩ rfl rfl) rfl (by decide) (fun w F hA => by cases (show F = [] from hA); exact ⟨_, _, [(.int .i64 (x325.tmod (2 : Int)))], _, rfl, rfl, ⟨rfl, rfl⟩, ⟨rfl, rfl⟩⟩) (fun v330 w331 H => ⟨trivial, fun a S => ?_⟩)
              obtain ⟨x333, e334, hm⟩ := bind_some hm
              obtain ⟨hle, hap⟩ := app_some e334
              replace hap := hap.symm
              subst hap
              have H : Heap w0 [oA (rList (rInt .i64)) v330 [(x325.tmod (2 : Int))], oA (rList (rInt .i64)) v99 xs100, oA (rList (rInt .i64)) v152 xs153] w331 := H.front 0 rfl
              have H : Heap w0 [oA (rList (rInt .i64)) v152 xs153, oA (rList (rInt .i64)) v330 [(x325.tmod (2 : Int))], oA (rList (rInt .i64)) v99 xs100] w331 := H.front 2 rfl
              refine lx_appendOwn (r := (rInt .i64)) S trivial (by decide) rfl H rfl rfl Try.underlying23 Try.ti2 rfl rfl rfl (by decide) (by decide) hle (fun v335 w336 H => ⟨trivial, fun a S => ?_⟩)
              refine lx_q v335 S trivial (by decide) (q_assign rfl) (fun a S => ?_)
              refine lx_nil ?_
              refine thenN ?_
              refine wp_exit ?_
              refine then_exit ?_
              refine inBlock_exit ?_
              have H : Heap w0 [oA (rList (rInt .i64)) v99 xs100, oA (rList (rInt .i64)) v335 (xs153 ++ [(x325.tmod (2 : Int))])] w336 := H.front 1 rfl
              exact ⟨(xs153 ++ [(x325.tmod (2 : Int))]), v335, S.sub ⟨rfl, rfl, rfl, rfl, trivial⟩, H, hm⟩
            · have hm := ite_f hc324 hm
              refine wp_skip ?_
              refine thenN ?_
              refine wp_seq ?_
              refine region_plain ?_
              refine lx_q v152 S trivial (by decide) (q_move rfl) (fun a S => ?_)
              refine lx_q (.int .i64 x155) S trivial (by decide) (q_move rfl) (fun a S => ?_)
              refine lx_q (.int .i64 (W (x155 - (1 : Int)))) S trivial (by decide) (q_sub rfl rfl) (fun a S => ?_)
              obtain ⟨x338, e339, hm⟩ := bind_some hm
              have hlt := lt_of_idx (idx_some e339).2
              refine lx_q (ePtr v152 ((W (x155 - (1 : Int))).toNat * 1)) S trivial (by decide) (q_indexAddr rfl (H.isSl 1 rfl) rfl (idx_some e339).1 hlt Try.underlying23 Try.sizeOf2) (fun a S => ?_)
              obtain ⟨c340, h341, hat342⟩ := (H.rdAt 1 rfl).elem (idx_some e339).2
              obtain rfl := h341
              refine lx_e (.int .i64 x338) S trivial (by decide) rfl trivial (q_load1 rfl Try.isAgg2 (by rintro _ rfl; exact (hat342 0 _ rfl))) (fun a S => ?_)
              refine lx_q (.int .i64 x338) S trivial (by decide) (q_assign rfl) (fun a S => ?_)
              refine lx_nil ?_
              refine thenN ?_
              refine region_plain ?_
              refine lx_q v152 S trivial (by decide) (q_move rfl) (fun a S => ?_)
              refine lx_q (.int .i64 x338) S trivial (by decide) (q_move rfl) (fun a S => ?_)
              refine lx_q v99 S trivial (by decide) (q_move rfl) (fun a S => ?_)
              refine lx_q (.int .i64 x155) S trivial (by decide) (q_move rfl) (fun a S => ?_)
              obtain ⟨x343, e344, hm⟩ := bind_some hm
              have hlt := lt_of_idx (idx_some e344).2
              refine lx_q (ePtr v99 (x155.toNat * 1)) S trivial (by decide) (q_indexAddr rfl (H.isSl 0 rfl) rfl (idx_some e344).1 hlt Try.underlying23 Try.sizeOf2) (fun a S => ?_)
              obtain ⟨c345, h346, hat347⟩ := (H.rdAt 0 rfl).elem (idx_some e344).2
              obtain rfl := h346
              refine lx_e (.int .i64 x343) S trivial (by decide) rfl trivial (q_load1 rfl Try.isAgg2 (by rintro _ rfl; exact (hat347 0 _ rfl))) (fun a S => ?_)
              refine lx_q (.int .i64 x338) S trivial (by decide) (q_move rfl) (fun a S => ?_)
              refine lx_q (.int .i64 (W (x343 + x338))) S trivial (by decide) (q_add rfl rfl) (fun a S => ?_)
              refine lx_q (.int .i64 ((W (x343 + x338)).tmod (2 : Int))) S trivial (by decide) (q_rem rfl rfl (show (2 : Int) ≠ 0 from by decide)) (fun a S => ?_)
              refine lx_q (.int .i64 (W (x338 + ((W (x343 + x338)).tmod (2 : Int))))) S trivial (by decide) (q_add rfl rfl) (fun a S => ?_)
              refine lx_buildSlice (r := (rInt .i64)) (xs := [(W (x338 + ((W (x343 + x338)).tmod (2 : Int))))]) (ps := [(0, [(.int .i64 (W (x338 + ((W (x343 + x338)).tmod (2 : Int)))))])]) (cs := [(.int .i64 (W (x338 + ((W (x343 + x338)).tmod (2 : Int)))))]) (parts := [(0, .tmp 58)]) S trivial (by decide) rfl (H.put0 (A := eA) rfl) rfl Try.underlying23 Try.sizeOf2 Try.zeroValue2 (by decide) ⟨rfl, rfl, Nat.le_of_ble_eq_true rfl, trivial⟩ (by intro zs hz; exact fill_dense hz ⟨rfl, trivial⟩ rfl rfl) rfl (by decide) (fun w F hA => by cases (show F = [] from hA); exact ⟨_, _, [(.int .i64 (W (x338 + ((W (x343 + x338)).tmod (2 : Int)))))], _, rfl, rfl, ⟨rfl, rfl⟩, ⟨rfl, rfl⟩⟩) (fun v348 w349 H => ⟨trivial, fun a S => ?_⟩)
              obtain ⟨x351, e352, hm⟩ := bind_some hm
              obtain ⟨hle, hap⟩ := app_some e352
              replace hap := hap.symm
              subst hap
              have H : Heap w0 [oA (rList (rInt .i64)) v348 [(W (x338 + ((W (x343 + x338)).tmod (2 : Int))))], oA (rList (rInt .i64)) v99 xs100, oA (rList (rInt .i64)) v152 xs153] w349 := H.front 0 rfl
              have H : Heap w0 [oA (rList (rInt .i64)) v152 xs153, oA (rList (rInt .i64)) v348 [(W (x338 + ((W (x343 + x338)).tmod (2 : Int))))], oA (rList (rInt .i64)) v99 xs100] w349 := H.front 2 rfl
              refine lx_appendOwn (r := (rInt .i64)) S trivial (by decide) rfl H rfl rfl Try.underlying23 Try.ti2 rfl rfl rfl (by decide) (by decide) hle (fun v353 w354 H => ⟨trivial, fun a S => ?_⟩)
              refine lx_q v353 S trivial (by decide) (q_assign rfl) (fun a S => ?_)
              refine lx_nil ?_
              refine inBlock_norm ?_
              have H : Heap w0 [oA (rList (rInt .i64)) v99 xs100, oA (rList (rInt .i64)) v353 (xs153 ++ [(W (x338 + ((W (x343 + x338)).tmod (2 : Int))))])] w354 := H.front 1 rfl
              exact ⟨(xs153 ++ [(W (x338 + ((W (x343 + x338)).tmod (2 : Int))))]), v353, S.sub ⟨rfl, rfl, rfl, rfl, trivial⟩, H, hm⟩
        · have hm := ite_f hc318 hm
          refine wp_exit ?_
          refine then_exit ?_
          refine then_exit ?_
          refine inBlock_exit ?_
          obtain rfl := it_brk hm hc317
          exact ⟨xs153, v152, S.sub ⟨rfl, rfl, rfl, trivial⟩, H, rfl⟩
    · skip
      refine loop_ghost (fun n a w => ∃ (xs69 : List Int) (x71 : Int) (v68 : Value), Slots a 84 [(0, p0), (4, v68), (5, (.int .i64 x71))] ∧ Heap w0 [oA (rList (rInt .i64)) v68 xs69] w ∧ iter f104 n (xs69, x71) = some res102) _ ⟨([] : List Int), (0 : Int), v38, S.sub ⟨rfl, rfl, rfl, trivial⟩, H, hit103⟩ ?_
      rintro n a w ⟨xs69, x71, v68, S, H, hit103⟩
      obtain ⟨m356, o357, rfl, hm, hc358⟩ := iter_step hit103
      rw [hf105] at hm
      refine wp_seq ?_
      refine wp_seq ?_
      refine region_plain ?_
      refine lx_q (.int .i64 x71) S trivial (by decide) (q_move rfl) (fun a S => ?_)
      refine lx_q p0 S trivial (by decide) (q_move rfl) (fun a S => ?_)
      refine lx_q (.int .i64 (a0.length : Int)) S trivial (by decide) (q_lenSl rfl (h0).isSl rfl Try.underlying26) (fun a S => ?_)
      refine lx_q (.bool (decide (x71 < (a0.length : Int)))) S trivial (by decide) (q_lss rfl rfl) (fun a S => ?_)
      refine lx_nil ?_
      refine thenN ?_
      refine cond_b S rfl (fun hc359 => ?_) (fun hc359 => ?_)
      · have hm := ite_t hc359 hm
        refine wp_skip ?_
        refine thenN ?_
        refine wp_seq ?_
        refine wp_block ?_
        refine region_plain ?_
        refine lx_q v68 S trivial (by decide) (q_move rfl) (fun a S => ?_)
        refine lx_q p0 S trivial (by decide) (q_move rfl) (fun a S => ?_)
        refine lx_q (.int .i64 x71) S trivial (by decide) (q_move rfl) (fun a S => ?_)
        obtain ⟨x360, e361, hm⟩ := bind_some hm
        obtain ⟨c362, h363, hat364⟩ := (h0).elem (idx_some e361).2
        obtain ⟨c367, c368, rfl, h369, h370⟩ := h363
        obtain rfl := h369
        obtain ⟨c371, c372, rfl, h373, h374⟩ := h370
        obtain rfl := h373
        obtain ⟨v365, rfl, h366⟩ := rd_list h374
        have hlt := lt_of_idx (idx_some e361).2
        refine lx_q (ePtr p0 (x71.toNat * 3)) S trivial (by decide) (q_indexAddr rfl (h0).isSl rfl (idx_some e361).1 hlt Try.underlying26 Try.sizeOf71) (fun a S => ?_)
        refine lx_q (pAdd (ePtr p0 (x71.toNat * 3)) 1) S trivial (by decide) (q_fieldAddr' 1 2 rfl ((hat364 0 _ rfl).isP) Try.underlying71 rfl Try.sizeOf2) (fun a S => ?_)
        refine lx_e (.int .i64 x360.2.1) S trivial (by decide) rfl trivial (q_load1 rfl Try.isAgg2 (by rintro _ rfl; exact (At.of_add (m := 1) (j := 0) ((hat364 1 _ rfl).ext H.ext)))) (fun a S => ?_)
        obtain ⟨x377, e378, hm⟩ := bind_some hm
        refine lx_call (xs := [.tmp 21, .tmp 26]) S trivial (by decide) rfl rfl Try.call99 ((spec_l00Put_ok (H.rdAt 0 rfl)  e378).mono ?_)
        rintro e w375 ⟨v379, rfl, Hc376⟩
        have he381 := Hc376.ext
        have H := H.call1 Hc376
        refine ⟨_, rfl, trivial, fun a S => ?_⟩
        refine lx_q v379 S trivial (by decide) (q_assign rfl) (fun a S => ?_)
        refine lx_nil ?_
        refine inBlock_norm ?_
        refine thenN ?_
        refine region_plain ?_
        refine lx_q (.int .i64 x71) S trivial (by decide) (q_move rfl) (fun a S => ?_)
        refine lx_q (.int .i64 (W (x71 + (1 : Int)))) S trivial (by decide) (q_add rfl rfl) (fun a S => ?_)
        refine lx_q (.int .i64 (W (x71 + (1 : Int)))) S trivial (by decide) (q_assign rfl) (fun a S => ?_)
        refine lx_nil ?_
        have H : Heap w0 [oA (rList (rInt .i64)) v379 x377] w375 := H.sel [0] (by decide)
        exact ⟨m356, Nat.lt_succ_self _, x377, (W (x71 + (1 : Int))), v379, S.sub ⟨rfl, rfl, rfl, trivial⟩, H, it_cont hm hc358⟩
      · have hm := ite_f hc359 hm
        refine wp_exit ?_
        refine then_exit ?_
        refine then_exit ?_
        refine inBlock_exit ?_
        obtain rfl := it_brk hm hc358
        exact ⟨xs69, v68, S.sub ⟨rfl, rfl, trivial⟩, H, rfl⟩
end Go.Proofs.Ytecknjdlbmmmiaa
