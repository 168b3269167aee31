/- The models of some functions and their walks (printed by a program of this repo). -/
import Derived.Test.YtciiinpphaaddaaGreatDoorF0
import Derived.Test.YtciiinpphaaddaaGreatDoorF4
import Derived.Test.YtciiinpphaaddaaGreatDoorF5
import Derived.Test.YtciiinpphaaddaaGreatDoorGxT
import Derived.Test.YtciiinpphaaddaaGreatDoorGxY
namespace Go.Proofs.YtciiinpphaaddaaGreatDoor
open Go.RowKit Go.Gx

/-- impl.single -/
def impl_single_m (_ : Nat) (a0 : Int) : Option ((List Int)) :=
  (mks a0 (0 : Int)).bind fun x31 => some (x31)
set_option maxRecDepth 20000 in
theorem impl_single_ok {w0 : World} {fuel : Nat} {a0 : Int} {r : (List Int)} (hm : impl_single_m fuel a0 = some r) :
  Calls Tryz.prog 85 #[.int .i64 a0] w0 fun e w => ∃ (v0 : Value), e = .returned (v0) ∧ Heap w0 [oA (rList (rInt .i64)) v0 r] w := by
 unfold impl_single_m at hm
 have H := Heap.start w0
 refine enter (args := [.int .i64 a0]) Tryz.func85 rfl 5 rfl (Nat.le_of_ble_eq_true rfl) (fun a S => ?_)
 refine wp_seq (region_plain ?_)
 refine lq (.slice none 0 0) S (q_assign rfl) fun a S => ?_
 refine lx_nil (thenN ?_)
 refine wp_seq (region_plain ?_)
 refine lq (.int .i64 a0) S (q_move rfl) fun a S => ?_
 obtain ⟨x31, e32, hm⟩ := bind_some hm
 obtain ⟨m33, hn, hn2, rfl⟩ := mks_some e32
 refine lx_make (r := (rInt .i64)) (z0 := (0 : Int)) (n := m33) S trivial (by decide) rfl H (by rw [← hn]; rfl) (by rw [← hn]; rfl) Tryz.underlying27 (Tryz.ti2) rfl rfl (Nat.le_of_ble_eq_true rfl) (fun w => ⟨rfl, rfl⟩) hn2 (by decide) (fun v34 w35 H => ⟨trivial, fun a S => ?_⟩)
 refine lq v34 S (q_assign rfl) fun a S => ?_
 refine lx_nil (thenN ?_)
 refine wp_ret ?_
 obtain rfl := Option.some.inj hm
 exact leave1 S rfl rfl ⟨v34, rfl, H⟩

/-- impl.rounds -/
def impl_rounds_m (fuel : Nat) (a0 : Int) (a1 : ((List Int) → Option (List Int))) : Option ((List (List Int))) :=
  (impl_single_m fuel a0).bind fun x33 => (iter (fun (s : (List (List Int))) => (match s with | (xs75) => (idx xs75 (W ((xs75.length : Int) - (1 : Int)))).bind fun x118 => (a1 x118).bind fun x129 => (slices_Equal__int64_int64_m fuel x118 x129).bind fun x136 => (if x136 = true then some (.inr (.inr xs75)) else (app xs75 [x129]).bind fun x143 => some (.inl (x143))) : Option (((List (List Int))) ⊕ ((Empty) ⊕ ((List (List Int))))))) fuel ([x33])).bind fun res110 => ctl (β := Empty) (ρ := (List (List Int))) (τ := (List (List Int))) res110 (fun e_ => nomatch e_) (fun q => some (q))
set_option maxRecDepth 20000 in
theorem impl_rounds_ok {w0 : World} {fuel : Nat} {a0 : Int} {a1 : ((List Int) → Option (List Int))} {f1 : Nat} {fs1 cp1 : List Value} {r : (List (List Int))} (hcf1 : ∀ args w, (callFunc f1 args).run Tryz.prog w = .ok (.enter f1 args) w) (hf1 : ∀ {w : World} {x0_ : (List Int)} {v0_ : Value} {y : (List Int)}, Ext w0 w → Rd (rList (rInt .i64)) w v0_ x0_ → a1 x0_ = some y → Calls Tryz.prog f1 (fs1 ++ ([v0_] : List Value) ++ cp1).toArray w fun e w' => ∃ v0_, e = .returned v0_ ∧ Heap w [oA (rList (rInt .i64)) v0_ y] w') (hm : impl_rounds_m fuel a0 a1 = some r) :
  Calls Tryz.prog 46 #[.int .i64 a0, .func (.func f1) fs1.toArray cp1.toArray] w0 fun e w => ∃ (v0 : Value), e = .returned (v0) ∧ Heap w0 [oA (rList (rList (rInt .i64))) v0 r] w := by
 unfold impl_rounds_m at hm
 have H := Heap.start w0
 refine enter (args := [.int .i64 a0, .func (.func f1) fs1.toArray cp1.toArray]) Tryz.func46 rfl 28 rfl (Nat.le_of_ble_eq_true rfl) (fun a S => ?_)
 refine wp_seq (region_plain ?_)
 refine lq (.slice none 0 0) S (q_assign rfl) fun a S => ?_
 refine lx_nil (thenN ?_)
 refine wp_seq (region_plain ?_)
 refine lq (.int .i64 a0) S (q_move rfl) fun a S => ?_
 obtain ⟨x33, e34, hm⟩ := bind_some hm
 refine lx_call (xs := [.tmp 8]) S trivial (by decide) rfl rfl Tryz.call85 ((impl_single_ok  e34).mono ?_)
 rintro e w31 ⟨v35, rfl, Hc32⟩
 have H := H.call1 Hc32
 refine ⟨_, rfl, trivial, fun a S => ?_⟩
 refine lx_buildSlice (r := (rList (rInt .i64))) (xs := [x33]) (ps := [(0, [v35])]) (cs := [v35]) (parts := [(0, .tmp 9)]) S trivial (by decide) rfl H rfl Tryz.underlying63 Tryz.sizeOf27 Tryz.zeroValue27 (by decide) ⟨rfl, (cells_sl (H.isSl 0 rfl)), Nat.le_of_ble_eq_true rfl, trivial⟩ (by intro zs hz; exact fill_dense hz ⟨rfl, trivial⟩ rfl rfl) rfl (by decide) (fun w F hA => ownL_one_mk (ownF (oA_list.1 hA))) (fun v38 w39 H => ⟨trivial, fun a S => ?_⟩)
 refine lq v38 S (q_assign rfl) fun a S => ?_
 refine lx_nil (thenN ?_)
 obtain ⟨res110, hit111, hk114⟩ := bind_some hm
 obtain ⟨f112, hf113, hit111⟩ := iter_name hit111
 refine block_loop (fun a w => False) ?_ ?_
 ·exact fun _ _ h => h.elim
 ·skip
  refine loop_ghost (fun n a w => ∃ (xs75 : List (List Int)) (v74 : Value), Slots a 28 [(1, (.func (.func f1) fs1.toArray cp1.toArray)), (5, v74)] ∧ Heap w0 [oA (rList (rList (rInt .i64))) v74 xs75] w ∧ iter f112 n (xs75) = some res110) _ ⟨[x33], v38, S.sub ⟨rfl, rfl, trivial⟩, H, hit111⟩ ?_
  rintro n a w ⟨xs75, v74, S, H, hit111⟩
  obtain ⟨m115, o116, rfl, hm, hc117⟩ := iter_step hit111
  rw [hf113] at hm
  refine wp_block ?_
  refine wp_seq (region_plain ?_)
  refine lq v74 S (q_move rfl) fun a S => ?_
  refine lq v74 S (q_move rfl) fun a S => ?_
  refine lq (.int .i64 (xs75.length : Int)) S (q_lenSl rfl (H.isSl 0 rfl) rfl Tryz.underlying63) fun a S => ?_
  refine lq (.int .i64 (W ((xs75.length : Int) - (1 : Int)))) S (q_sub rfl rfl) fun a S => ?_
  obtain ⟨x118, e119, hm⟩ := bind_some hm
  have hlt := lt_of_idx (idx_some e119).2
  refine lq (ePtr v74 ((W ((xs75.length : Int) - (1 : Int))).toNat * 1)) S (q_indexAddr rfl (H.isSl 0 rfl) rfl (idx_some e119).1 hlt Tryz.underlying63 Tryz.sizeOf27) fun a S => ?_
  obtain ⟨c120, h121, hat122⟩ := (H.rdAt 0 rfl).elem (idx_some e119).2
  obtain ⟨v123, rfl, h124⟩ := rd_list h121
  refine lx_e v123 S trivial (by decide) rfl trivial (q_load1 rfl Tryz.isAgg27 (by rintro _ rfl; exact (hat122 0 _ rfl))) (fun a S => ?_)
  refine lq v123 S (q_assign rfl) fun a S => ?_
  refine lx_nil (thenN ?_)
  refine wp_seq (region_plain ?_)
  refine lq (.func (.func f1) fs1.toArray cp1.toArray) S (q_move rfl) fun a S => ?_
  refine lq v123 S (q_move rfl) fun a S => ?_
  obtain ⟨x129, e130, hm⟩ := bind_some hm
  refine lx_callV (f := f1) (first := fs1) (cap := cp1) (xs := [.tmp 18]) S trivial (by decide) rfl rfl rfl hcf1 ((hf1 H.ext (h124.ext (Ext.refl _)) e130).mono ?_)
  rintro e w127 ⟨v132, rfl, Hc128⟩
  have he131 := Hc128.ext
  have H := H.call1 Hc128
  refine ⟨_, rfl, trivial, fun a S => ?_⟩
  refine lq v132 S (q_assign rfl) fun a S => ?_
  refine lx_nil (thenN ?_)
  refine wp_seq (wp_seq (region_plain ?_))
  refine lq v123 S (q_move rfl) fun a S => ?_
  refine lq v132 S (q_move rfl) fun a S => ?_
  obtain ⟨x136, e137, hm⟩ := bind_some hm
  refine lx_call (xs := [.tmp 20, .tmp 21]) S trivial (by decide) rfl rfl Tryz.call51 ((slices_Equal__int64_int64_ok (h124.ext he131) (H.rdAt 0 rfl) e137).mono ?_)
  rintro e w134 ⟨rfl, Hc135⟩
  have H := H.call0 Hc135
  refine ⟨_, rfl, trivial, fun a S => ?_⟩
  refine lx_nil (thenN ?_)
  refine cond_b S rfl (fun hc139 => ?_) (fun hc139 => ?_)
  ·have hm := ite_t hc139 hm
   refine wp_seq (region_plain ?_)
   refine lq v74 S (q_move rfl) fun a S => ?_
   refine lq v74 S (q_assign rfl) fun a S => ?_
   refine lx_nil (thenN ?_)
   refine wp_ret (then_ret ?_)
   refine inBlock_ret ?_
   refine then_ret ?_
   refine inBlock_ret ?_
   refine then_ret ?_
   obtain rfl := it_brk hm hc117
   have hm := ctl_inr hk114
   obtain rfl := Option.some.inj hm
   have H : Heap w0 [oA (rList (rList (rInt .i64))) v74 xs75] w134 := H.sel [1] (by decide)
   exact leave1 S rfl rfl ⟨v74, rfl, H⟩
  ·have hm := ite_f hc139 hm
   refine wp_skip (thenN ?_)
   refine region_plain ?_
   refine lq v74 S (q_move rfl) fun a S => ?_
   refine lq v132 S (q_move rfl) fun a S => ?_
   refine lx_buildSlice (r := (rList (rInt .i64))) (xs := [x129]) (ps := [(0, [v132])]) (cs := [v132]) (parts := [(0, .tmp 25)]) S trivial (by decide) rfl H rfl Tryz.underlying63 Tryz.sizeOf27 Tryz.zeroValue27 (by decide) ⟨rfl, (cells_sl (H.isSl 0 rfl)), Nat.le_of_ble_eq_true rfl, trivial⟩ (by intro zs hz; exact fill_dense hz ⟨rfl, trivial⟩ rfl rfl) rfl (by decide) (fun w F hA => ownL_one_mk (ownF (oA_list.1 hA))) (fun v140 w141 H => ⟨trivial, fun a S => ?_⟩)
   obtain ⟨x143, e144, hm⟩ := bind_some hm
   obtain ⟨hle, hap⟩ := app_some e144
   replace hap := hap.symm
   subst hap
   have H : Heap w0 [oA (rList (rList (rInt .i64))) v140 [x129], oA (rList (rList (rInt .i64))) v74 xs75] w141 := H.front 0 rfl
   have H : Heap w0 [oA (rList (rList (rInt .i64))) v74 xs75, oA (rList (rList (rInt .i64))) v140 [x129]] w141 := H.front 1 rfl
   refine lx_appendOwn (r := (rList (rInt .i64))) S trivial (by decide) rfl H rfl rfl Tryz.underlying63 Tryz.ti27 rfl rfl rfl (Nat.le_of_ble_eq_true rfl) (by decide) hle (fun v145 w146 H => ⟨trivial, fun a S => ?_⟩)
   refine lq v145 S (q_assign rfl) fun a S => ?_
   refine lx_nil ?_
   refine inBlock_norm ?_
   exact ⟨m115, Nat.lt_succ_self _, (xs75 ++ [x129]), v145, S.sub ⟨rfl, rfl, trivial⟩, H, it_cont hm hc117⟩

/-- spec.l13Rounds -/
def spec_l13Rounds_m (fuel : Nat) (a0 : Timpl_Lts) : Option (((List Int) × Int)) :=
  (mks a0.1 (0 : Int)).bind fun x50 => (iter (fun (s : (List Int) × (Int)) => (match s with | (xs74, x76) => (spec_l13Refine_m fuel a0 xs74).bind fun x104 => (spec_l00Same_m fuel x104 xs74).bind fun x111 => (if x111 = true then some (.inr (.inr (xs74, x76))) else some (.inl (x104, (W (x76 + (1 : Int)))))) : Option (((List Int) × (Int)) ⊕ ((Empty) ⊕ (((List Int) × Int)))))) fuel (x50, (0 : Int))).bind fun res94 => ctl (β := Empty) (ρ := ((List Int) × Int)) (τ := ((List Int) × Int)) res94 (fun e_ => nomatch e_) (fun q => some (q))
set_option maxRecDepth 20000 in
theorem spec_l13Rounds_ok {w0 : World} {fuel : Nat} {p0 : Value} {a0 : Timpl_Lts} {r : ((List Int) × Int)} (h0 : Rd (rPtr Rimpl_Lts) w0 p0 a0) (hm : spec_l13Rounds_m fuel a0 = some r) :
  Calls Tryz.prog 45 #[p0] w0 fun e w => ∃ (v0 : Value), e = .returned (.tuple #[v0, .int .i64 r.2]) ∧ Heap w0 [oA (rList (rInt .i64)) v0 r.1] w := by
 unfold spec_l13Rounds_m at hm
 have H := Heap.start w0
 obtain ⟨c31, h32, hat33⟩ := h0.ptr
 obtain ⟨c38, c39, rfl, h40, h41⟩ := h32
 obtain rfl := h40
 obtain ⟨c42, c43, rfl, h44, h45⟩ := h41
 obtain rfl := h44
 obtain ⟨c46, c47, rfl, h48, h49⟩ := h45
 obtain ⟨v34, rfl, h35⟩ := rd_list h48
 obtain ⟨v36, rfl, h37⟩ := rd_list h49
 refine enter (args := [p0]) Tryz.func45 rfl 23 rfl (Nat.le_of_ble_eq_true rfl) (fun a S => ?_)
 refine wp_seq (region_plain ?_)
 refine lq (.slice none 0 0) S (q_assign rfl) fun a S => ?_
 refine lq (.int .i64 (0 : Int)) S (q_assign rfl) fun a S => ?_
 refine lx_nil (thenN ?_)
 refine wp_seq (region_plain ?_)
 refine lq p0 S (q_move rfl) fun a S => ?_
 refine lq p0 S (q_nilCheck rfl ((hat33 0 _ rfl).isP)) fun a S => ?_
 refine lq (pAdd p0 0) S (q_fieldAddr' 0 2 rfl ((hat33 0 _ rfl).isP) Tryz.underlying32 rfl Tryz.sizeOf2) fun a S => ?_
 refine lx_e (.int .i64 a0.1) S trivial (by decide) rfl trivial (q_load1 rfl Tryz.isAgg2 (by rintro _ rfl; exact (At.of_add (m := 0) (j := 0) ((hat33 0 _ rfl).ext H.ext)))) (fun a S => ?_)
 obtain ⟨x50, e51, hm⟩ := bind_some hm
 obtain ⟨m52, hn, hn2, rfl⟩ := mks_some e51
 refine lx_make (r := (rInt .i64)) (z0 := (0 : Int)) (n := m52) S trivial (by decide) rfl H (by rw [← hn]; rfl) (by rw [← hn]; rfl) Tryz.underlying27 (Tryz.ti2) rfl rfl (Nat.le_of_ble_eq_true rfl) (fun w => ⟨rfl, rfl⟩) hn2 (by decide) (fun v53 w54 H => ⟨trivial, fun a S => ?_⟩)
 refine lq v53 S (q_assign rfl) fun a S => ?_
 refine lx_nil (thenN ?_)
 refine wp_seq (region_plain ?_)
 refine lq (.int .i64 (0 : Int)) S (q_assign rfl) fun a S => ?_
 refine lx_nil (thenN ?_)
 obtain ⟨res94, hit95, hk98⟩ := bind_some hm
 obtain ⟨f96, hf97, hit95⟩ := iter_name hit95
 refine block_loop (fun a w => False) ?_ ?_
 ·exact fun _ _ h => h.elim
 ·skip
  refine loop_ghost (fun n a w => ∃ (xs74 : List Int) (x76 : Int) (v73 : Value), Slots a 23 [(0, p0), (4, v73), (5, (.int .i64 x76))] ∧ Heap w0 [oA (rList (rInt .i64)) v73 xs74] w ∧ iter f96 n (xs74, x76) = some res94) _ ⟨(List.replicate m52 (0 : Int)), (0 : Int), v53, S.sub ⟨rfl, rfl, rfl, trivial⟩, H, hit95⟩ ?_
  rintro n a w ⟨xs74, x76, v73, S, H, hit95⟩
  obtain ⟨m99, o100, rfl, hm, hc101⟩ := iter_step hit95
  rw [hf97] at hm
  refine wp_seq ?_
  refine wp_block ?_
  refine wp_seq (region_plain ?_)
  refine lq p0 S (q_move rfl) fun a S => ?_
  refine lq v73 S (q_move rfl) fun a S => ?_
  obtain ⟨x104, e105, hm⟩ := bind_some hm
  refine lx_call (xs := [.tmp 14, .tmp 15]) S trivial (by decide) rfl rfl Tryz.call83 ((spec_l13Refine_ok (H.arg h0) (H.rdAt 0 rfl) e105).mono ?_)
  rintro e w102 ⟨v106, rfl, Hc103⟩
  have H := H.call1 Hc103
  refine ⟨_, rfl, trivial, fun a S => ?_⟩
  refine lq v106 S (q_assign rfl) fun a S => ?_
  refine lx_nil (thenN ?_)
  refine wp_seq (wp_seq (region_plain ?_))
  refine lq v106 S (q_move rfl) fun a S => ?_
  refine lq v73 S (q_move rfl) fun a S => ?_
  obtain ⟨x111, e112, hm⟩ := bind_some hm
  refine lx_call (xs := [.tmp 17, .tmp 18]) S trivial (by decide) rfl rfl Tryz.call84 ((spec_l00Same_ok (H.rdAt 0 rfl) (H.rdAt 1 rfl) e112).mono ?_)
  rintro e w109 ⟨rfl, Hc110⟩
  have H := H.call0 Hc110
  refine ⟨_, rfl, trivial, fun a S => ?_⟩
  refine lx_nil (thenN ?_)
  refine cond_b S rfl (fun hc114 => ?_) (fun hc114 => ?_)
  ·have hm := ite_t hc114 hm
   refine wp_seq (region_plain ?_)
   refine lq v73 S (q_move rfl) fun a S => ?_
   refine lq (.int .i64 x76) S (q_move rfl) fun a S => ?_
   refine lq v73 S (q_assign rfl) fun a S => ?_
   refine lq (.int .i64 x76) S (q_assign rfl) fun a S => ?_
   refine lx_nil (thenN ?_)
   refine wp_ret (then_ret ?_)
   refine inBlock_ret ?_
   refine then_ret ?_
   refine then_ret ?_
   refine inBlock_ret ?_
   refine then_ret ?_
   obtain rfl := it_brk hm hc101
   have hm := ctl_inr hk98
   obtain rfl := Option.some.inj hm
   have H : Heap w0 [oA (rList (rInt .i64)) v73 xs74] w109 := H.sel [1] (by decide)
   exact leave2 S rfl rfl rfl ⟨v73, rfl, H⟩
  ·have hm := ite_f hc114 hm
   refine wp_skip (thenN ?_)
   refine region_plain ?_
   refine lq v106 S (q_move rfl) fun a S => ?_
   refine lq v106 S (q_assign rfl) fun a S => ?_
   refine lx_nil ?_
   refine inBlock_norm ?_
   refine thenN ?_
   refine region_plain ?_
   refine lq (.int .i64 x76) S (q_move rfl) fun a S => ?_
   refine lq (.int .i64 (W (x76 + (1 : Int)))) S (q_add rfl rfl) fun a S => ?_
   refine lq (.int .i64 (W (x76 + (1 : Int)))) S (q_assign rfl) fun a S => ?_
   refine lx_nil ?_
   have H : Heap w0 [oA (rList (rInt .i64)) v106 x104] w109 := H.sel [0] (by decide)
   exact ⟨m99, Nat.lt_succ_self _, x104, (W (x76 + (1 : Int))), v106, S.sub ⟨rfl, rfl, rfl, trivial⟩, H, it_cont hm hc101⟩

/-- laws.markText -/
def laws_markText_m (fuel : Nat) (a0 : Int) : Option (Str) :=
  (if (decide (a0 ≤ (0 : Int))) = true then some (([109, 48] : Str)) else (iter (fun (s : (Int) × (Str)) => (match s with | (x40, x41) => (if (decide ((0 : Int) < x40)) = true then (cat (bstr [(IntKind.u8.wrap (W ((48 : Int) + (x40.tmod (10 : Int)))))]) x41).bind fun x65 => some (.inl ((W (x40.tdiv (10 : Int))), x65)) else some (.inr (.inl (x41)))) : Option (((Int) × (Str)) ⊕ ((Str) ⊕ (Str))))) fuel (a0, ([] : Str))).bind fun res51 => ctl (β := Str) (ρ := Str) (τ := Str) res51 (fun (x50) => (cat ([109] : Str) x50).bind fun x56 => some (x56)) (fun q => some (q)))
set_option maxRecDepth 20000 in
theorem laws_markText_ok {w0 : World} {fuel : Nat} {a0 : Int} {r : Str} (hm : laws_markText_m fuel a0 = some r) :
  Calls Tryz.prog 82 #[.int .i64 a0] w0 fun e w => e = .returned (sv r) ∧ Heap w0 [] w := by
 unfold laws_markText_m at hm
 have H := Heap.start w0
 refine enter (args := [.int .i64 a0]) Tryz.func82 rfl 20 rfl (Nat.le_of_ble_eq_true rfl) (fun a S => ?_)
 refine wp_seq (region_plain ?_)
 refine lq (sv ([] : Str)) S (q_assign rfl) fun a S => ?_
 refine lx_nil (thenN ?_)
 refine wp_seq (wp_seq (region_plain ?_))
 refine lq (.int .i64 a0) S (q_move rfl) fun a S => ?_
 refine lq (.bool (decide (a0 ≤ (0 : Int)))) S (q_leq rfl rfl) fun a S => ?_
 refine lx_nil (thenN ?_)
 refine cond_b S rfl (fun hc31 => ?_) (fun hc31 => ?_)
 ·have hm := ite_t hc31 hm
  refine wp_seq (region_plain ?_)
  refine lq (sv ([109, 48] : Str)) S (q_assign rfl) fun a S => ?_
  refine lx_nil (thenN ?_)
  refine wp_ret (then_ret ?_)
  obtain rfl := Option.some.inj hm
  exact leave1 S rfl rfl ⟨rfl, H⟩
 ·have hm := ite_f hc31 hm
  refine wp_skip (thenN ?_)
  refine wp_seq (region_plain ?_)
  refine lq (sv ([] : Str)) S (q_assign rfl) fun a S => ?_
  refine lx_nil (thenN ?_)
  refine wp_seq ?_
  obtain ⟨res51, hit52, hk55⟩ := bind_some hm
  obtain ⟨f53, hf54, hit52⟩ := iter_name hit52
  refine block_loop (fun a w => ∃ (x50 : Str), Slots a 20 [(3, (sv x50))] ∧ Heap w0 [] w ∧ res51 = .inl (x50)) ?_ ?_
  ·rintro a w ⟨x50, S, H, rfl⟩
   have hm := ctl_inl hk55
   refine thenN ?_
   refine wp_seq (region_plain ?_)
   refine lq (sv x50) S (q_move rfl) fun a S => ?_
   obtain ⟨x56, e57, hm⟩ := bind_some hm
   obtain ⟨hle, hcat⟩ := cat_some e57
   subst hcat
   refine lq (sv (([109] : Str) ++ x50)) S (q_cat rfl rfl hle) fun a S => ?_
   refine lq (sv (([109] : Str) ++ x50)) S (q_assign rfl) fun a S => ?_
   refine lx_nil (thenN ?_)
   refine wp_ret ?_
   obtain rfl := Option.some.inj hm
   exact leave1 S rfl rfl ⟨rfl, H⟩
  ·skip
   refine loop_ghost (fun n a w => ∃ (x40 : Int) (x41 : Str), Slots a 20 [(0, (.int .i64 x40)), (3, (sv x41))] ∧ Heap w0 [] w ∧ iter f53 n (x40, x41) = some res51) _ ⟨a0, ([] : Str), S.sub ⟨rfl, rfl, trivial⟩, H, hit52⟩ ?_
   rintro n a w ⟨x40, x41, S, H, hit52⟩
   obtain ⟨m58, o59, rfl, hm, hc60⟩ := iter_step hit52
   rw [hf54] at hm
   refine wp_seq (wp_seq (region_plain ?_))
   refine lq (.int .i64 x40) S (q_move rfl) fun a S => ?_
   refine lq (.bool (decide ((0 : Int) < x40))) S (q_gtr rfl rfl) fun a S => ?_
   refine lx_nil (thenN ?_)
   refine cond_b S rfl (fun hc61 => ?_) (fun hc61 => ?_)
   ·have hm := ite_t hc61 hm
    refine wp_skip (thenN ?_)
    refine wp_block ?_
    refine wp_seq (region_plain ?_)
    refine lq (.int .i64 x40) S (q_move rfl) fun a S => ?_
    refine lq (.int .i64 (x40.tmod (10 : Int))) S (q_rem rfl rfl (show (10 : Int) ≠ 0 from by decide)) fun a S => ?_
    refine lq (.int .i64 (W ((48 : Int) + (x40.tmod (10 : Int))))) S (q_add rfl rfl) fun a S => ?_
    refine lq (.int .u8 (IntKind.u8.wrap (W ((48 : Int) + (x40.tmod (10 : Int)))))) S (q_convInt rfl Tryz.underlying3 Tryz.underlying5) fun a S => ?_
    refine lx_buildSlice (r := (rInt .u8)) (xs := [(IntKind.u8.wrap (W ((48 : Int) + (x40.tmod (10 : Int)))))]) (ps := [(0, [(.int .u8 (IntKind.u8.wrap (W ((48 : Int) + (x40.tmod (10 : Int))))))])]) (cs := [(.int .u8 (IntKind.u8.wrap (W ((48 : Int) + (x40.tmod (10 : Int))))))]) (parts := [(0, .tmp 11)]) S trivial (by decide) rfl (H.put0 (A := eA) rfl) rfl Tryz.underlying122 Tryz.sizeOf5 Tryz.zeroValue5 (by decide) ⟨rfl, rfl, Nat.le_of_ble_eq_true rfl, trivial⟩ (by intro zs hz; exact fill_dense hz ⟨rfl, trivial⟩ rfl rfl) rfl (by decide) (fun w F hA => by cases (show F = [] from hA); exact ⟨_, _, [(.int .u8 (IntKind.u8.wrap (W ((48 : Int) + (x40.tmod (10 : Int))))))], _, rfl, rfl, ⟨rfl, rfl⟩, ⟨rfl, rfl⟩⟩) (fun v62 w63 H => ⟨trivial, fun a S => ?_⟩)
    refine lx_e (sv (bstr [(IntKind.u8.wrap (W ((48 : Int) + (x40.tmod (10 : Int)))))])) S trivial (by decide) rfl trivial (q_bstr rfl Tryz.underlying122 Tryz.underlying9 Tryz.underlying5 (by rintro _ rfl; exact (H.rdAt 0 rfl))) (fun a S => ?_)
    refine lq (sv x41) S (q_move rfl) fun a S => ?_
    obtain ⟨x65, e66, hm⟩ := bind_some hm
    obtain ⟨hle, hcat⟩ := cat_some e66
    subst hcat
    refine lq (sv ((bstr [(IntKind.u8.wrap (W ((48 : Int) + (x40.tmod (10 : Int)))))]) ++ x41)) S (q_cat rfl rfl hle) fun a S => ?_
    refine lq (sv ((bstr [(IntKind.u8.wrap (W ((48 : Int) + (x40.tmod (10 : Int)))))]) ++ x41)) S (q_assign rfl) fun a S => ?_
    refine lx_nil (thenN ?_)
    refine region_plain ?_
    refine lq (.int .i64 x40) S (q_move rfl) fun a S => ?_
    refine lq (.int .i64 (W (x40.tdiv (10 : Int)))) S (q_quo rfl rfl (show (10 : Int) ≠ 0 from by decide)) fun a S => ?_
    refine lq (.int .i64 (W (x40.tdiv (10 : Int)))) S (q_assign rfl) fun a S => ?_
    refine lx_nil ?_
    refine inBlock_norm ?_
    have H : Heap w0 [] w63 := H.sel [] (by decide)
    exact ⟨m58, Nat.lt_succ_self _, (W (x40.tdiv (10 : Int))), ((bstr [(IntKind.u8.wrap (W ((48 : Int) + (x40.tmod (10 : Int)))))]) ++ x41), S.sub ⟨rfl, rfl, trivial⟩, H, it_cont hm hc60⟩
   ·have hm := ite_f hc61 hm
    refine wp_exit ?_
    refine then_exit ?_
    refine then_exit ?_
    refine inBlock_exit ?_
    obtain rfl := it_brk hm hc60
    exact ⟨x41, S.sub ⟨rfl, trivial⟩, H, rfl⟩

/-- laws.markStringS -/
def laws_markStringS_m (fuel : Nat) (a0 : (List Str)) (a1 : Int) : Option (Int × (List Str)) :=
  (iter (fun (s : (List Str) × (Int) × (Int)) => (match s with | (xs43, x44, x45) => (if (decide (x45 < (xs43.length : Int))) = true then (laws_markText_m fuel x44).bind fun x71 => (idx xs43 x45).bind fun _ => some (.inl ((xs43.set x45.toNat x71), (W (x44 + (1 : Int))), (W (x45 + (1 : Int))))) else some (.inr (.inl (x44, xs43)))) : Option (((List Str) × (Int) × (Int)) ⊕ ((Int × (List Str)) ⊕ (Int × (List Str)))))) fuel (a0, a1, (0 : Int))).bind fun res60 => ctl (β := Int × (List Str)) (ρ := Int × (List Str)) (τ := Int × (List Str)) res60 (fun (x58, xs59) => some ((x58, xs59))) (fun q => some (q))
set_option maxRecDepth 20000 in
theorem laws_markStringS_ok {w0 : World} {fuel : Nat} {p0 : Value} {a0 : (List Str)} {a1 : Int} {w00 : World} {L : List Asrt} {r : Int × (List Str)} (H : Heap w00 (oA (rList rStr) p0 a0 :: L) w0) (hm : laws_markStringS_m fuel a0 a1 = some r) :
  Calls Tryz.prog 43 #[p0, .int .i64 a1] w0 fun e w => e = .returned (.int .i64 r.1) ∧ Heap w00 (oA (rList rStr) p0 r.2 :: L) w := by
 unfold laws_markStringS_m at hm
 refine enter (args := [p0, .int .i64 a1]) Tryz.func43 rfl 20 rfl (Nat.le_of_ble_eq_true rfl) (fun a S => ?_)
 refine wp_seq (region_plain ?_)
 refine lq (.int .i64 (0 : Int)) S (q_assign rfl) fun a S => ?_
 refine lx_nil (thenN ?_)
 refine wp_seq (wp_seq (region_plain ?_))
 refine lq (.int .i64 (0 : Int)) S (q_assign rfl) fun a S => ?_
 refine lx_nil (thenN ?_)
 obtain ⟨res60, hit61, hk64⟩ := bind_some hm
 obtain ⟨f62, hf63, hit61⟩ := iter_name hit61
 refine block_loop (fun a w => ∃ (x58 : Int) (xs59 : List Str), Slots a 20 [(1, (.int .i64 x58))] ∧ Heap w00 (oA (rList rStr) p0 xs59 :: L) w ∧ res60 = .inl (x58, xs59)) ?_ ?_
 ·rintro a w ⟨x58, xs59, S, H, rfl⟩
  have hm := ctl_inl hk64
  refine thenN ?_
  refine wp_seq (region_plain ?_)
  refine lq (.int .i64 x58) S (q_move rfl) fun a S => ?_
  refine lq (.int .i64 x58) S (q_assign rfl) fun a S => ?_
  refine lx_nil (thenN ?_)
  refine wp_ret ?_
  obtain rfl := Option.some.inj hm
  exact leave1 S rfl rfl ⟨rfl, H⟩
 ·skip
  refine loop_ghost (fun n a w => ∃ (xs43 : List Str) (x44 : Int) (x45 : Int), Slots a 20 [(0, p0), (1, (.int .i64 x44)), (5, (.int .i64 x45))] ∧ Heap w00 (oA (rList rStr) p0 xs43 :: L) w ∧ iter f62 n (xs43, x44, x45) = some res60) _ ⟨a0, a1, (0 : Int), S.sub ⟨rfl, rfl, rfl, trivial⟩, H, hit61⟩ ?_
  rintro n a w ⟨xs43, x44, x45, S, H, hit61⟩
  obtain ⟨m65, o66, rfl, hm, hc67⟩ := iter_step hit61
  rw [hf63] at hm
  refine wp_seq (wp_seq (region_plain ?_))
  refine lq (.int .i64 x45) S (q_move rfl) fun a S => ?_
  refine lq p0 S (q_move rfl) fun a S => ?_
  refine lq (.int .i64 (xs43.length : Int)) S (q_lenSl rfl (H.isSl 0 rfl) rfl Tryz.underlying22) fun a S => ?_
  refine lq (.bool (decide (x45 < (xs43.length : Int)))) S (q_lss rfl rfl) fun a S => ?_
  refine lx_nil (thenN ?_)
  refine cond_b S rfl (fun hc68 => ?_) (fun hc68 => ?_)
  ·have hm := ite_t hc68 hm
   refine wp_skip (thenN ?_)
   refine wp_seq ?_
   refine wp_block ?_
   refine wp_seq (region_plain ?_)
   refine lq p0 S (q_move rfl) fun a S => ?_
   refine lq (.int .i64 x45) S (q_move rfl) fun a S => ?_
   refine lq (.int .i64 x44) S (q_move rfl) fun a S => ?_
   obtain ⟨x71, e72, hm⟩ := bind_some hm
   refine lx_call (xs := [.tmp 14]) S trivial (by decide) rfl rfl Tryz.call82 ((laws_markText_ok  e72).mono ?_)
   rintro e w69 ⟨rfl, Hc70⟩
   have H := H.call0 Hc70
   refine ⟨_, rfl, trivial, fun a S => ?_⟩
   obtain ⟨x74, e75, hm⟩ := bind_some hm
   have hlt := lt_of_idx (idx_some e75).2
   refine lq (ePtr p0 (x45.toNat * 1)) S (q_indexAddr rfl (H.isSl 0 rfl) rfl (idx_some e75).1 hlt Tryz.underlying22 Tryz.sizeOf9) fun a S => ?_
   refine lx_storeElem (r := rStr) (us := [(sv x71)]) (off := 0) (e' := x71) S trivial rfl H.putE (ev_zero rfl) rfl (idx_some e75).2 rfl Tryz.sizeOf9 (Nat.le_of_ble_eq_true rfl) (List.forall_mem_cons.2 ⟨rfl, (fun _ h => nomatch h)⟩) (Upd.full rfl (fun w G hG => by cases (show G = [] from hG); exact ⟨rfl, rfl⟩)) (fun w76 H => ⟨trivial, fun a S => ?_⟩)
   refine lx_nil (thenN ?_)
   refine region_plain ?_
   refine lq (.int .i64 x44) S (q_move rfl) fun a S => ?_
   refine lq (.int .i64 (W (x44 + (1 : Int)))) S (q_add rfl rfl) fun a S => ?_
   refine lq (.int .i64 (W (x44 + (1 : Int)))) S (q_assign rfl) fun a S => ?_
   refine lx_nil ?_
   refine inBlock_norm ?_
   refine thenN ?_
   refine region_plain ?_
   refine lq (.int .i64 x45) S (q_move rfl) fun a S => ?_
   refine lq (.int .i64 (W (x45 + (1 : Int)))) S (q_add rfl rfl) fun a S => ?_
   refine lq (.int .i64 (W (x45 + (1 : Int)))) S (q_assign rfl) fun a S => ?_
   refine lx_nil ?_
   exact ⟨m65, Nat.lt_succ_self _, (xs43.set x45.toNat x71), (W (x44 + (1 : Int))), (W (x45 + (1 : Int))), S.sub ⟨rfl, rfl, rfl, trivial⟩, H, it_cont hm hc67⟩
  ·have hm := ite_f hc68 hm
   refine wp_exit ?_
   refine then_exit ?_
   refine then_exit ?_
   refine inBlock_exit ?_
   obtain rfl := it_brk hm hc67
   exact ⟨x44, xs43, S.sub ⟨rfl, trivial⟩, H, rfl⟩

/-- laws.markEdgeS -/
def laws_markEdgeS_m (fuel : Nat) (a0 : (List Timpl_Edge)) (a1 : Int) : Option (Int × (List Timpl_Edge)) :=
  (iter (fun (s : (List Timpl_Edge) × (Int) × (Int)) => (match s with | (xs44, x45, x46) => (if (decide (x46 < (xs44.length : Int))) = true then (idx xs44 x46).bind fun x71 => (idx (xs44.set x46.toNat (x45, x71.2.1, x71.2.2)) x46).bind fun x74 => (idx ((xs44.set x46.toNat (x45, x71.2.1, x71.2.2)).set x46.toNat (x74.1, (W (x45 + (1 : Int))), x74.2.2)) x46).bind fun x77 => some (.inl ((((xs44.set x46.toNat (x45, x71.2.1, x71.2.2)).set x46.toNat (x74.1, (W (x45 + (1 : Int))), x74.2.2)).set x46.toNat (x77.1, x77.2.1, (W ((W (x45 + (1 : Int))) + (1 : Int))))), (W ((W ((W (x45 + (1 : Int))) + (1 : Int))) + (1 : Int))), (W (x46 + (1 : Int))))) else some (.inr (.inl (x45, xs44)))) : Option (((List Timpl_Edge) × (Int) × (Int)) ⊕ ((Int × (List Timpl_Edge)) ⊕ (Int × (List Timpl_Edge)))))) fuel (a0, a1, (0 : Int))).bind fun res62 => ctl (β := Int × (List Timpl_Edge)) (ρ := Int × (List Timpl_Edge)) (τ := Int × (List Timpl_Edge)) res62 (fun (x60, xs61) => some ((x60, xs61))) (fun q => some (q))
set_option maxRecDepth 20000 in
theorem laws_markEdgeS_ok {w0 : World} {fuel : Nat} {p0 : Value} {a0 : (List Timpl_Edge)} {a1 : Int} {w00 : World} {L : List Asrt} {r : Int × (List Timpl_Edge)} (H : Heap w00 (oA (rList Rimpl_Edge) p0 a0 :: L) w0) (hm : laws_markEdgeS_m fuel a0 a1 = some r) :
  Calls Tryz.prog 44 #[p0, .int .i64 a1] w0 fun e w => e = .returned (.int .i64 r.1) ∧ Heap w00 (oA (rList Rimpl_Edge) p0 r.2 :: L) w := by
 unfold laws_markEdgeS_m at hm
 refine enter (args := [p0, .int .i64 a1]) Tryz.func44 rfl 34 rfl (Nat.le_of_ble_eq_true rfl) (fun a S => ?_)
 refine wp_seq (region_plain ?_)
 refine lq (.int .i64 (0 : Int)) S (q_assign rfl) fun a S => ?_
 refine lx_nil (thenN ?_)
 refine wp_seq (wp_seq (region_plain ?_))
 refine lq (.int .i64 (0 : Int)) S (q_assign rfl) fun a S => ?_
 refine lx_nil (thenN ?_)
 obtain ⟨res62, hit63, hk66⟩ := bind_some hm
 obtain ⟨f64, hf65, hit63⟩ := iter_name hit63
 refine block_loop (fun a w => ∃ (x60 : Int) (xs61 : List Timpl_Edge), Slots a 34 [(1, (.int .i64 x60))] ∧ Heap w00 (oA (rList Rimpl_Edge) p0 xs61 :: L) w ∧ res62 = .inl (x60, xs61)) ?_ ?_
 ·rintro a w ⟨x60, xs61, S, H, rfl⟩
  have hm := ctl_inl hk66
  refine thenN ?_
  refine wp_seq (region_plain ?_)
  refine lq (.int .i64 x60) S (q_move rfl) fun a S => ?_
  refine lq (.int .i64 x60) S (q_assign rfl) fun a S => ?_
  refine lx_nil (thenN ?_)
  refine wp_ret ?_
  obtain rfl := Option.some.inj hm
  exact leave1 S rfl rfl ⟨rfl, H⟩
 ·skip
  refine loop_ghost (fun n a w => ∃ (xs44 : List Timpl_Edge) (x45 : Int) (x46 : Int), Slots a 34 [(0, p0), (1, (.int .i64 x45)), (5, (.int .i64 x46))] ∧ Heap w00 (oA (rList Rimpl_Edge) p0 xs44 :: L) w ∧ iter f64 n (xs44, x45, x46) = some res62) _ ⟨a0, a1, (0 : Int), S.sub ⟨rfl, rfl, rfl, trivial⟩, H, hit63⟩ ?_
  rintro n a w ⟨xs44, x45, x46, S, H, hit63⟩
  obtain ⟨m67, o68, rfl, hm, hc69⟩ := iter_step hit63
  rw [hf65] at hm
  refine wp_seq (wp_seq (region_plain ?_))
  refine lq (.int .i64 x46) S (q_move rfl) fun a S => ?_
  refine lq p0 S (q_move rfl) fun a S => ?_
  refine lq (.int .i64 (xs44.length : Int)) S (q_lenSl rfl (H.isSl 0 rfl) rfl Tryz.underlying30) fun a S => ?_
  refine lq (.bool (decide (x46 < (xs44.length : Int)))) S (q_lss rfl rfl) fun a S => ?_
  refine lx_nil (thenN ?_)
  refine cond_b S rfl (fun hc70 => ?_) (fun hc70 => ?_)
  ·have hm := ite_t hc70 hm
   refine wp_skip (thenN ?_)
   refine wp_seq ?_
   refine wp_block ?_
   refine wp_seq (region_plain ?_)
   refine lq p0 S (q_move rfl) fun a S => ?_
   refine lq (.int .i64 x46) S (q_move rfl) fun a S => ?_
   refine lq (.int .i64 x45) S (q_move rfl) fun a S => ?_
   obtain ⟨x71, e72, hm⟩ := bind_some hm
   have hlt := lt_of_idx (idx_some e72).2
   refine lq (ePtr p0 (x46.toNat * 3)) S (q_indexAddr rfl (H.isSl 0 rfl) rfl (idx_some e72).1 hlt Tryz.underlying30 Tryz.sizeOf86) fun a S => ?_
   refine lq (pAdd (ePtr p0 (x46.toNat * 3)) 0) S (q_fieldAddr' 0 2 rfl (((H.isSl 0 rfl)).ptr (lt_of_idx (idx_some e72).2) _) Tryz.underlying86 rfl Tryz.sizeOf2) fun a S => ?_
   refine lx_storeElem (r := Rimpl_Edge) (us := [(.int .i64 x45)]) (off := 0) (e' := (x45, x71.2.1, x71.2.2)) S trivial rfl H.putE rfl rfl (idx_some e72).2 rfl Tryz.sizeOf2 (Nat.le_of_ble_eq_true rfl) (List.forall_mem_cons.2 ⟨rfl, (fun _ h => nomatch h)⟩) (Upd.fst (off := 0) (Nat.le_of_ble_eq_true rfl) (Upd.full rfl (fun w G hG => by cases (show G = [] from hG); exact ⟨rfl, rfl⟩))) (fun w73 H => ⟨trivial, fun a S => ?_⟩)
   refine lx_nil (thenN ?_)
   refine wp_seq (region_plain ?_)
   refine lq (.int .i64 x45) S (q_move rfl) fun a S => ?_
   refine lq (.int .i64 (W (x45 + (1 : Int)))) S (q_add rfl rfl) fun a S => ?_
   refine lq (.int .i64 (W (x45 + (1 : Int)))) S (q_assign rfl) fun a S => ?_
   refine lx_nil (thenN ?_)
   refine wp_seq (region_plain ?_)
   refine lq p0 S (q_move rfl) fun a S => ?_
   refine lq (.int .i64 x46) S (q_move rfl) fun a S => ?_
   refine lq (.int .i64 (W (x45 + (1 : Int)))) S (q_move rfl) fun a S => ?_
   obtain ⟨x74, e75, hm⟩ := bind_some hm
   have hlt := lt_of_idx (idx_some e75).2
   refine lq (ePtr p0 (x46.toNat * 3)) S (q_indexAddr rfl (H.isSl 0 rfl) rfl (idx_some e75).1 hlt Tryz.underlying30 Tryz.sizeOf86) fun a S => ?_
   refine lq (pAdd (ePtr p0 (x46.toNat * 3)) 1) S (q_fieldAddr' 1 2 rfl (((H.isSl 0 rfl)).ptr (lt_of_idx (idx_some e75).2) _) Tryz.underlying86 rfl Tryz.sizeOf2) fun a S => ?_
   refine lx_storeElem (r := Rimpl_Edge) (us := [(.int .i64 (W (x45 + (1 : Int))))]) (off := 1) (e' := (x74.1, (W (x45 + (1 : Int))), x74.2.2)) S trivial rfl H.putE rfl rfl (idx_some e75).2 rfl Tryz.sizeOf2 (Nat.le_of_ble_eq_true rfl) (List.forall_mem_cons.2 ⟨rfl, (fun _ h => nomatch h)⟩) (Upd.snd (off := 0) (Upd.fst (off := 0) (Nat.le_of_ble_eq_true rfl) (Upd.full rfl (fun w G hG => by cases (show G = [] from hG); exact ⟨rfl, rfl⟩)))) (fun w76 H => ⟨trivial, fun a S => ?_⟩)
   refine lx_nil (thenN ?_)
   refine wp_seq (region_plain ?_)
   refine lq (.int .i64 (W (x45 + (1 : Int)))) S (q_move rfl) fun a S => ?_
   refine lq (.int .i64 (W ((W (x45 + (1 : Int))) + (1 : Int)))) S (q_add rfl rfl) fun a S => ?_
   refine lq (.int .i64 (W ((W (x45 + (1 : Int))) + (1 : Int)))) S (q_assign rfl) fun a S => ?_
   refine lx_nil (thenN ?_)
   refine wp_seq (region_plain ?_)
   refine lq p0 S (q_move rfl) fun a S => ?_
   refine lq (.int .i64 x46) S (q_move rfl) fun a S => ?_
   refine lq (.int .i64 (W ((W (x45 + (1 : Int))) + (1 : Int)))) S (q_move rfl) fun a S => ?_
   obtain ⟨x77, e78, hm⟩ := bind_some hm
   have hlt := lt_of_idx (idx_some e78).2
   refine lq (ePtr p0 (x46.toNat * 3)) S (q_indexAddr rfl (H.isSl 0 rfl) rfl (idx_some e78).1 hlt Tryz.underlying30 Tryz.sizeOf86) fun a S => ?_
   refine lq (pAdd (ePtr p0 (x46.toNat * 3)) 2) S (q_fieldAddr' 2 2 rfl (((H.isSl 0 rfl)).ptr (lt_of_idx (idx_some e78).2) _) Tryz.underlying86 rfl Tryz.sizeOf2) fun a S => ?_
   refine lx_storeElem (r := Rimpl_Edge) (us := [(.int .i64 (W ((W (x45 + (1 : Int))) + (1 : Int))))]) (off := 2) (e' := (x77.1, x77.2.1, (W ((W (x45 + (1 : Int))) + (1 : Int))))) S trivial rfl H.putE rfl rfl (idx_some e78).2 rfl Tryz.sizeOf2 (Nat.le_of_ble_eq_true rfl) (List.forall_mem_cons.2 ⟨rfl, (fun _ h => nomatch h)⟩) (Upd.snd (off := 1) (Upd.snd (off := 0) (Upd.full rfl (fun w G hG => by cases (show G = [] from hG); exact ⟨rfl, rfl⟩)))) (fun w79 H => ⟨trivial, fun a S => ?_⟩)
   refine lx_nil (thenN ?_)
   refine region_plain ?_
   refine lq (.int .i64 (W ((W (x45 + (1 : Int))) + (1 : Int)))) S (q_move rfl) fun a S => ?_
   refine lq (.int .i64 (W ((W ((W (x45 + (1 : Int))) + (1 : Int))) + (1 : Int)))) S (q_add rfl rfl) fun a S => ?_
   refine lq (.int .i64 (W ((W ((W (x45 + (1 : Int))) + (1 : Int))) + (1 : Int)))) S (q_assign rfl) fun a S => ?_
   refine lx_nil ?_
   refine inBlock_norm ?_
   refine thenN ?_
   refine region_plain ?_
   refine lq (.int .i64 x46) S (q_move rfl) fun a S => ?_
   refine lq (.int .i64 (W (x46 + (1 : Int)))) S (q_add rfl rfl) fun a S => ?_
   refine lq (.int .i64 (W (x46 + (1 : Int)))) S (q_assign rfl) fun a S => ?_
   refine lx_nil ?_
   exact ⟨m67, Nat.lt_succ_self _, (((xs44.set x46.toNat (x45, x71.2.1, x71.2.2)).set x46.toNat (x74.1, (W (x45 + (1 : Int))), x74.2.2)).set x46.toNat (x77.1, x77.2.1, (W ((W (x45 + (1 : Int))) + (1 : Int))))), (W ((W ((W (x45 + (1 : Int))) + (1 : Int))) + (1 : Int))), (W (x46 + (1 : Int))), S.sub ⟨rfl, rfl, rfl, trivial⟩, H, it_cont hm hc69⟩
  ·have hm := ite_f hc70 hm
   refine wp_exit ?_
   refine then_exit ?_
   refine then_exit ?_
   refine inBlock_exit ?_
   obtain rfl := it_brk hm hc69
   exact ⟨x45, xs44, S.sub ⟨rfl, trivial⟩, H, rfl⟩

/-- laws.markLts -/
def laws_markLts_m (fuel : Nat) (a0 : Timpl_Lts) (a1 : Int) : Option (Int × (List Str) × (List Timpl_Edge)) :=
  (laws_markStringS_m fuel a0.2.2.1 a1).bind fun x36 => (laws_markEdgeS_m fuel a0.2.2.2 x36.1).bind fun x40 => some ((x40.1, x36.2, x40.2))
set_option maxRecDepth 20000 in
theorem laws_markLts_ok {w0 : World} {fuel : Nat} {p0_0 p0_1 : Value} {a0 : Timpl_Lts} {a1 : Int} {w00 : World} {L : List Asrt} {r : Int × (List Str) × (List Timpl_Edge)} (H : Heap w00 (oA (rList rStr) p0_0 a0.2.2.1 :: oA (rList Rimpl_Edge) p0_1 a0.2.2.2 :: L) w0) (hm : laws_markLts_m fuel a0 a1 = some r) :
  Calls Tryz.prog 16 #[(.agg #[(.int .i64 a0.1), (.int .i64 a0.2.1), p0_0, p0_1]), .int .i64 a1] w0 fun e w => e = .returned (.int .i64 r.1) ∧ Heap w00 (oA (rList rStr) p0_0 r.2.1 :: oA (rList Rimpl_Edge) p0_1 r.2.2 :: L) w := by
 unfold laws_markLts_m at hm
 refine enter (args := [(.agg #[(.int .i64 a0.1), (.int .i64 a0.2.1), p0_0, p0_1]), .int .i64 a1]) Tryz.func16 rfl 14 rfl (Nat.le_of_ble_eq_true rfl) (fun a S => ?_)
 refine wp_seq (region_plain ?_)
 refine lx_box S trivial (by decide) rfl H rfl rfl (fun b31 w32 H => ⟨trivial, fun a S => ?_⟩)
 refine lq (.int .i64 (0 : Int)) S (q_assign rfl) fun a S => ?_
 refine lx_nil (thenN ?_)
 refine wp_seq (region_plain ?_)
 refine lq (pAdd (bp b31) 2) S (q_fieldAddr' 2 22 rfl (isP_bp _) Tryz.underlying32 rfl Tryz.sizeOf22) fun a S => ?_
 refine lx_e p0_0 S trivial (by decide) rfl trivial (q_load1 rfl Tryz.isAgg22 (by rintro _ rfl; exact (At.of_add (m := 2) (j := 0) (boxAt (i := 0) H rfl (j := 2) rfl)))) (fun a S => ?_)
 refine lq (.int .i64 a1) S (q_move rfl) fun a S => ?_
 obtain ⟨x36, e37, hm⟩ := bind_some hm
 have H : Heap w00 (oA (rList rStr) p0_0 a0.2.2.1 :: bA b31 [(.int .i64 a0.1), (.int .i64 a0.2.1), p0_0, p0_1] 32 :: oA (rList Rimpl_Edge) p0_1 a0.2.2.2 :: L) w32 := H.front 1 rfl
 refine lx_call (xs := [.tmp 6, .tmp 7]) S trivial (by decide) rfl rfl Tryz.call43 ((laws_markStringS_ok H  e37).mono ?_)
 rintro e w34 ⟨rfl, H⟩
 refine ⟨_, rfl, trivial, fun a S => ?_⟩
 refine lq (.int .i64 x36.1) S (q_assign rfl) fun a S => ?_
 refine lx_nil (thenN ?_)
 refine wp_seq (region_plain ?_)
 refine lq (pAdd (bp b31) 3) S (q_fieldAddr' 3 30 rfl (isP_bp _) Tryz.underlying32 rfl Tryz.sizeOf30) fun a S => ?_
 refine lx_e p0_1 S trivial (by decide) rfl trivial (q_load1 rfl Tryz.isAgg30 (by rintro _ rfl; exact (At.of_add (m := 3) (j := 0) (boxAt (i := 1) H rfl (j := 3) rfl)))) (fun a S => ?_)
 refine lq (.int .i64 x36.1) S (q_move rfl) fun a S => ?_
 obtain ⟨x40, e41, hm⟩ := bind_some hm
 have H : Heap w00 (oA (rList Rimpl_Edge) p0_1 a0.2.2.2 :: oA (rList rStr) p0_0 x36.2 :: bA b31 [(.int .i64 a0.1), (.int .i64 a0.2.1), p0_0, p0_1] 32 :: L) w34 := H.front 2 rfl
 refine lx_call (xs := [.tmp 10, .tmp 11]) S trivial (by decide) rfl rfl Tryz.call44 ((laws_markEdgeS_ok H  e41).mono ?_)
 rintro e w38 ⟨rfl, H⟩
 refine ⟨_, rfl, trivial, fun a S => ?_⟩
 refine lq (.int .i64 x40.1) S (q_assign rfl) fun a S => ?_
 refine lx_nil (thenN ?_)
 refine wp_seq (region_plain ?_)
 refine lq (.int .i64 x40.1) S (q_move rfl) fun a S => ?_
 refine lq (.int .i64 x40.1) S (q_assign rfl) fun a S => ?_
 refine lx_nil (thenN ?_)
 refine wp_ret ?_
 obtain rfl := Option.some.inj hm
 have H : Heap w00 (oA (rList rStr) p0_0 x36.2 :: oA (rList Rimpl_Edge) p0_1 x40.2 :: bA b31 [(.int .i64 a0.1), (.int .i64 a0.2.1), p0_0, p0_1] 32 :: L) w38 := H.front 1 rfl
 have H : Heap w00 (oA (rList rStr) p0_0 x36.2 :: oA (rList Rimpl_Edge) p0_1 x40.2 :: L) w38 := H.selT 3 [0, 1] (by decide)
 exact leave1 S rfl rfl ⟨rfl, H⟩
end Go.Proofs.YtciiinpphaaddaaGreatDoor
