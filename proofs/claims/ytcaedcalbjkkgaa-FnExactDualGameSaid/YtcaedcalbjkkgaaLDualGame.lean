/- The model of a statement and its walk (printed by a program of this repo). -/
import Derived.Test.YtcaedcalbjkkgaaF0
import Derived.Test.YtcaedcalbjkkgaaF1
import Derived.Test.YtcaedcalbjkkgaaFS
import Derived.Test.YtcaedcalbjkkgaaGxMx
import Derived.Test.YtcaedcalbjkkgaaGxT
import Derived.Test.YtcaedcalbjkkgaaGxY
namespace Go.Proofs.Ytcaedcalbjkkgaa
open Go.RowKit Go.Gx

/-- slices.ContainsFunc[[]impl.Vertex,impl.Vertex] -/
def slices_ContainsFunc__impl_Vertex_impl_Vertex_m (fuel : Nat) (a0 : (List Timpl_Vertex)) (a1 : (Timpl_Vertex → Option Bool)) : Option (Bool) :=
  (slices_IndexFunc__impl_Vertex_impl_Vertex_m fuel a0 a1).bind fun x33 => some ((decide ((0 : Int) ≤ x33)))
set_option maxRecDepth 20000 in
theorem slices_ContainsFunc__impl_Vertex_impl_Vertex_ok [dr : Dr] {w0 : World} {fuel : Nat} {p0 : Value} {a0 : (List Timpl_Vertex)} {a1 : (Timpl_Vertex → Option Bool)} {f1 : Nat} {fs1 cp1 : List Value} {r : Bool} (h0 : Rd (rList Rimpl_Vertex) w0 p0 a0) (hcf1 : ∀ args w, (callFunc f1 args).run Try.prog w = .ok (.enter f1 args) w) (hf1 : ∀ {w : World} {x0_ : Timpl_Vertex} {v0_ : Value} {y : Bool}, Ext w0 w → Rd Rimpl_Vertex w v0_ x0_ → a1 x0_ = some y → Calls Try.prog f1 (fs1 ++ ([v0_] : List Value) ++ cp1).toArray w fun e w' => e = .returned (.bool y) ∧ Heap w [] w') (hm : slices_ContainsFunc__impl_Vertex_impl_Vertex_m fuel a0 a1 = some r) :
  Calls Try.prog 26 #[p0, .func (.func f1) fs1.toArray cp1.toArray] w0 fun e w => e = .returned (.bool r) ∧ Heap w0 [] w := by
 unfold slices_ContainsFunc__impl_Vertex_impl_Vertex_m at hm
 have H := Heap.start w0
 refine enter (args := [p0, .func (.func f1) fs1.toArray cp1.toArray]) Try.func26 rfl 9 rfl (Nat.le_of_ble_eq_true rfl) (fun a S => ?_)
 refine wp_seq (region_plain ?_)
 refine lq (.bool false) S (q_assign rfl) fun a S => ?_
 refine lx_nil (thenN ?_)
 refine wp_seq (region_plain ?_)
 refine lq p0 S (q_move rfl) fun a S => ?_
 refine lq (.func (.func f1) fs1.toArray cp1.toArray) S (q_move rfl) fun a S => ?_
 obtain ⟨x33, e34, hm⟩ := bind_some hm
 refine lx_call (xs := [.tmp 5, .tmp 6]) S trivial (by decide) rfl rfl Try.call32 ((slices_IndexFunc__impl_Vertex_impl_Vertex_ok (f1 := f1) (fs1 := fs1) (cp1 := cp1) (a1 := a1) (H.arg h0) hcf1 (fun he h0_ hm => hf1 ((H.ext).trans he) h0_ hm) e34).mono ?_)
 rintro e w31 ⟨rfl, Hc32⟩
 have H := H.call0 Hc32
 refine ⟨_, rfl, trivial, fun a S => ?_⟩
 refine lq (.bool (decide ((0 : Int) ≤ x33))) S (q_geq rfl rfl) fun a S => ?_
 refine lq (.bool (decide ((0 : Int) ≤ x33))) S (q_assign rfl) fun a S => ?_
 refine lx_nil (thenN ?_)
 refine wp_ret ?_
 obtain rfl := Option.some.inj hm
 exact leave1 S rfl rfl ⟨rfl, H⟩

/-- impl.ValidGame -/
def impl_ValidGame_m (fuel : Nat) (a0 : (List Timpl_Vertex)) : Option (Bool) :=
  (impl_within_m fuel (a0.length : Int) (1 : Int) (120 : Int)).bind fun x36 => (if (!x36) = true then some (false) else (slices_ContainsFunc__impl_Vertex_impl_Vertex_m fuel a0 (fun (z0 : Timpl_Vertex) => impl_ValidGame_1_m fuel z0 a0)).bind fun x42 => some ((!x42)))
set_option maxRecDepth 20000 in
theorem impl_ValidGame_ok [dr : Dr] {w0 : World} {fuel : Nat} {p0 : Value} {a0 : (List Timpl_Vertex)} {r : Bool} (h0 : Rd (rList Rimpl_Vertex) w0 p0 a0) (hm : impl_ValidGame_m fuel a0 = some r) :
  Calls Try.prog 15 #[p0] w0 fun e w => e = .returned (.bool r) ∧ Heap w0 [] w := by
 unfold impl_ValidGame_m at hm
 have H := Heap.start w0
 refine enter (args := [p0]) Try.func15 rfl 11 rfl (Nat.le_of_ble_eq_true rfl) (fun a S => ?_)
 refine wp_seq (region_plain ?_)
 refine lx_box S trivial (by decide) rfl H rfl (cells_sl (h0).isSl) (fun b31 w32 H => ⟨trivial, fun a S => ?_⟩)
 refine lq (.bool false) S (q_assign rfl) fun a S => ?_
 refine lx_nil (thenN ?_)
 refine wp_seq (wp_seq (region_plain ?_))
 refine lx_e p0 S trivial (by decide) rfl trivial (q_load1 rfl Try.isAgg24 (by rintro _ rfl; exact (boxAt (i := 0) H rfl (j := 0) rfl))) (fun a S => ?_)
 refine lq (.int .i64 (a0.length : Int)) S (q_lenSl rfl (h0).isSl rfl Try.underlying24) fun a S => ?_
 obtain ⟨x36, e37, hm⟩ := bind_some hm
 refine lx_call (xs := [.tmp 4, .const (.int .i64 (1)), .const (.int .i64 (120))]) S trivial (by decide) rfl rfl Try.call25 ((impl_within_ok    e37).mono ?_)
 rintro e w34 ⟨rfl, Hc35⟩
 have H := H.call0 Hc35
 refine ⟨_, rfl, trivial, fun a S => ?_⟩
 refine lq (.bool (!x36)) S (q_not rfl) fun a S => ?_
 refine lx_nil (thenN ?_)
 refine cond_b S rfl (fun hc39 => ?_) (fun hc39 => ?_)
 ·have hm := ite_t hc39 hm
  refine wp_seq (region_plain ?_)
  refine lq (.bool false) S (q_assign rfl) fun a S => ?_
  refine lx_nil (thenN ?_)
  refine wp_ret (then_ret ?_)
  obtain rfl := Option.some.inj hm
  have H : Heap w0 [] w34 := H.sel [] (by decide)
  exact leave1 S rfl rfl ⟨rfl, H⟩
 ·have hm := ite_f hc39 hm
  refine wp_skip (thenN ?_)
  refine wp_seq (region_plain ?_)
  refine lx_e p0 S trivial (by decide) rfl trivial (q_load1 rfl Try.isAgg24 (by rintro _ rfl; exact (boxAt (i := 0) H rfl (j := 0) rfl))) (fun a S => ?_)
  refine lq (.func (.func 27) #[] #[(bp b31)]) S (q_makeFunc (xs := []) (ys := [.tmp 1]) rfl rfl) fun a S => ?_
  obtain ⟨x42, e43, hm⟩ := bind_some hm
  have hcap44 : Rd (rPtr (rList Rimpl_Vertex)) w34 (bp b31) a0 := (rdPtr_box H 0 rfl ((H.arg h0)).list_rd)
  refine lx_call (xs := [.tmp 7, .tmp 8]) S trivial (by decide) rfl rfl Try.call26 ((slices_ContainsFunc__impl_Vertex_impl_Vertex_ok (f1 := 27) (fs1 := ([] : List Value)) (cp1 := ([(bp b31)] : List Value)) (a1 := (fun (z0 : Timpl_Vertex) => impl_ValidGame_1_m fuel z0 a0)) (H.arg h0) Try.call27 (fun he h0_ hm => impl_ValidGame_1_ok  h0_ (hcap44.ext he) hm) e43).mono ?_)
  rintro e w40 ⟨rfl, Hc41⟩
  have H := H.call0 Hc41
  refine ⟨_, rfl, trivial, fun a S => ?_⟩
  refine lq (.bool (!x42)) S (q_not rfl) fun a S => ?_
  refine lq (.bool (!x42)) S (q_assign rfl) fun a S => ?_
  refine lx_nil (thenN ?_)
  refine wp_ret ?_
  obtain rfl := Option.some.inj hm
  have H : Heap w0 [] w40 := H.sel [] (by decide)
  exact leave1 S rfl rfl ⟨rfl, H⟩

/-- slices.Clone[[]int64,int64] -/
def slices_Clone__int64_int64_m (_ : Nat) (a0 : (List Int)) : Option ((List Int)) :=
  (app ([] : List Int) a0).bind fun x38 => some (x38)
set_option maxRecDepth 20000 in
theorem slices_Clone__int64_int64_ok [dr : Dr] {w0 : World} {fuel : Nat} {p0 : Value} {a0 : (List Int)} {r : (List Int)} (h0 : Rd (rList (rInt .i64)) w0 p0 a0) (hm : slices_Clone__int64_int64_m fuel a0 = some r) :
  Calls Try.prog 30 #[p0] w0 fun e w => ∃ (v0 : Value), e = .returned (v0) ∧ Heap w0 [oA (rList (rInt .i64)) v0 r] w := by
 unfold slices_Clone__int64_int64_m at hm
 have H := Heap.start w0
 refine enter (args := [p0]) Try.func30 rfl 8 rfl (Nat.le_of_ble_eq_true rfl) (fun a S => ?_)
 refine wp_seq (region_plain ?_)
 refine lq (.slice none 0 0) S (q_assign rfl) fun a S => ?_
 refine lx_nil (thenN ?_)
 refine wp_seq (wp_seq (region_plain ?_))
 refine lq p0 S (q_move rfl) fun a S => ?_
 obtain ⟨bn31, hqn, hb32⟩ := ((H.arg h0)).isNil (P := Try.prog) Try.underlying32
 refine lq (.bool bn31) S (hqn rfl rfl) fun a S => ?_
 refine lx_nil (thenN ?_)
 refine cond_b S rfl (fun hc33 => ?_) (fun hc33 => ?_)
 ·obtain rfl := hb32 hc33
  replace hm : some [] = some r := by simpa [app] using hm
  refine wp_seq (region_plain ?_)
  refine lq (.slice none 0 0) S (q_assign rfl) fun a S => ?_
  refine lx_nil (thenN ?_)
  refine wp_ret (then_ret ?_)
  obtain rfl := Option.some.inj hm
  have H : Heap w0 [oA (rList (rInt .i64)) (.slice none 0 0) ([] : List Int)] w0 := H.nilList (rInt .i64)
  exact leave1 S rfl rfl ⟨(.slice none 0 0), rfl, H⟩
 ·skip
  refine wp_skip (thenN ?_)
  refine wp_seq (region_plain ?_)
  refine lx_buildSlice0 (r := (rInt .i64)) S trivial (by decide) rfl H Try.underlying32 Try.sizeOf2 (fun v35 w36 H => ⟨trivial, fun a S => ?_⟩)
  refine lq p0 S (q_move rfl) fun a S => ?_
  obtain ⟨x38, e39, hm⟩ := bind_some hm
  obtain ⟨hle, hap⟩ := app_some e39
  replace hap := hap.symm
  subst hap
  refine lx_appendRd (r := (rInt .i64)) S trivial (by decide) rfl H (flat_int _) (H.arg h0) rfl rfl Try.underlying32 Try.ti2 rfl rfl rfl (Nat.le_of_ble_eq_true rfl) (by decide) hle (fun v40 w41 H => ⟨trivial, fun a S => ?_⟩)
  refine lq v40 S (q_assign rfl) fun a S => ?_
  refine lx_nil (thenN ?_)
  refine wp_ret ?_
  obtain rfl := Option.some.inj hm
  exact leave1 S rfl rfl ⟨v40, rfl, H⟩

/-- impl.cloneGame -/
def impl_cloneGame_m (fuel : Nat) (a0 : (List Timpl_Vertex)) : Option ((List Timpl_Vertex)) :=
  (slices_Clone__impl_Vertex_impl_Vertex_m fuel a0).bind fun x33 => (iter (fun (s : (List (Int × Int × (Mx (List Int)))) × (Int)) => (match s with | (xs68, x69) => (if (decide (x69 < (x33.length : Int))) = true then (idx xs68 x69).bind fun x112 => (Mx.val x112.2.2).bind fun x119 => (slices_Clone__int64_int64_m fuel x119).bind fun x131 => (idx xs68 x69).bind fun x136 => some (.inl ((xs68.set x69.toNat (x136.1, x136.2.1, (Mx.own x131))), (W (x69 + (1 : Int))))) else some (.inr (.inl (xs68)))) : Option (((List (Int × Int × (Mx (List Int)))) × (Int)) ⊕ (((List (Int × Int × (Mx (List Int))))) ⊕ ((List Timpl_Vertex)))))) fuel (x33, (0 : Int))).bind fun res101 => ctl (β := (List (Int × Int × (Mx (List Int))))) (ρ := (List Timpl_Vertex)) (τ := (List Timpl_Vertex)) res101 (fun (xs100) => (allO (prodO some (prodO some Mx.mine)) xs100).bind fun ys106 => some (ys106)) (fun q => some (q))
set_option maxRecDepth 20000 in
theorem impl_cloneGame_ok [dr : Dr] {w0 : World} {fuel : Nat} {p0 : Value} {a0 : (List Timpl_Vertex)} {r : (List Timpl_Vertex)} (h0 : Rd (rList Rimpl_Vertex) w0 p0 a0) (hm : impl_cloneGame_m fuel a0 = some r) :
  Calls Try.prog 16 #[p0] w0 fun e w => ∃ (v0 : Value), e = .returned (v0) ∧ Heap w0 [oA (rList Rimpl_Vertex) v0 r] w := by
 unfold impl_cloneGame_m at hm
 have H := Heap.start w0
 refine enter (args := [p0]) Try.func16 rfl 24 rfl (Nat.le_of_ble_eq_true rfl) (fun a S => ?_)
 refine wp_seq (region_plain ?_)
 refine lq (.slice none 0 0) S (q_assign rfl) fun a S => ?_
 refine lx_nil (thenN ?_)
 refine wp_seq (region_plain ?_)
 refine lq p0 S (q_move rfl) fun a S => ?_
 obtain ⟨x33, e34, hm⟩ := bind_some hm
 refine lx_call (xs := [.tmp 5]) S trivial (by decide) rfl rfl Try.call29 ((slices_Clone__impl_Vertex_impl_Vertex_ok (H.arg h0) e34).mono ?_)
 rintro e w31 ⟨v35, rfl, Hc32⟩
 have H := H.call1 Hc32
 refine ⟨_, rfl, trivial, fun a S => ?_⟩
 refine lq v35 S (q_assign rfl) fun a S => ?_
 refine lx_nil (thenN ?_)
 refine wp_seq (wp_seq (region_plain ?_))
 refine lq v35 S (q_move rfl) fun a S => ?_
 refine lq (.int .i64 (x33.length : Int)) S (q_lenSl rfl (H.isSl 0 rfl) rfl Try.underlying24) fun a S => ?_
 refine lq (.int .i64 (0 : Int)) S (q_move rfl) fun a S => ?_
 refine lx_nil (thenN ?_)
 obtain ⟨res101, hit102, hk105⟩ := bind_some hm
 obtain ⟨f103, hf104, hit102⟩ := iter_name hit102
 refine block_loop (fun a w => ∃ (xs100 : List (Int × Int × (Mx (List Int)))), Slots a 24 [(3, v35)] ∧ Heap w0 [oA (rList (rProd (rInt .i64) (rProd (rInt .i64) (rMx w0 (rList (rInt .i64)))))) v35 xs100] w ∧ res101 = .inl (xs100)) ?_ ?_
 ·rintro a w ⟨xs100, S, H, rfl⟩
  have hm := ctl_inl hk105
  refine thenN ?_
  refine wp_seq (region_plain ?_)
  refine lq v35 S (q_move rfl) fun a S => ?_
  refine lq v35 S (q_assign rfl) fun a S => ?_
  refine lx_nil (thenN ?_)
  refine wp_ret ?_
  obtain ⟨ys106, ey107, hm⟩ := bind_some hm
  have H : Heap w0 [oA (rList Rimpl_Vertex) v35 ys106] w := H.mine (CvO.prod CvO.same (CvO.prod CvO.same CvO.mx)) ey107
  obtain rfl := Option.some.inj hm
  exact leave1 S rfl rfl ⟨v35, rfl, H⟩
 ·skip
  refine loop_ghost (fun n a w => ∃ (xs68 : List (Int × Int × (Mx (List Int)))) (x69 : Int), Slots a 24 [(3, v35), (8, (.int .i64 (x33.length : Int))), (9, (.int .i64 x69))] ∧ Heap w0 [oA (rList (rProd (rInt .i64) (rProd (rInt .i64) (rMx w0 (rList (rInt .i64)))))) v35 xs68] w ∧ iter f103 n (xs68, x69) = some res101) _ ⟨x33, (0 : Int), S.sub ⟨rfl, rfl, rfl, trivial⟩, H, hit102⟩ ?_
  rintro n a w ⟨xs68, x69, S, H, hit102⟩
  obtain ⟨m108, o109, rfl, hm, hc110⟩ := iter_step hit102
  rw [hf104] at hm
  refine wp_seq (region_plain ?_)
  refine lq (.bool (decide (x69 < (x33.length : Int)))) S (q_lss rfl rfl) fun a S => ?_
  refine lx_nil (thenN ?_)
  refine wp_seq ?_
  refine cond_b S rfl (fun hc111 => ?_) (fun hc111 => ?_)
  ·have hm := ite_t hc111 hm
   refine wp_skip (thenN ?_)
   refine wp_seq ?_
   refine wp_block ?_
   refine wp_seq (region_plain ?_)
   refine lq (.int .i64 x69) S (q_move rfl) fun a S => ?_
   refine lq (.int .i64 x69) S (q_assign rfl) fun a S => ?_
   refine lx_nil (thenN ?_)
   refine region_plain ?_
   refine lq v35 S (q_move rfl) fun a S => ?_
   refine lq (.int .i64 x69) S (q_move rfl) fun a S => ?_
   refine lq v35 S (q_move rfl) fun a S => ?_
   refine lq (.int .i64 x69) S (q_move rfl) fun a S => ?_
   obtain ⟨x112, e113, hm⟩ := bind_some hm
   have hlt := lt_of_idx (idx_some e113).2
   refine lq (ePtr v35 (x69.toNat * 3)) S (q_indexAddr rfl (H.isSl 0 rfl) rfl (idx_some e113).1 hlt Try.underlying24 Try.sizeOf37) fun a S => ?_
   refine lq (pAdd (ePtr v35 (x69.toNat * 3)) 2) S (q_fieldAddr' 2 32 rfl (((H.isSl 0 rfl)).ptr (lt_of_idx (idx_some e113).2) _) Try.underlying37 rfl Try.sizeOf32) fun a S => ?_
   obtain ⟨c114, h115, hat116⟩ := (H.rdAt 0 rfl).elem (idx_some e113).2
   obtain ⟨x119, e120, hm⟩ := bind_some hm
   obtain ⟨c121, c122, rfl, h123, h124⟩ := h115
   obtain rfl := h123
   obtain ⟨c125, c126, rfl, h127, h128⟩ := h124
   obtain rfl := h127
   obtain ⟨v117, rfl, h118⟩ := rd_list (mx_val h128 H.ext (Nat.le_refl _) e120)
   refine lx_e v117 S trivial (by decide) rfl trivial (q_load1 rfl Try.isAgg32 (by rintro _ rfl; exact (At.of_add (m := 2) (j := 0) (hat116 2 _ rfl)))) (fun a S => ?_)
   obtain ⟨x131, e132, hm⟩ := bind_some hm
   refine lx_call (xs := [.tmp 18]) S trivial (by decide) rfl rfl Try.call30 ((slices_Clone__int64_int64_ok (h118.ext (Ext.refl _)) e132).mono ?_)
   rintro e w129 ⟨v133, rfl, Hc130⟩
   have H := H.call1 Hc130
   refine ⟨_, rfl, trivial, fun a S => ?_⟩
   obtain ⟨x136, e137, hm⟩ := bind_some hm
   have hlt := lt_of_idx (idx_some e137).2
   refine lq (ePtr v35 (x69.toNat * 3)) S (q_indexAddr rfl (H.isSl 1 rfl) rfl (idx_some e137).1 hlt Try.underlying24 Try.sizeOf37) fun a S => ?_
   refine lq (pAdd (ePtr v35 (x69.toNat * 3)) 2) S (q_fieldAddr' 2 32 rfl (((H.isSl 1 rfl)).ptr (lt_of_idx (idx_some e137).2) _) Try.underlying37 rfl Try.sizeOf32) fun a S => ?_
   have hcl : Value.cells v133 = List.toArray [v133] := (cells_sl (H.isSl 0 rfl))
   have hon : ∀ c ∈ ([v133] : List Value), c.oneCell' = true := (List.forall_mem_cons.2 ⟨one_sl (H.isSl 0 rfl), (List.forall_mem_nil _)⟩)
   have H : Heap w0 [oA (rList (rProd (rInt .i64) (rProd (rInt .i64) (rMx w0 (rList (rInt .i64)))))) v35 xs68, oA (rList (rInt .i64)) v133 x131] w129 := H.front 1 rfl
   refine lx_storeElem (r := (rProd (rInt .i64) (rProd (rInt .i64) (rMx w0 (rList (rInt .i64)))))) (us := [v133]) (off := 2) (e' := (x136.1, x136.2.1, (Mx.own x131))) S trivial rfl H rfl rfl (idx_some e137).2 hcl Try.sizeOf32 (Nat.le_of_ble_eq_true rfl) hon (Upd.snd (off := 1) (Upd.snd (off := 0) (Upd.full rfl (fun w G hG => oA_list.1 hG)))) (fun w138 H => ⟨trivial, fun a S => ?_⟩)
   refine lx_nil ?_
   refine inBlock_norm ?_
   refine thenN ?_
   refine region_plain ?_
   refine lq (.int .i64 (W (x69 + (1 : Int)))) S (q_add rfl rfl) fun a S => ?_
   refine lq (.int .i64 (W (x69 + (1 : Int)))) S (q_move rfl) fun a S => ?_
   refine lx_nil ?_
   exact ⟨m108, Nat.lt_succ_self _, (xs68.set x69.toNat (x136.1, x136.2.1, (Mx.own x131))), (W (x69 + (1 : Int))), S.sub ⟨rfl, rfl, rfl, trivial⟩, H, it_cont hm hc110⟩
  ·have hm := ite_f hc111 hm
   refine wp_exit ?_
   refine then_exit ?_
   refine then_exit ?_
   refine inBlock_exit ?_
   obtain rfl := it_brk hm hc110
   exact ⟨xs68, S.sub ⟨rfl, trivial⟩, H, rfl⟩

/-- impl.DualGame -/
def impl_DualGame_m (fuel : Nat) (a0 : (List Timpl_Vertex)) : Option (((List Timpl_Vertex) × Int)) :=
  (impl_ValidGame_m fuel a0).bind fun x33 => (if (!x33) = true then some (([], (1 : Int))) else (impl_cloneGame_m fuel a0).bind fun x40 => (iter (fun (s : (List Timpl_Vertex) × (Int)) => (match s with | (xs84, x85) => (if (decide (x85 < (x40.length : Int))) = true then (idx xs84 x85).bind fun x142 => (idx xs84 x85).bind fun x157 => (idx (xs84.set x85.toNat ((W ((1 : Int) - x142.1)), x157.2.1, x157.2.2)) x85).bind fun x160 => (idx (xs84.set x85.toNat ((W ((1 : Int) - x142.1)), x157.2.1, x157.2.2)) x85).bind fun x175 => some (.inl (((xs84.set x85.toNat ((W ((1 : Int) - x142.1)), x157.2.1, x157.2.2)).set x85.toNat (x175.1, (W (x160.2.1 + (1 : Int))), x175.2.2)), (W (x85 + (1 : Int))))) else some (.inr (.inl (xs84)))) : Option (((List Timpl_Vertex) × (Int)) ⊕ (((List Timpl_Vertex)) ⊕ (((List Timpl_Vertex) × Int)))))) fuel (x40, (0 : Int))).bind fun res126 => ctl (β := (List Timpl_Vertex)) (ρ := ((List Timpl_Vertex) × Int)) (τ := ((List Timpl_Vertex) × Int)) res126 (fun (xs125) => (impl_ValidGame_m fuel xs125).bind fun x133 => (if (!x133) = true then some (([], (5 : Int))) else some ((xs125, (0 : Int))))) (fun q => some (q)))
set_option maxRecDepth 20000 in
theorem impl_DualGame_ok [dr : Dr] {w0 : World} {fuel : Nat} {p0 : Value} {a0 : (List Timpl_Vertex)} {r : ((List Timpl_Vertex) × Int)} (h0 : Rd (rList Rimpl_Vertex) w0 p0 a0) (hm : impl_DualGame_m fuel a0 = some r) :
  Calls Try.prog 7 #[p0] w0 fun e w => ∃ (v0 : Value), e = .returned (.tuple #[v0, .int .i64 r.2]) ∧ Heap w0 [oA (rList Rimpl_Vertex) v0 r.1] w := by
 unfold impl_DualGame_m at hm
 have H := Heap.start w0
 refine enter (args := [p0]) Try.func7 rfl 39 rfl (Nat.le_of_ble_eq_true rfl) (fun a S => ?_)
 refine wp_seq (region_plain ?_)
 refine lq (.slice none 0 0) S (q_assign rfl) fun a S => ?_
 refine lq (.int .i64 (0 : Int)) S (q_assign rfl) fun a S => ?_
 refine lx_nil (thenN ?_)
 refine wp_seq (wp_seq (region_plain ?_))
 refine lq p0 S (q_move rfl) fun a S => ?_
 obtain ⟨x33, e34, hm⟩ := bind_some hm
 refine lx_call (xs := [.tmp 6]) S trivial (by decide) rfl rfl Try.call15 ((impl_ValidGame_ok (H.arg h0) e34).mono ?_)
 rintro e w31 ⟨rfl, Hc32⟩
 have H := H.call0 Hc32
 refine ⟨_, rfl, trivial, fun a S => ?_⟩
 refine lq (.bool (!x33)) S (q_not rfl) fun a S => ?_
 refine lx_nil (thenN ?_)
 refine cond_b S rfl (fun hc36 => ?_) (fun hc36 => ?_)
 ·have hm := ite_t hc36 hm
  refine wp_seq (region_plain ?_)
  refine lq (.slice none 0 0) S (q_assign rfl) fun a S => ?_
  refine lq (.int .i64 (1 : Int)) S (q_assign rfl) fun a S => ?_
  refine lx_nil (thenN ?_)
  refine wp_ret (then_ret ?_)
  obtain rfl := Option.some.inj hm
  have H : Heap w0 [oA (rList Rimpl_Vertex) (.slice none 0 0) ([] : List Timpl_Vertex)] w31 := H.nilList Rimpl_Vertex
  exact leave2 S rfl rfl rfl ⟨(.slice none 0 0), rfl, H⟩
 ·have hm := ite_f hc36 hm
  refine wp_skip (thenN ?_)
  refine wp_seq (region_plain ?_)
  refine lq p0 S (q_move rfl) fun a S => ?_
  obtain ⟨x40, e41, hm⟩ := bind_some hm
  refine lx_call (xs := [.tmp 9]) S trivial (by decide) rfl rfl Try.call16 ((impl_cloneGame_ok (H.arg h0) e41).mono ?_)
  rintro e w38 ⟨v42, rfl, Hc39⟩
  have H := H.call1 Hc39
  refine ⟨_, rfl, trivial, fun a S => ?_⟩
  refine lq v42 S (q_assign rfl) fun a S => ?_
  refine lx_nil (thenN ?_)
  refine wp_seq (wp_seq (region_plain ?_))
  refine lq v42 S (q_move rfl) fun a S => ?_
  refine lq (.int .i64 (x40.length : Int)) S (q_lenSl rfl (H.isSl 0 rfl) rfl Try.underlying24) fun a S => ?_
  refine lq (.int .i64 (0 : Int)) S (q_move rfl) fun a S => ?_
  refine lx_nil (thenN ?_)
  obtain ⟨res126, hit127, hk130⟩ := bind_some hm
  obtain ⟨f128, hf129, hit127⟩ := iter_name hit127
  refine block_loop (fun a w => ∃ (xs125 : List Timpl_Vertex), Slots a 39 [(4, v42)] ∧ Heap w0 [oA (rList Rimpl_Vertex) v42 xs125] w ∧ res126 = .inl (xs125)) ?_ ?_
  ·rintro a w ⟨xs125, S, H, rfl⟩
   have hm := ctl_inl hk130
   refine thenN ?_
   refine wp_seq (wp_seq (region_plain ?_))
   refine lq v42 S (q_move rfl) fun a S => ?_
   obtain ⟨x133, e134, hm⟩ := bind_some hm
   refine lx_call (xs := [.tmp 35]) S trivial (by decide) rfl rfl Try.call15 ((impl_ValidGame_ok (H.rdAt 0 rfl) e134).mono ?_)
   rintro e w131 ⟨rfl, Hc132⟩
   have H := H.call0 Hc132
   refine ⟨_, rfl, trivial, fun a S => ?_⟩
   refine lq (.bool (!x133)) S (q_not rfl) fun a S => ?_
   refine lx_nil (thenN ?_)
   refine cond_b S rfl (fun hc136 => ?_) (fun hc136 => ?_)
   ·have hm := ite_t hc136 hm
    refine wp_seq (region_plain ?_)
    refine lq (.slice none 0 0) S (q_assign rfl) fun a S => ?_
    refine lq (.int .i64 (5 : Int)) S (q_assign rfl) fun a S => ?_
    refine lx_nil (thenN ?_)
    refine wp_ret (then_ret ?_)
    obtain rfl := Option.some.inj hm
    have H : Heap w0 [oA (rList Rimpl_Vertex) (.slice none 0 0) ([] : List Timpl_Vertex), oA (rList Rimpl_Vertex) v42 xs125] w131 := H.nilList Rimpl_Vertex
    have H : Heap w0 [oA (rList Rimpl_Vertex) (.slice none 0 0) ([] : List Timpl_Vertex)] w131 := H.sel [0] (by decide)
    exact leave2 S rfl rfl rfl ⟨(.slice none 0 0), rfl, H⟩
   ·have hm := ite_f hc136 hm
    refine wp_skip (thenN ?_)
    refine wp_seq (region_plain ?_)
    refine lq v42 S (q_move rfl) fun a S => ?_
    refine lq v42 S (q_assign rfl) fun a S => ?_
    refine lq (.int .i64 (0 : Int)) S (q_assign rfl) fun a S => ?_
    refine lx_nil (thenN ?_)
    refine wp_ret ?_
    obtain rfl := Option.some.inj hm
    exact leave2 S rfl rfl rfl ⟨v42, rfl, H⟩
  ·skip
   refine loop_ghost (fun n a w => ∃ (xs84 : List Timpl_Vertex) (x85 : Int), Slots a 39 [(4, v42), (12, (.int .i64 (x40.length : Int))), (13, (.int .i64 x85))] ∧ Heap w0 [oA (rList Rimpl_Vertex) v42 xs84] w ∧ iter f128 n (xs84, x85) = some res126) _ ⟨x40, (0 : Int), S.sub ⟨rfl, rfl, rfl, trivial⟩, H, hit127⟩ ?_
   rintro n a w ⟨xs84, x85, S, H, hit127⟩
   obtain ⟨m138, o139, rfl, hm, hc140⟩ := iter_step hit127
   rw [hf129] at hm
   refine wp_seq (region_plain ?_)
   refine lq (.bool (decide (x85 < (x40.length : Int)))) S (q_lss rfl rfl) fun a S => ?_
   refine lx_nil (thenN ?_)
   refine wp_seq ?_
   refine cond_b S rfl (fun hc141 => ?_) (fun hc141 => ?_)
   ·have hm := ite_t hc141 hm
    refine wp_skip (thenN ?_)
    refine wp_seq ?_
    refine wp_block ?_
    refine wp_seq (region_plain ?_)
    refine lq (.int .i64 x85) S (q_move rfl) fun a S => ?_
    refine lq (.int .i64 x85) S (q_assign rfl) fun a S => ?_
    refine lx_nil (thenN ?_)
    refine wp_seq (region_plain ?_)
    refine lq v42 S (q_move rfl) fun a S => ?_
    refine lq (.int .i64 x85) S (q_move rfl) fun a S => ?_
    refine lq v42 S (q_move rfl) fun a S => ?_
    refine lq (.int .i64 x85) S (q_move rfl) fun a S => ?_
    obtain ⟨x142, e143, hm⟩ := bind_some hm
    have hlt := lt_of_idx (idx_some e143).2
    refine lq (ePtr v42 (x85.toNat * 3)) S (q_indexAddr rfl (H.isSl 0 rfl) rfl (idx_some e143).1 hlt Try.underlying24 Try.sizeOf37) fun a S => ?_
    refine lq (pAdd (ePtr v42 (x85.toNat * 3)) 0) S (q_fieldAddr' 0 2 rfl (((H.isSl 0 rfl)).ptr (lt_of_idx (idx_some e143).2) _) Try.underlying37 rfl Try.sizeOf2) fun a S => ?_
    obtain ⟨c144, h145, hat146⟩ := (H.rdAt 0 rfl).elem (idx_some e143).2
    obtain ⟨c149, c150, rfl, h151, h152⟩ := h145
    obtain rfl := h151
    obtain ⟨c153, c154, rfl, h155, h156⟩ := h152
    obtain rfl := h155
    obtain ⟨v147, rfl, h148⟩ := rd_list h156
    refine lx_e (.int .i64 x142.1) S trivial (by decide) rfl trivial (q_load1 rfl Try.isAgg2 (by rintro _ rfl; exact (At.of_add (m := 0) (j := 0) (hat146 0 _ rfl)))) (fun a S => ?_)
    refine lq (.int .i64 (W ((1 : Int) - x142.1))) S (q_sub rfl rfl) fun a S => ?_
    obtain ⟨x157, e158, hm⟩ := bind_some hm
    have hlt := lt_of_idx (idx_some e158).2
    refine lq (ePtr v42 (x85.toNat * 3)) S (q_indexAddr rfl (H.isSl 0 rfl) rfl (idx_some e158).1 hlt Try.underlying24 Try.sizeOf37) fun a S => ?_
    refine lq (pAdd (ePtr v42 (x85.toNat * 3)) 0) S (q_fieldAddr' 0 2 rfl (((H.isSl 0 rfl)).ptr (lt_of_idx (idx_some e158).2) _) Try.underlying37 rfl Try.sizeOf2) fun a S => ?_
    refine lx_storeElem (r := Rimpl_Vertex) (us := [(.int .i64 (W ((1 : Int) - x142.1)))]) (off := 0) (e' := ((W ((1 : Int) - x142.1)), x157.2.1, x157.2.2)) S trivial rfl H.putE rfl rfl (idx_some e158).2 rfl Try.sizeOf2 (Nat.le_of_ble_eq_true rfl) (List.forall_mem_cons.2 ⟨rfl, (List.forall_mem_nil _)⟩) (Upd.fst (off := 0) (Nat.le_of_ble_eq_true rfl) (Upd.full rfl (fun w G hG => by cases (show G = [] from hG); exact ⟨rfl, rfl⟩))) (fun w159 H => ⟨trivial, fun a S => ?_⟩)
    refine lx_nil (thenN ?_)
    refine region_plain ?_
    refine lq v42 S (q_move rfl) fun a S => ?_
    refine lq (.int .i64 x85) S (q_move rfl) fun a S => ?_
    obtain ⟨x160, e161, hm⟩ := bind_some hm
    have hlt := lt_of_idx (idx_some e161).2
    refine lq (ePtr v42 (x85.toNat * 3)) S (q_indexAddr rfl (H.isSl 0 rfl) rfl (idx_some e161).1 hlt Try.underlying24 Try.sizeOf37) fun a S => ?_
    refine lq (pAdd (ePtr v42 (x85.toNat * 3)) 1) S (q_fieldAddr' 1 2 rfl (((H.isSl 0 rfl)).ptr (lt_of_idx (idx_some e161).2) _) Try.underlying37 rfl Try.sizeOf2) fun a S => ?_
    obtain ⟨c162, h163, hat164⟩ := (H.rdAt 0 rfl).elem (idx_some e161).2
    obtain ⟨c167, c168, rfl, h169, h170⟩ := h163
    obtain rfl := h169
    obtain ⟨c171, c172, rfl, h173, h174⟩ := h170
    obtain rfl := h173
    obtain ⟨v165, rfl, h166⟩ := rd_list h174
    refine lx_e (.int .i64 x160.2.1) S trivial (by decide) rfl trivial (q_load1 rfl Try.isAgg2 (by rintro _ rfl; exact (At.of_add (m := 1) (j := 0) (hat164 1 _ rfl)))) (fun a S => ?_)
    refine lq (.int .i64 (W (x160.2.1 + (1 : Int)))) S (q_add rfl rfl) fun a S => ?_
    obtain ⟨x175, e176, hm⟩ := bind_some hm
    have hlt := lt_of_idx (idx_some e176).2
    refine lq (ePtr v42 (x85.toNat * 3)) S (q_indexAddr rfl (H.isSl 0 rfl) rfl (idx_some e176).1 hlt Try.underlying24 Try.sizeOf37) fun a S => ?_
    refine lq (pAdd (ePtr v42 (x85.toNat * 3)) 1) S (q_fieldAddr' 1 2 rfl (((H.isSl 0 rfl)).ptr (lt_of_idx (idx_some e176).2) _) Try.underlying37 rfl Try.sizeOf2) fun a S => ?_
    refine lx_storeElem (r := Rimpl_Vertex) (us := [(.int .i64 (W (x160.2.1 + (1 : Int))))]) (off := 1) (e' := (x175.1, (W (x160.2.1 + (1 : Int))), x175.2.2)) S trivial rfl H.putE rfl rfl (idx_some e176).2 rfl Try.sizeOf2 (Nat.le_of_ble_eq_true rfl) (List.forall_mem_cons.2 ⟨rfl, (List.forall_mem_nil _)⟩) (Upd.snd (off := 0) (Upd.fst (off := 0) (Nat.le_of_ble_eq_true rfl) (Upd.full rfl (fun w G hG => by cases (show G = [] from hG); exact ⟨rfl, rfl⟩)))) (fun w177 H => ⟨trivial, fun a S => ?_⟩)
    refine lx_nil ?_
    refine inBlock_norm ?_
    refine thenN ?_
    refine region_plain ?_
    refine lq (.int .i64 (W (x85 + (1 : Int)))) S (q_add rfl rfl) fun a S => ?_
    refine lq (.int .i64 (W (x85 + (1 : Int)))) S (q_move rfl) fun a S => ?_
    refine lx_nil ?_
    exact ⟨m138, Nat.lt_succ_self _, ((xs84.set x85.toNat ((W ((1 : Int) - x142.1)), x157.2.1, x157.2.2)).set x85.toNat (x175.1, (W (x160.2.1 + (1 : Int))), x175.2.2)), (W (x85 + (1 : Int))), S.sub ⟨rfl, rfl, rfl, trivial⟩, H, it_cont hm hc140⟩
   ·have hm := ite_f hc141 hm
    refine wp_exit ?_
    refine then_exit ?_
    refine then_exit ?_
    refine inBlock_exit ?_
    obtain rfl := it_brk hm hc140
    exact ⟨xs84, S.sub ⟨rfl, trivial⟩, H, rfl⟩

/-- laws.eqInt64S -/
def laws_eqInt64S_m (fuel : Nat) (a0 : (List Int)) (a1 : (List Int)) : Option (Bool) :=
  (if ((a0.length : Int) != (a1.length : Int)) = true then some (false) else (iter (fun (s : (Int)) => (match s with | (x47) => (if (decide (x47 < (a0.length : Int))) = true then (idx a0 x47).bind fun x74 => (idx a1 x47).bind fun x79 => (if (x74 != x79) = true then some (.inr (.inr false)) else some (.inl ((W (x47 + (1 : Int)))))) else some (.inr (.inl ()))) : Option (((Int)) ⊕ ((Unit) ⊕ (Bool))))) fuel ((0 : Int))).bind fun res63 => ctl (β := Unit) (ρ := Bool) (τ := Bool) res63 (fun _ => some (true)) (fun q => some (q)))
set_option maxRecDepth 20000 in
theorem laws_eqInt64S_ok [dr : Dr] {w0 : World} {fuel : Nat} {p0 p1 : Value} {a0 : (List Int)} {a1 : (List Int)} {r : Bool} (h0 : Rd (rList (rInt .i64)) w0 p0 a0) (h1 : Rd (rList (rInt .i64)) w0 p1 a1) (hm : laws_eqInt64S_m fuel a0 a1 = some r) :
  Calls Try.prog 31 #[p0, p1] w0 fun e w => e = .returned (.bool r) ∧ Heap w0 [] w := by
 unfold laws_eqInt64S_m at hm
 have H := Heap.start w0
 refine enter (args := [p0, p1]) Try.func31 rfl 26 rfl (Nat.le_of_ble_eq_true rfl) (fun a S => ?_)
 refine wp_seq (region_plain ?_)
 refine lq (.bool false) S (q_assign rfl) fun a S => ?_
 refine lx_nil (thenN ?_)
 refine wp_seq (wp_seq (region_plain ?_))
 refine lq p0 S (q_move rfl) fun a S => ?_
 refine lq (.int .i64 (a0.length : Int)) S (q_lenSl rfl (h0).isSl rfl Try.underlying32) fun a S => ?_
 refine lq p1 S (q_move rfl) fun a S => ?_
 refine lq (.int .i64 (a1.length : Int)) S (q_lenSl rfl (h1).isSl rfl Try.underlying32) fun a S => ?_
 refine lq (.bool ((a0.length : Int) != (a1.length : Int))) S (q_neq rfl rfl) fun a S => ?_
 refine lx_nil (thenN ?_)
 refine cond_b S rfl (fun hc31 => ?_) (fun hc31 => ?_)
 ·have hm := ite_t hc31 hm
  refine wp_seq (region_plain ?_)
  refine lq (.bool false) S (q_assign rfl) fun a S => ?_
  refine lx_nil (thenN ?_)
  refine wp_ret (then_ret ?_)
  obtain rfl := Option.some.inj hm
  exact leave1 S rfl rfl ⟨rfl, H⟩
 ·have hm := ite_f hc31 hm
  refine wp_skip (thenN ?_)
  refine wp_seq (wp_seq (region_plain ?_))
  refine lq (.int .i64 (0 : Int)) S (q_assign rfl) fun a S => ?_
  refine lx_nil (thenN ?_)
  obtain ⟨res63, hit64, hk67⟩ := bind_some hm
  obtain ⟨f65, hf66, hit64⟩ := iter_name hit64
  refine block_loop (fun a w => Slots a 26 [] ∧ Heap w0 [] w ∧ res63 = .inl ()) ?_ ?_
  ·rintro a w ⟨S, H, rfl⟩
   have hm := ctl_inl hk67
   refine thenN ?_
   refine wp_seq (region_plain ?_)
   refine lq (.bool true) S (q_assign rfl) fun a S => ?_
   refine lx_nil (thenN ?_)
   refine wp_ret ?_
   obtain rfl := Option.some.inj hm
   exact leave1 S rfl rfl ⟨rfl, H⟩
  ·skip
   refine loop_ghost (fun n a w => ∃ (x47 : Int), Slots a 26 [(0, p0), (1, p1), (5, (.int .i64 x47))] ∧ Heap w0 [] w ∧ iter f65 n (x47) = some res63) _ ⟨(0 : Int), S.sub ⟨rfl, rfl, rfl, trivial⟩, H, hit64⟩ ?_
   rintro n a w ⟨x47, S, H, hit64⟩
   obtain ⟨m68, o69, rfl, hm, hc70⟩ := iter_step hit64
   rw [hf66] at hm
   refine wp_seq (wp_seq (region_plain ?_))
   refine lq (.int .i64 x47) S (q_move rfl) fun a S => ?_
   refine lq p0 S (q_move rfl) fun a S => ?_
   refine lq (.int .i64 (a0.length : Int)) S (q_lenSl rfl (h0).isSl rfl Try.underlying32) fun a S => ?_
   refine lq (.bool (decide (x47 < (a0.length : Int)))) S (q_lss rfl rfl) fun a S => ?_
   refine lx_nil (thenN ?_)
   refine cond_b S rfl (fun hc71 => ?_) (fun hc71 => ?_)
   ·have hm := ite_t hc71 hm
    refine wp_skip (thenN ?_)
    refine wp_seq ?_
    refine wp_block ?_
    refine wp_seq ?_
    refine region_drawG (fun w1 => Heap w0 [] w1) (fun i => [].contains i) mixed (by kernel_rfl) (fun w73 he72 => ?_)
    have H := H.later he72
    refine ⟨H.sel [] (by decide), ?_⟩
    refine lq p0 S (q_move rfl) fun a S => ?_
    refine lq (.int .i64 x47) S (q_move rfl) fun a S => ?_
    obtain ⟨x74, e75, hm⟩ := bind_some hm
    obtain ⟨c76, h77, hat78⟩ := (h0).elem (idx_some e75).2
    obtain rfl := h77
    have hlt := lt_of_idx (idx_some e75).2
    refine lq (ePtr p0 (x47.toNat * 1)) S (q_indexAddr rfl (h0).isSl rfl (idx_some e75).1 hlt Try.underlying32 Try.sizeOf2) fun a S => ?_
    refine lq (.int .i64 x74) S (q_load1 rfl Try.isAgg2 (fun w1 hC => ((hat78 0 _ rfl).ext hC.ext))) fun a S => ?_
    refine lq p1 S (q_move rfl) fun a S => ?_
    refine lq (.int .i64 x47) S (q_move rfl) fun a S => ?_
    obtain ⟨x79, e80, hm⟩ := bind_some hm
    obtain ⟨c81, h82, hat83⟩ := (h1).elem (idx_some e80).2
    obtain rfl := h82
    have hlt := lt_of_idx (idx_some e80).2
    refine lq (ePtr p1 (x47.toNat * 1)) S (q_indexAddr rfl (h1).isSl rfl (idx_some e80).1 hlt Try.underlying32 Try.sizeOf2) fun a S => ?_
    refine lq (.int .i64 x79) S (q_load1 rfl Try.isAgg2 (fun w1 hC => ((hat83 0 _ rfl).ext hC.ext))) fun a S => ?_
    refine lq (.bool (x74 != x79)) S (q_neq rfl rfl) fun a S => ?_
    refine lx_nil (thenN ?_)
    refine cond_b S rfl (fun hc84 => ?_) (fun hc84 => ?_)
    ·have hm := ite_t hc84 hm
     refine wp_seq (region_plain ?_)
     refine lq (.bool false) S (q_assign rfl) fun a S => ?_
     refine lx_nil (thenN ?_)
     refine wp_ret (inBlock_ret ?_)
     refine then_ret ?_
     refine then_ret ?_
     refine inBlock_ret ?_
     refine then_ret ?_
     refine then_ret ?_
     obtain rfl := it_brk hm hc70
     have hm := ctl_inr hk67
     obtain rfl := Option.some.inj hm
     exact leave1 S rfl rfl ⟨rfl, H⟩
    ·have hm := ite_f hc84 hm
     refine wp_skip ?_
     refine inBlock_norm ?_
     refine thenN ?_
     refine region_plain ?_
     refine lq (.int .i64 x47) S (q_move rfl) fun a S => ?_
     refine lq (.int .i64 (W (x47 + (1 : Int)))) S (q_add rfl rfl) fun a S => ?_
     refine lq (.int .i64 (W (x47 + (1 : Int)))) S (q_assign rfl) fun a S => ?_
     refine lx_nil ?_
     exact ⟨m68, Nat.lt_succ_self _, (W (x47 + (1 : Int))), S.sub ⟨rfl, rfl, rfl, trivial⟩, H, it_cont hm hc70⟩
   ·have hm := ite_f hc71 hm
    refine wp_exit ?_
    refine then_exit ?_
    refine then_exit ?_
    refine inBlock_exit ?_
    obtain rfl := it_brk hm hc70
    exact ⟨S.sub trivial, H, rfl⟩

/-- laws.eqVertex -/
def laws_eqVertex_m (fuel : Nat) (a0 : Timpl_Vertex) (a1 : Timpl_Vertex) : Option (Bool) :=
  (if (a0.1 != a1.1) = true then some (false) else (if (a0.2.1 != a1.2.1) = true then some (false) else (laws_eqInt64S_m fuel a0.2.2 a1.2.2).bind fun x65 => (if (!x65) = true then some (false) else some (true))))
set_option maxRecDepth 20000 in
theorem laws_eqVertex_ok [dr : Dr] {w0 : World} {fuel : Nat} {p0 p1 : Value} {a0 : Timpl_Vertex} {a1 : Timpl_Vertex} {r : Bool} (h0 : Rd Rimpl_Vertex w0 p0 a0) (h1 : Rd Rimpl_Vertex w0 p1 a1) (hm : laws_eqVertex_m fuel a0 a1 = some r) :
  Calls Try.prog 17 #[p0, p1] w0 fun e w => e = .returned (.bool r) ∧ Heap w0 [] w := by
 unfold laws_eqVertex_m at hm
 have H := Heap.start w0
 obtain ⟨c31, rfl, h32⟩ := h0
 obtain ⟨c35, c36, rfl, h37, h38⟩ := h32
 obtain rfl := h37
 obtain ⟨c39, c40, rfl, h41, h42⟩ := h38
 obtain rfl := h41
 obtain ⟨v33, rfl, h34⟩ := rd_list h42
 obtain ⟨c43, rfl, h44⟩ := h1
 obtain ⟨c47, c48, rfl, h49, h50⟩ := h44
 obtain rfl := h49
 obtain ⟨c51, c52, rfl, h53, h54⟩ := h50
 obtain rfl := h53
 obtain ⟨v45, rfl, h46⟩ := rd_list h54
 refine enter (args := [(.agg #[(.int .i64 a0.1), (.int .i64 a0.2.1), v33]), (.agg #[(.int .i64 a1.1), (.int .i64 a1.2.1), v45])]) Try.func17 rfl 21 rfl (Nat.le_of_ble_eq_true rfl) (fun a S => ?_)
 refine wp_seq (region_plain ?_)
 refine lx_box S trivial (by decide) rfl H rfl rfl (fun b55 w56 H => ⟨trivial, fun a S => ?_⟩)
 refine lx_box S trivial (by decide) rfl H rfl rfl (fun b58 w59 H => ⟨trivial, fun a S => ?_⟩)
 refine lq (.bool false) S (q_assign rfl) fun a S => ?_
 refine lx_nil (thenN ?_)
 refine wp_seq (wp_seq (region_plain ?_))
 refine lq (pAdd (bp b55) 0) S (q_fieldAddr' 0 2 rfl (isP_bp _) Try.underlying37 rfl Try.sizeOf2) fun a S => ?_
 refine lx_e (.int .i64 a0.1) S trivial (by decide) rfl trivial (q_load1 rfl Try.isAgg2 (by rintro _ rfl; exact (At.of_add (m := 0) (j := 0) (boxAt (i := 1) H rfl (j := 0) rfl)))) (fun a S => ?_)
 refine lq (pAdd (bp b58) 0) S (q_fieldAddr' 0 2 rfl (isP_bp _) Try.underlying37 rfl Try.sizeOf2) fun a S => ?_
 refine lx_e (.int .i64 a1.1) S trivial (by decide) rfl trivial (q_load1 rfl Try.isAgg2 (by rintro _ rfl; exact (At.of_add (m := 0) (j := 0) (boxAt (i := 0) H rfl (j := 0) rfl)))) (fun a S => ?_)
 refine lq (.bool (a0.1 != a1.1)) S (q_neq rfl rfl) fun a S => ?_
 refine lx_nil (thenN ?_)
 refine cond_b S rfl (fun hc61 => ?_) (fun hc61 => ?_)
 ·have hm := ite_t hc61 hm
  refine wp_seq (region_plain ?_)
  refine lq (.bool false) S (q_assign rfl) fun a S => ?_
  refine lx_nil (thenN ?_)
  refine wp_ret (then_ret ?_)
  obtain rfl := Option.some.inj hm
  have H : Heap w0 [] w59 := H.sel [] (by decide)
  exact leave1 S rfl rfl ⟨rfl, H⟩
 ·have hm := ite_f hc61 hm
  refine wp_skip (thenN ?_)
  refine wp_seq (wp_seq (region_plain ?_))
  refine lq (pAdd (bp b55) 1) S (q_fieldAddr' 1 2 rfl (isP_bp _) Try.underlying37 rfl Try.sizeOf2) fun a S => ?_
  refine lx_e (.int .i64 a0.2.1) S trivial (by decide) rfl trivial (q_load1 rfl Try.isAgg2 (by rintro _ rfl; exact (At.of_add (m := 1) (j := 0) (boxAt (i := 1) H rfl (j := 1) rfl)))) (fun a S => ?_)
  refine lq (pAdd (bp b58) 1) S (q_fieldAddr' 1 2 rfl (isP_bp _) Try.underlying37 rfl Try.sizeOf2) fun a S => ?_
  refine lx_e (.int .i64 a1.2.1) S trivial (by decide) rfl trivial (q_load1 rfl Try.isAgg2 (by rintro _ rfl; exact (At.of_add (m := 1) (j := 0) (boxAt (i := 0) H rfl (j := 1) rfl)))) (fun a S => ?_)
  refine lq (.bool (a0.2.1 != a1.2.1)) S (q_neq rfl rfl) fun a S => ?_
  refine lx_nil (thenN ?_)
  refine cond_b S rfl (fun hc62 => ?_) (fun hc62 => ?_)
  ·have hm := ite_t hc62 hm
   refine wp_seq (region_plain ?_)
   refine lq (.bool false) S (q_assign rfl) fun a S => ?_
   refine lx_nil (thenN ?_)
   refine wp_ret (then_ret ?_)
   obtain rfl := Option.some.inj hm
   have H : Heap w0 [] w59 := H.sel [] (by decide)
   exact leave1 S rfl rfl ⟨rfl, H⟩
  ·have hm := ite_f hc62 hm
   refine wp_skip (thenN ?_)
   refine wp_seq (wp_seq (region_plain ?_))
   refine lq (pAdd (bp b55) 2) S (q_fieldAddr' 2 32 rfl (isP_bp _) Try.underlying37 rfl Try.sizeOf32) fun a S => ?_
   refine lx_e v33 S trivial (by decide) rfl trivial (q_load1 rfl Try.isAgg32 (by rintro _ rfl; exact (At.of_add (m := 2) (j := 0) (boxAt (i := 1) H rfl (j := 2) rfl)))) (fun a S => ?_)
   refine lq (pAdd (bp b58) 2) S (q_fieldAddr' 2 32 rfl (isP_bp _) Try.underlying37 rfl Try.sizeOf32) fun a S => ?_
   refine lx_e v45 S trivial (by decide) rfl trivial (q_load1 rfl Try.isAgg32 (by rintro _ rfl; exact (At.of_add (m := 2) (j := 0) (boxAt (i := 0) H rfl (j := 2) rfl)))) (fun a S => ?_)
   obtain ⟨x65, e66, hm⟩ := bind_some hm
   refine lx_call (xs := [.tmp 16, .tmp 18]) S trivial (by decide) rfl rfl Try.call31 ((laws_eqInt64S_ok (H.arg h34) (H.arg h46) e66).mono ?_)
   rintro e w63 ⟨rfl, Hc64⟩
   have H := H.call0 Hc64
   refine ⟨_, rfl, trivial, fun a S => ?_⟩
   refine lq (.bool (!x65)) S (q_not rfl) fun a S => ?_
   refine lx_nil (thenN ?_)
   refine cond_b S rfl (fun hc68 => ?_) (fun hc68 => ?_)
   ·have hm := ite_t hc68 hm
    refine wp_seq (region_plain ?_)
    refine lq (.bool false) S (q_assign rfl) fun a S => ?_
    refine lx_nil (thenN ?_)
    refine wp_ret (then_ret ?_)
    obtain rfl := Option.some.inj hm
    have H : Heap w0 [] w63 := H.sel [] (by decide)
    exact leave1 S rfl rfl ⟨rfl, H⟩
   ·have hm := ite_f hc68 hm
    refine wp_skip (thenN ?_)
    refine wp_seq (region_plain ?_)
    refine lq (.bool true) S (q_assign rfl) fun a S => ?_
    refine lx_nil (thenN ?_)
    refine wp_ret ?_
    obtain rfl := Option.some.inj hm
    have H : Heap w0 [] w63 := H.sel [] (by decide)
    exact leave1 S rfl rfl ⟨rfl, H⟩

/-- laws.eqVertexS -/
def laws_eqVertexS_m (fuel : Nat) (a0 : (List Timpl_Vertex)) (a1 : (List Timpl_Vertex)) : Option (Bool) :=
  (if ((a0.length : Int) != (a1.length : Int)) = true then some (false) else (iter (fun (s : (Int)) => (match s with | (x72) => (if (decide (x72 < (a0.length : Int))) = true then (idx a0 x72).bind fun x124 => (idx a1 x72).bind fun x139 => (laws_eqVertex_m fuel (x124.1, x124.2.1, x124.2.2) (x139.1, x139.2.1, x139.2.2)).bind fun x156 => (if (!x156) = true then some (.inr (.inr false)) else some (.inl ((W (x72 + (1 : Int)))))) else some (.inr (.inl ()))) : Option (((Int)) ⊕ ((Unit) ⊕ (Bool))))) fuel ((0 : Int))).bind fun res113 => ctl (β := Unit) (ρ := Bool) (τ := Bool) res113 (fun _ => some (true)) (fun q => some (q)))
set_option maxRecDepth 20000 in
theorem laws_eqVertexS_ok [dr : Dr] {w0 : World} {fuel : Nat} {p0 p1 : Value} {a0 : (List Timpl_Vertex)} {a1 : (List Timpl_Vertex)} {r : Bool} (h0 : Rd (rList Rimpl_Vertex) w0 p0 a0) (h1 : Rd (rList Rimpl_Vertex) w0 p1 a1) (hm : laws_eqVertexS_m fuel a0 a1 = some r) :
  Calls Try.prog 8 #[p0, p1] w0 fun e w => e = .returned (.bool r) ∧ Heap w0 [] w := by
 unfold laws_eqVertexS_m at hm
 have H := Heap.start w0
 refine enter (args := [p0, p1]) Try.func8 rfl 27 rfl (Nat.le_of_ble_eq_true rfl) (fun a S => ?_)
 refine wp_seq (region_plain ?_)
 refine lq (.bool false) S (q_assign rfl) fun a S => ?_
 refine lx_nil (thenN ?_)
 refine wp_seq (wp_seq (region_plain ?_))
 refine lq p0 S (q_move rfl) fun a S => ?_
 refine lq (.int .i64 (a0.length : Int)) S (q_lenSl rfl (h0).isSl rfl Try.underlying24) fun a S => ?_
 refine lq p1 S (q_move rfl) fun a S => ?_
 refine lq (.int .i64 (a1.length : Int)) S (q_lenSl rfl (h1).isSl rfl Try.underlying24) fun a S => ?_
 refine lq (.bool ((a0.length : Int) != (a1.length : Int))) S (q_neq rfl rfl) fun a S => ?_
 refine lx_nil (thenN ?_)
 refine cond_b S rfl (fun hc31 => ?_) (fun hc31 => ?_)
 ·have hm := ite_t hc31 hm
  refine wp_seq (region_plain ?_)
  refine lq (.bool false) S (q_assign rfl) fun a S => ?_
  refine lx_nil (thenN ?_)
  refine wp_ret (then_ret ?_)
  obtain rfl := Option.some.inj hm
  exact leave1 S rfl rfl ⟨rfl, H⟩
 ·have hm := ite_f hc31 hm
  refine wp_skip (thenN ?_)
  refine wp_seq (wp_seq (region_plain ?_))
  refine lq (.int .i64 (0 : Int)) S (q_assign rfl) fun a S => ?_
  refine lx_nil (thenN ?_)
  obtain ⟨res113, hit114, hk117⟩ := bind_some hm
  obtain ⟨f115, hf116, hit114⟩ := iter_name hit114
  refine block_loop (fun a w => Slots a 27 [] ∧ Heap w0 [] w ∧ res113 = .inl ()) ?_ ?_
  ·rintro a w ⟨S, H, rfl⟩
   have hm := ctl_inl hk117
   refine thenN ?_
   refine wp_seq (region_plain ?_)
   refine lq (.bool true) S (q_assign rfl) fun a S => ?_
   refine lx_nil (thenN ?_)
   refine wp_ret ?_
   obtain rfl := Option.some.inj hm
   exact leave1 S rfl rfl ⟨rfl, H⟩
  ·skip
   refine loop_ghost (fun n a w => ∃ (x72 : Int), Slots a 27 [(0, p0), (1, p1), (5, (.int .i64 x72))] ∧ Heap w0 [] w ∧ iter f115 n (x72) = some res113) _ ⟨(0 : Int), S.sub ⟨rfl, rfl, rfl, trivial⟩, H, hit114⟩ ?_
   rintro n a w ⟨x72, S, H, hit114⟩
   obtain ⟨m118, o119, rfl, hm, hc120⟩ := iter_step hit114
   rw [hf116] at hm
   refine wp_seq (wp_seq (region_plain ?_))
   refine lq (.int .i64 x72) S (q_move rfl) fun a S => ?_
   refine lq p0 S (q_move rfl) fun a S => ?_
   refine lq (.int .i64 (a0.length : Int)) S (q_lenSl rfl (h0).isSl rfl Try.underlying24) fun a S => ?_
   refine lq (.bool (decide (x72 < (a0.length : Int)))) S (q_lss rfl rfl) fun a S => ?_
   refine lx_nil (thenN ?_)
   refine cond_b S rfl (fun hc121 => ?_) (fun hc121 => ?_)
   ·have hm := ite_t hc121 hm
    refine wp_skip (thenN ?_)
    refine wp_seq ?_
    refine wp_block ?_
    refine wp_seq ?_
    refine region_drawG (fun w1 => Heap w0 [] w1) (fun i => [8].contains i) mixed (by kernel_rfl) (fun w123 he122 => ?_)
    have H := H.later he122
    refine ⟨H.sel [] (by decide), ?_⟩
    refine lq p0 S (q_move rfl) fun a S => ?_
    refine lq (.int .i64 x72) S (q_move rfl) fun a S => ?_
    obtain ⟨x124, e125, hm⟩ := bind_some hm
    obtain ⟨c126, h127, hat128⟩ := (h0).elem (idx_some e125).2
    obtain ⟨c131, c132, rfl, h133, h134⟩ := h127
    obtain rfl := h133
    obtain ⟨c135, c136, rfl, h137, h138⟩ := h134
    obtain rfl := h137
    obtain ⟨v129, rfl, h130⟩ := rd_list h138
    have hlt := lt_of_idx (idx_some e125).2
    refine lq (ePtr p0 (x72.toNat * 3)) S (q_indexAddr rfl (h0).isSl rfl (idx_some e125).1 hlt Try.underlying24 Try.sizeOf37) fun a S => ?_
    refine lq (.agg #[(.int .i64 x124.1), (.int .i64 x124.2.1), v129]) S (q_loadA (cs := [(.int .i64 x124.1), (.int .i64 x124.2.1), v129]) rfl ((hat128 0 _ rfl).isP) Try.isAgg37 Try.sizeOf37 (fun w1 hC => (fun j u hu => (hat128 j u hu).ext hC.ext))) fun a S => ?_
    refine lq p1 S (q_move rfl) fun a S => ?_
    refine lq (.int .i64 x72) S (q_move rfl) fun a S => ?_
    obtain ⟨x139, e140, hm⟩ := bind_some hm
    obtain ⟨c141, h142, hat143⟩ := (h1).elem (idx_some e140).2
    obtain ⟨c146, c147, rfl, h148, h149⟩ := h142
    obtain rfl := h148
    obtain ⟨c150, c151, rfl, h152, h153⟩ := h149
    obtain rfl := h152
    obtain ⟨v144, rfl, h145⟩ := rd_list h153
    have hlt := lt_of_idx (idx_some e140).2
    refine lq (ePtr p1 (x72.toNat * 3)) S (q_indexAddr rfl (h1).isSl rfl (idx_some e140).1 hlt Try.underlying24 Try.sizeOf37) fun a S => ?_
    refine lq (.agg #[(.int .i64 x139.1), (.int .i64 x139.2.1), v144]) S (q_loadA (cs := [(.int .i64 x139.1), (.int .i64 x139.2.1), v144]) rfl ((hat143 0 _ rfl).isP) Try.isAgg37 Try.sizeOf37 (fun w1 hC => (fun j u hu => (hat143 j u hu).ext hC.ext))) fun a S => ?_
    obtain ⟨x156, e157, hm⟩ := bind_some hm
    refine lx_call (xs := [.tmp 20, .tmp 24]) S trivial (by decide) rfl rfl Try.call17 ((laws_eqVertex_ok ⟨[(.int .i64 x124.1), (.int .i64 x124.2.1), v129], rfl, ⟨[(.int .i64 x124.1)], [(.int .i64 x124.2.1), v129], rfl, rfl, ⟨[(.int .i64 x124.2.1)], [v129], rfl, rfl, ((H.arg h130)).list_rd⟩⟩⟩ ⟨[(.int .i64 x139.1), (.int .i64 x139.2.1), v144], rfl, ⟨[(.int .i64 x139.1)], [(.int .i64 x139.2.1), v144], rfl, rfl, ⟨[(.int .i64 x139.2.1)], [v144], rfl, rfl, ((H.arg h145)).list_rd⟩⟩⟩ e157).mono ?_)
    rintro e w154 ⟨rfl, Hc155⟩
    have H := H.call0 Hc155
    refine ⟨_, rfl, H.sel [] (by decide), fun a S => ?_⟩
    refine lq (.bool (!x156)) S (q_not rfl) fun a S => ?_
    refine lx_nil (thenN ?_)
    refine cond_b S rfl (fun hc159 => ?_) (fun hc159 => ?_)
    ·have hm := ite_t hc159 hm
     refine wp_seq (region_plain ?_)
     refine lq (.bool false) S (q_assign rfl) fun a S => ?_
     refine lx_nil (thenN ?_)
     refine wp_ret (inBlock_ret ?_)
     refine then_ret ?_
     refine then_ret ?_
     refine inBlock_ret ?_
     refine then_ret ?_
     refine then_ret ?_
     obtain rfl := it_brk hm hc120
     have hm := ctl_inr hk117
     obtain rfl := Option.some.inj hm
     exact leave1 S rfl rfl ⟨rfl, H⟩
    ·have hm := ite_f hc159 hm
     refine wp_skip ?_
     refine inBlock_norm ?_
     refine thenN ?_
     refine region_plain ?_
     refine lq (.int .i64 x72) S (q_move rfl) fun a S => ?_
     refine lq (.int .i64 (W (x72 + (1 : Int)))) S (q_add rfl rfl) fun a S => ?_
     refine lq (.int .i64 (W (x72 + (1 : Int)))) S (q_assign rfl) fun a S => ?_
     refine lx_nil ?_
     exact ⟨m118, Nat.lt_succ_self _, (W (x72 + (1 : Int))), S.sub ⟨rfl, rfl, rfl, trivial⟩, H, it_cont hm hc120⟩
   ·have hm := ite_f hc121 hm
    refine wp_exit ?_
    refine then_exit ?_
    refine then_exit ?_
    refine inBlock_exit ?_
    obtain rfl := it_brk hm hc120
    exact ⟨S.sub trivial, H, rfl⟩

/-- laws.markInt64S -/
def laws_markInt64S_m (fuel : Nat) (a0 : (List Int)) (a1 : Int) : Option (Int × (List Int)) :=
  (iter (fun (s : (List Int) × (Int) × (Int)) => (match s with | (xs38, x39, x40) => (if (decide (x40 < (xs38.length : Int))) = true then (idx xs38 x40).bind fun _ => some (.inl ((xs38.set x40.toNat x39), (W (x39 + (1 : Int))), (W (x40 + (1 : Int))))) else some (.inr (.inl (x39, xs38)))) : Option (((List Int) × (Int) × (Int)) ⊕ ((Int × (List Int)) ⊕ (Int × (List Int)))))) fuel (a0, a1, (0 : Int))).bind fun res50 => ctl (β := Int × (List Int)) (ρ := Int × (List Int)) (τ := Int × (List Int)) res50 (fun (x48, xs49) => some ((x48, xs49))) (fun q => some (q))
set_option maxRecDepth 20000 in
theorem laws_markInt64S_ok [dr : Dr] {w0 : World} {fuel : Nat} {p0 : Value} {a0 : (List Int)} {a1 : Int} {w00 : World} {L : List Asrt} {r : Int × (List Int)} (H : Heap w00 (oA (rList (rInt .i64)) p0 a0 :: L) w0) (hm : laws_markInt64S_m fuel a0 a1 = some r) :
  Calls Try.prog 18 #[p0, .int .i64 a1] w0 fun e w => e = .returned (.int .i64 r.1) ∧ Heap w00 (oA (rList (rInt .i64)) p0 r.2 :: L) w := by
 unfold laws_markInt64S_m at hm
 refine enter (args := [p0, .int .i64 a1]) Try.func18 rfl 19 rfl (Nat.le_of_ble_eq_true rfl) (fun a S => ?_)
 refine wp_seq (region_plain ?_)
 refine lq (.int .i64 (0 : Int)) S (q_assign rfl) fun a S => ?_
 refine lx_nil (thenN ?_)
 refine wp_seq (wp_seq (region_plain ?_))
 refine lq (.int .i64 (0 : Int)) S (q_assign rfl) fun a S => ?_
 refine lx_nil (thenN ?_)
 obtain ⟨res50, hit51, hk54⟩ := bind_some hm
 obtain ⟨f52, hf53, hit51⟩ := iter_name hit51
 refine block_loop (fun a w => ∃ (x48 : Int) (xs49 : List Int), Slots a 19 [(1, (.int .i64 x48))] ∧ Heap w00 (oA (rList (rInt .i64)) p0 xs49 :: L) w ∧ res50 = .inl (x48, xs49)) ?_ ?_
 ·rintro a w ⟨x48, xs49, S, H, rfl⟩
  have hm := ctl_inl hk54
  refine thenN ?_
  refine wp_seq (region_plain ?_)
  refine lq (.int .i64 x48) S (q_move rfl) fun a S => ?_
  refine lq (.int .i64 x48) S (q_assign rfl) fun a S => ?_
  refine lx_nil (thenN ?_)
  refine wp_ret ?_
  obtain rfl := Option.some.inj hm
  exact leave1 S rfl rfl ⟨rfl, H⟩
 ·skip
  refine loop_ghost (fun n a w => ∃ (xs38 : List Int) (x39 : Int) (x40 : Int), Slots a 19 [(0, p0), (1, (.int .i64 x39)), (5, (.int .i64 x40))] ∧ Heap w00 (oA (rList (rInt .i64)) p0 xs38 :: L) w ∧ iter f52 n (xs38, x39, x40) = some res50) _ ⟨a0, a1, (0 : Int), S.sub ⟨rfl, rfl, rfl, trivial⟩, H, hit51⟩ ?_
  rintro n a w ⟨xs38, x39, x40, S, H, hit51⟩
  obtain ⟨m55, o56, rfl, hm, hc57⟩ := iter_step hit51
  rw [hf53] at hm
  refine wp_seq (wp_seq (region_plain ?_))
  refine lq (.int .i64 x40) S (q_move rfl) fun a S => ?_
  refine lq p0 S (q_move rfl) fun a S => ?_
  refine lq (.int .i64 (xs38.length : Int)) S (q_lenSl rfl (H.isSl 0 rfl) rfl Try.underlying32) fun a S => ?_
  refine lq (.bool (decide (x40 < (xs38.length : Int)))) S (q_lss rfl rfl) fun a S => ?_
  refine lx_nil (thenN ?_)
  refine cond_b S rfl (fun hc58 => ?_) (fun hc58 => ?_)
  ·have hm := ite_t hc58 hm
   refine wp_skip (thenN ?_)
   refine wp_seq ?_
   refine wp_block ?_
   refine wp_seq (region_plain ?_)
   refine lq p0 S (q_move rfl) fun a S => ?_
   refine lq (.int .i64 x40) S (q_move rfl) fun a S => ?_
   refine lq (.int .i64 x39) S (q_move rfl) fun a S => ?_
   obtain ⟨x59, e60, hm⟩ := bind_some hm
   have hlt := lt_of_idx (idx_some e60).2
   refine lq (ePtr p0 (x40.toNat * 1)) S (q_indexAddr rfl (H.isSl 0 rfl) rfl (idx_some e60).1 hlt Try.underlying32 Try.sizeOf2) fun a S => ?_
   refine lx_storeElem (r := (rInt .i64)) (us := [(.int .i64 x39)]) (off := 0) (e' := x39) S trivial rfl H.putE (ev_zero rfl) rfl (idx_some e60).2 rfl Try.sizeOf2 (Nat.le_of_ble_eq_true rfl) (List.forall_mem_cons.2 ⟨rfl, (List.forall_mem_nil _)⟩) (Upd.full rfl (fun w G hG => by cases (show G = [] from hG); exact ⟨rfl, rfl⟩)) (fun w61 H => ⟨trivial, fun a S => ?_⟩)
   refine lx_nil (thenN ?_)
   refine region_plain ?_
   refine lq (.int .i64 x39) S (q_move rfl) fun a S => ?_
   refine lq (.int .i64 (W (x39 + (1 : Int)))) S (q_add rfl rfl) fun a S => ?_
   refine lq (.int .i64 (W (x39 + (1 : Int)))) S (q_assign rfl) fun a S => ?_
   refine lx_nil ?_
   refine inBlock_norm ?_
   refine thenN ?_
   refine region_plain ?_
   refine lq (.int .i64 x40) S (q_move rfl) fun a S => ?_
   refine lq (.int .i64 (W (x40 + (1 : Int)))) S (q_add rfl rfl) fun a S => ?_
   refine lq (.int .i64 (W (x40 + (1 : Int)))) S (q_assign rfl) fun a S => ?_
   refine lx_nil ?_
   exact ⟨m55, Nat.lt_succ_self _, (xs38.set x40.toNat x39), (W (x39 + (1 : Int))), (W (x40 + (1 : Int))), S.sub ⟨rfl, rfl, rfl, trivial⟩, H, it_cont hm hc57⟩
  ·have hm := ite_f hc58 hm
   refine wp_exit ?_
   refine then_exit ?_
   refine then_exit ?_
   refine inBlock_exit ?_
   obtain rfl := it_brk hm hc57
   exact ⟨x39, xs38, S.sub ⟨rfl, trivial⟩, H, rfl⟩

/-- laws.markVertexS -/
def laws_markVertexS_m (fuel : Nat) (a0 : (List Timpl_Vertex)) (a1 : Int) : Option (Int × (List Timpl_Vertex)) :=
  (iter (fun (s : (List Timpl_Vertex) × (Int) × (Int)) => (match s with | (xs62, x63, x64) => (if (decide (x64 < (xs62.length : Int))) = true then (idx xs62 x64).bind fun x107 => (idx (xs62.set x64.toNat (x63, x107.2.1, x107.2.2)) x64).bind fun x110 => (idx ((xs62.set x64.toNat (x63, x107.2.1, x107.2.2)).set x64.toNat (x110.1, (W (x63 + (1 : Int))), x110.2.2)) x64).bind fun x113 => (laws_markInt64S_m fuel x113.2.2 (W ((W (x63 + (1 : Int))) + (1 : Int)))).bind fun x130 => some (.inl ((((xs62.set x64.toNat (x63, x107.2.1, x107.2.2)).set x64.toNat (x110.1, (W (x63 + (1 : Int))), x110.2.2)).set x64.toNat (x113.1, x113.2.1, x130.2)), x130.1, (W (x64 + (1 : Int))))) else some (.inr (.inl (x63, xs62)))) : Option (((List Timpl_Vertex) × (Int) × (Int)) ⊕ ((Int × (List Timpl_Vertex)) ⊕ (Int × (List Timpl_Vertex)))))) fuel (a0, a1, (0 : Int))).bind fun res98 => ctl (β := Int × (List Timpl_Vertex)) (ρ := Int × (List Timpl_Vertex)) (τ := Int × (List Timpl_Vertex)) res98 (fun (x96, xs97) => some ((x96, xs97))) (fun q => some (q))
set_option maxRecDepth 20000 in
theorem laws_markVertexS_ok [dr : Dr] {w0 : World} {fuel : Nat} {p0 : Value} {a0 : (List Timpl_Vertex)} {a1 : Int} {w00 : World} {L : List Asrt} {r : Int × (List Timpl_Vertex)} (H : Heap w00 (oA (rList Rimpl_Vertex) p0 a0 :: L) w0) (hm : laws_markVertexS_m fuel a0 a1 = some r) :
  Calls Try.prog 9 #[p0, .int .i64 a1] w0 fun e w => e = .returned (.int .i64 r.1) ∧ Heap w00 (oA (rList Rimpl_Vertex) p0 r.2 :: L) w := by
 unfold laws_markVertexS_m at hm
 refine enter (args := [p0, .int .i64 a1]) Try.func9 rfl 34 rfl (Nat.le_of_ble_eq_true rfl) (fun a S => ?_)
 refine wp_seq (region_plain ?_)
 refine lq (.int .i64 (0 : Int)) S (q_assign rfl) fun a S => ?_
 refine lx_nil (thenN ?_)
 refine wp_seq (wp_seq (region_plain ?_))
 refine lq (.int .i64 (0 : Int)) S (q_assign rfl) fun a S => ?_
 refine lx_nil (thenN ?_)
 obtain ⟨res98, hit99, hk102⟩ := bind_some hm
 obtain ⟨f100, hf101, hit99⟩ := iter_name hit99
 refine block_loop (fun a w => ∃ (x96 : Int) (xs97 : List Timpl_Vertex), Slots a 34 [(1, (.int .i64 x96))] ∧ Heap w00 (oA (rList Rimpl_Vertex) p0 xs97 :: L) w ∧ res98 = .inl (x96, xs97)) ?_ ?_
 ·rintro a w ⟨x96, xs97, S, H, rfl⟩
  have hm := ctl_inl hk102
  refine thenN ?_
  refine wp_seq (region_plain ?_)
  refine lq (.int .i64 x96) S (q_move rfl) fun a S => ?_
  refine lq (.int .i64 x96) S (q_assign rfl) fun a S => ?_
  refine lx_nil (thenN ?_)
  refine wp_ret ?_
  obtain rfl := Option.some.inj hm
  exact leave1 S rfl rfl ⟨rfl, H⟩
 ·skip
  refine loop_ghost (fun n a w => ∃ (xs62 : List Timpl_Vertex) (x63 : Int) (x64 : Int), Slots a 34 [(0, p0), (1, (.int .i64 x63)), (5, (.int .i64 x64))] ∧ Heap w00 (oA (rList Rimpl_Vertex) p0 xs62 :: L) w ∧ iter f100 n (xs62, x63, x64) = some res98) _ ⟨a0, a1, (0 : Int), S.sub ⟨rfl, rfl, rfl, trivial⟩, H, hit99⟩ ?_
  rintro n a w ⟨xs62, x63, x64, S, H, hit99⟩
  obtain ⟨m103, o104, rfl, hm, hc105⟩ := iter_step hit99
  rw [hf101] at hm
  refine wp_seq (wp_seq (region_plain ?_))
  refine lq (.int .i64 x64) S (q_move rfl) fun a S => ?_
  refine lq p0 S (q_move rfl) fun a S => ?_
  refine lq (.int .i64 (xs62.length : Int)) S (q_lenSl rfl (H.isSl 0 rfl) rfl Try.underlying24) fun a S => ?_
  refine lq (.bool (decide (x64 < (xs62.length : Int)))) S (q_lss rfl rfl) fun a S => ?_
  refine lx_nil (thenN ?_)
  refine cond_b S rfl (fun hc106 => ?_) (fun hc106 => ?_)
  ·have hm := ite_t hc106 hm
   refine wp_skip (thenN ?_)
   refine wp_seq ?_
   refine wp_block ?_
   refine wp_seq (region_plain ?_)
   refine lq p0 S (q_move rfl) fun a S => ?_
   refine lq (.int .i64 x64) S (q_move rfl) fun a S => ?_
   refine lq (.int .i64 x63) S (q_move rfl) fun a S => ?_
   obtain ⟨x107, e108, hm⟩ := bind_some hm
   have hlt := lt_of_idx (idx_some e108).2
   refine lq (ePtr p0 (x64.toNat * 3)) S (q_indexAddr rfl (H.isSl 0 rfl) rfl (idx_some e108).1 hlt Try.underlying24 Try.sizeOf37) fun a S => ?_
   refine lq (pAdd (ePtr p0 (x64.toNat * 3)) 0) S (q_fieldAddr' 0 2 rfl (((H.isSl 0 rfl)).ptr (lt_of_idx (idx_some e108).2) _) Try.underlying37 rfl Try.sizeOf2) fun a S => ?_
   refine lx_storeElem (r := Rimpl_Vertex) (us := [(.int .i64 x63)]) (off := 0) (e' := (x63, x107.2.1, x107.2.2)) S trivial rfl H.putE rfl rfl (idx_some e108).2 rfl Try.sizeOf2 (Nat.le_of_ble_eq_true rfl) (List.forall_mem_cons.2 ⟨rfl, (List.forall_mem_nil _)⟩) (Upd.fst (off := 0) (Nat.le_of_ble_eq_true rfl) (Upd.full rfl (fun w G hG => by cases (show G = [] from hG); exact ⟨rfl, rfl⟩))) (fun w109 H => ⟨trivial, fun a S => ?_⟩)
   refine lx_nil (thenN ?_)
   refine wp_seq (region_plain ?_)
   refine lq (.int .i64 x63) S (q_move rfl) fun a S => ?_
   refine lq (.int .i64 (W (x63 + (1 : Int)))) S (q_add rfl rfl) fun a S => ?_
   refine lq (.int .i64 (W (x63 + (1 : Int)))) S (q_assign rfl) fun a S => ?_
   refine lx_nil (thenN ?_)
   refine wp_seq (region_plain ?_)
   refine lq p0 S (q_move rfl) fun a S => ?_
   refine lq (.int .i64 x64) S (q_move rfl) fun a S => ?_
   refine lq (.int .i64 (W (x63 + (1 : Int)))) S (q_move rfl) fun a S => ?_
   obtain ⟨x110, e111, hm⟩ := bind_some hm
   have hlt := lt_of_idx (idx_some e111).2
   refine lq (ePtr p0 (x64.toNat * 3)) S (q_indexAddr rfl (H.isSl 0 rfl) rfl (idx_some e111).1 hlt Try.underlying24 Try.sizeOf37) fun a S => ?_
   refine lq (pAdd (ePtr p0 (x64.toNat * 3)) 1) S (q_fieldAddr' 1 2 rfl (((H.isSl 0 rfl)).ptr (lt_of_idx (idx_some e111).2) _) Try.underlying37 rfl Try.sizeOf2) fun a S => ?_
   refine lx_storeElem (r := Rimpl_Vertex) (us := [(.int .i64 (W (x63 + (1 : Int))))]) (off := 1) (e' := (x110.1, (W (x63 + (1 : Int))), x110.2.2)) S trivial rfl H.putE rfl rfl (idx_some e111).2 rfl Try.sizeOf2 (Nat.le_of_ble_eq_true rfl) (List.forall_mem_cons.2 ⟨rfl, (List.forall_mem_nil _)⟩) (Upd.snd (off := 0) (Upd.fst (off := 0) (Nat.le_of_ble_eq_true rfl) (Upd.full rfl (fun w G hG => by cases (show G = [] from hG); exact ⟨rfl, rfl⟩)))) (fun w112 H => ⟨trivial, fun a S => ?_⟩)
   refine lx_nil (thenN ?_)
   refine wp_seq (region_plain ?_)
   refine lq (.int .i64 (W (x63 + (1 : Int)))) S (q_move rfl) fun a S => ?_
   refine lq (.int .i64 (W ((W (x63 + (1 : Int))) + (1 : Int)))) S (q_add rfl rfl) fun a S => ?_
   refine lq (.int .i64 (W ((W (x63 + (1 : Int))) + (1 : Int)))) S (q_assign rfl) fun a S => ?_
   refine lx_nil (thenN ?_)
   refine region_plain ?_
   refine lq p0 S (q_move rfl) fun a S => ?_
   refine lq (.int .i64 x64) S (q_move rfl) fun a S => ?_
   obtain ⟨x113, e114, hm⟩ := bind_some hm
   have hlt := lt_of_idx (idx_some e114).2
   refine lq (ePtr p0 (x64.toNat * 3)) S (q_indexAddr rfl (H.isSl 0 rfl) rfl (idx_some e114).1 hlt Try.underlying24 Try.sizeOf37) fun a S => ?_
   refine lq (pAdd (ePtr p0 (x64.toNat * 3)) 2) S (q_fieldAddr' 2 32 rfl (((H.isSl 0 rfl)).ptr (lt_of_idx (idx_some e114).2) _) Try.underlying37 rfl Try.sizeOf32) fun a S => ?_
   obtain ⟨c115, h116, hat117⟩ := (H.rdAt 0 rfl).elem (idx_some e114).2
   obtain ⟨c120, c121, rfl, h122, h123⟩ := h116
   obtain rfl := h122
   obtain ⟨c124, c125, rfl, h126, h127⟩ := h123
   obtain rfl := h126
   obtain ⟨v118, rfl, h119⟩ := rd_list h127
   refine lx_e v118 S trivial (by decide) rfl trivial (q_load1 rfl Try.isAgg32 (by rintro _ rfl; exact (At.of_add (m := 2) (j := 0) (hat117 2 _ rfl)))) (fun a S => ?_)
   refine lq (.int .i64 (W ((W (x63 + (1 : Int))) + (1 : Int)))) S (q_move rfl) fun a S => ?_
   obtain ⟨x130, e131, hm⟩ := bind_some hm
   obtain ⟨u132, hat133, H⟩ := H.lend (idx_some e114).2 (Lend.snd (off := 1) (Lend.snd (off := 0) (Lend.here)))
   obtain rfl : v118 = u132 := At.eq (hat117 2 _ rfl) hat133
   refine lx_call (xs := [.tmp 30, .tmp 31]) S trivial (by decide) rfl rfl Try.call18 ((laws_markInt64S_ok H  e131).mono ?_)
   rintro e w128 ⟨rfl, H⟩
   have H : Heap w00 (oA (rList Rimpl_Vertex) p0 (((xs62.set x64.toNat (x63, x107.2.1, x107.2.2)).set x64.toNat (x110.1, (W (x63 + (1 : Int))), x110.2.2)).set x64.toNat (x113.1, x113.2.1, x130.2)) :: L) w128 := H.back
   refine ⟨_, rfl, trivial, fun a S => ?_⟩
   refine lq (.int .i64 x130.1) S (q_assign rfl) fun a S => ?_
   refine lx_nil ?_
   refine inBlock_norm ?_
   refine thenN ?_
   refine region_plain ?_
   refine lq (.int .i64 x64) S (q_move rfl) fun a S => ?_
   refine lq (.int .i64 (W (x64 + (1 : Int)))) S (q_add rfl rfl) fun a S => ?_
   refine lq (.int .i64 (W (x64 + (1 : Int)))) S (q_assign rfl) fun a S => ?_
   refine lx_nil ?_
   exact ⟨m103, Nat.lt_succ_self _, (((xs62.set x64.toNat (x63, x107.2.1, x107.2.2)).set x64.toNat (x110.1, (W (x63 + (1 : Int))), x110.2.2)).set x64.toNat (x113.1, x113.2.1, x130.2)), x130.1, (W (x64 + (1 : Int))), S.sub ⟨rfl, rfl, rfl, trivial⟩, H, it_cont hm hc105⟩
  ·have hm := ite_f hc106 hm
   refine wp_exit ?_
   refine then_exit ?_
   refine then_exit ?_
   refine inBlock_exit ?_
   obtain rfl := it_brk hm hc105
   exact ⟨x63, xs62, S.sub ⟨rfl, trivial⟩, H, rfl⟩

/-- laws.heldInt64S -/
def laws_heldInt64S_m (fuel : Nat) (a0 : (List Int)) (a1 : Int) : Option (Int) :=
  (iter (fun (s : (Int) × (Int)) => (match s with | (x40, x41) => (if (decide (x41 < (a0.length : Int))) = true then (idx a0 x41).bind fun x61 => (if (x61 != x40) = true then some (.inr (.inr (-1 : Int))) else some (.inl ((W (x40 + (1 : Int))), (W (x41 + (1 : Int)))))) else some (.inr (.inl (x40)))) : Option (((Int) × (Int)) ⊕ ((Int) ⊕ (Int))))) fuel (a1, (0 : Int))).bind fun res52 => ctl (β := Int) (ρ := Int) (τ := Int) res52 (fun (x51) => some (x51)) (fun q => some (q))
set_option maxRecDepth 20000 in
theorem laws_heldInt64S_ok [dr : Dr] {w0 : World} {fuel : Nat} {p0 : Value} {a0 : (List Int)} {a1 : Int} {r : Int} (h0 : Rd (rList (rInt .i64)) w0 p0 a0) (hm : laws_heldInt64S_m fuel a0 a1 = some r) :
  Calls Try.prog 19 #[p0, .int .i64 a1] w0 fun e w => e = .returned (.int .i64 r) ∧ Heap w0 [] w := by
 unfold laws_heldInt64S_m at hm
 have H := Heap.start w0
 refine enter (args := [p0, .int .i64 a1]) Try.func19 rfl 21 rfl (Nat.le_of_ble_eq_true rfl) (fun a S => ?_)
 refine wp_seq (region_plain ?_)
 refine lq (.int .i64 (0 : Int)) S (q_assign rfl) fun a S => ?_
 refine lx_nil (thenN ?_)
 refine wp_seq (wp_seq (region_plain ?_))
 refine lq (.int .i64 (0 : Int)) S (q_assign rfl) fun a S => ?_
 refine lx_nil (thenN ?_)
 obtain ⟨res52, hit53, hk56⟩ := bind_some hm
 obtain ⟨f54, hf55, hit53⟩ := iter_name hit53
 refine block_loop (fun a w => ∃ (x51 : Int), Slots a 21 [(1, (.int .i64 x51))] ∧ Heap w0 [] w ∧ res52 = .inl (x51)) ?_ ?_
 ·rintro a w ⟨x51, S, H, rfl⟩
  have hm := ctl_inl hk56
  refine thenN ?_
  refine wp_seq (region_plain ?_)
  refine lq (.int .i64 x51) S (q_move rfl) fun a S => ?_
  refine lq (.int .i64 x51) S (q_assign rfl) fun a S => ?_
  refine lx_nil (thenN ?_)
  refine wp_ret ?_
  obtain rfl := Option.some.inj hm
  exact leave1 S rfl rfl ⟨rfl, H⟩
 ·skip
  refine loop_ghost (fun n a w => ∃ (x40 : Int) (x41 : Int), Slots a 21 [(0, p0), (1, (.int .i64 x40)), (5, (.int .i64 x41))] ∧ Heap w0 [] w ∧ iter f54 n (x40, x41) = some res52) _ ⟨a1, (0 : Int), S.sub ⟨rfl, rfl, rfl, trivial⟩, H, hit53⟩ ?_
  rintro n a w ⟨x40, x41, S, H, hit53⟩
  obtain ⟨m57, o58, rfl, hm, hc59⟩ := iter_step hit53
  rw [hf55] at hm
  refine wp_seq (wp_seq (region_plain ?_))
  refine lq (.int .i64 x41) S (q_move rfl) fun a S => ?_
  refine lq p0 S (q_move rfl) fun a S => ?_
  refine lq (.int .i64 (a0.length : Int)) S (q_lenSl rfl (h0).isSl rfl Try.underlying32) fun a S => ?_
  refine lq (.bool (decide (x41 < (a0.length : Int)))) S (q_lss rfl rfl) fun a S => ?_
  refine lx_nil (thenN ?_)
  refine cond_b S rfl (fun hc60 => ?_) (fun hc60 => ?_)
  ·have hm := ite_t hc60 hm
   refine wp_skip (thenN ?_)
   refine wp_seq ?_
   refine wp_block ?_
   refine wp_seq (wp_seq (region_plain ?_))
   refine lq p0 S (q_move rfl) fun a S => ?_
   refine lq (.int .i64 x41) S (q_move rfl) fun a S => ?_
   obtain ⟨x61, e62, hm⟩ := bind_some hm
   obtain ⟨c63, h64, hat65⟩ := (h0).elem (idx_some e62).2
   obtain rfl := h64
   have hlt := lt_of_idx (idx_some e62).2
   refine lq (ePtr p0 (x41.toNat * 1)) S (q_indexAddr rfl (h0).isSl rfl (idx_some e62).1 hlt Try.underlying32 Try.sizeOf2) fun a S => ?_
   refine lx_e (.int .i64 x61) S trivial (by decide) rfl trivial (q_load1 rfl Try.isAgg2 (by rintro _ rfl; exact ((hat65 0 _ rfl).ext H.ext))) (fun a S => ?_)
   refine lq (.int .i64 x40) S (q_move rfl) fun a S => ?_
   refine lq (.bool (x61 != x40)) S (q_neq rfl rfl) fun a S => ?_
   refine lx_nil (thenN ?_)
   refine cond_b S rfl (fun hc66 => ?_) (fun hc66 => ?_)
   ·have hm := ite_t hc66 hm
    refine wp_seq (region_plain ?_)
    refine lq (.int .i64 (-1 : Int)) S (q_assign rfl) fun a S => ?_
    refine lx_nil (thenN ?_)
    refine wp_ret (then_ret ?_)
    refine inBlock_ret ?_
    refine then_ret ?_
    refine then_ret ?_
    refine inBlock_ret ?_
    refine then_ret ?_
    refine then_ret ?_
    obtain rfl := it_brk hm hc59
    have hm := ctl_inr hk56
    obtain rfl := Option.some.inj hm
    exact leave1 S rfl rfl ⟨rfl, H⟩
   ·have hm := ite_f hc66 hm
    refine wp_skip (thenN ?_)
    refine region_plain ?_
    refine lq (.int .i64 x40) S (q_move rfl) fun a S => ?_
    refine lq (.int .i64 (W (x40 + (1 : Int)))) S (q_add rfl rfl) fun a S => ?_
    refine lq (.int .i64 (W (x40 + (1 : Int)))) S (q_assign rfl) fun a S => ?_
    refine lx_nil ?_
    refine inBlock_norm ?_
    refine thenN ?_
    refine region_plain ?_
    refine lq (.int .i64 x41) S (q_move rfl) fun a S => ?_
    refine lq (.int .i64 (W (x41 + (1 : Int)))) S (q_add rfl rfl) fun a S => ?_
    refine lq (.int .i64 (W (x41 + (1 : Int)))) S (q_assign rfl) fun a S => ?_
    refine lx_nil ?_
    exact ⟨m57, Nat.lt_succ_self _, (W (x40 + (1 : Int))), (W (x41 + (1 : Int))), S.sub ⟨rfl, rfl, rfl, trivial⟩, H, it_cont hm hc59⟩
  ·have hm := ite_f hc60 hm
   refine wp_exit ?_
   refine then_exit ?_
   refine then_exit ?_
   refine inBlock_exit ?_
   obtain rfl := it_brk hm hc59
   exact ⟨x40, S.sub ⟨rfl, trivial⟩, H, rfl⟩

/-- laws.heldVertexS -/
def laws_heldVertexS_m (fuel : Nat) (a0 : (List Timpl_Vertex)) (a1 : Int) : Option (Int) :=
  (iter (fun (s : (Int) × (Int)) => (match s with | (x87, x88) => (if (decide (x88 < (a0.length : Int))) = true then (idx a0 x88).bind fun x155 => (if (x155.1 != x87) = true then some (.inr (.inr (-1 : Int))) else (idx a0 x88).bind fun x171 => (if (x171.2.1 != (W (x87 + (1 : Int)))) = true then some (.inr (.inr (-1 : Int))) else (idx a0 x88).bind fun x187 => (laws_heldInt64S_m fuel x187.2.2 (W ((W (x87 + (1 : Int))) + (1 : Int)))).bind fun x204 => (if (decide (x204 < (0 : Int))) = true then some (.inr (.inr (-1 : Int))) else some (.inl (x204, (W (x88 + (1 : Int)))))))) else some (.inr (.inl (x87)))) : Option (((Int) × (Int)) ⊕ ((Int) ⊕ (Int))))) fuel (a1, (0 : Int))).bind fun res146 => ctl (β := Int) (ρ := Int) (τ := Int) res146 (fun (x145) => some (x145)) (fun q => some (q))
set_option maxRecDepth 20000 in
theorem laws_heldVertexS_ok [dr : Dr] {w0 : World} {fuel : Nat} {p0 : Value} {a0 : (List Timpl_Vertex)} {a1 : Int} {r : Int} (h0 : Rd (rList Rimpl_Vertex) w0 p0 a0) (hm : laws_heldVertexS_m fuel a0 a1 = some r) :
  Calls Try.prog 10 #[p0, .int .i64 a1] w0 fun e w => e = .returned (.int .i64 r) ∧ Heap w0 [] w := by
 unfold laws_heldVertexS_m at hm
 have H := Heap.start w0
 refine enter (args := [p0, .int .i64 a1]) Try.func10 rfl 40 rfl (Nat.le_of_ble_eq_true rfl) (fun a S => ?_)
 refine wp_seq (region_plain ?_)
 refine lq (.int .i64 (0 : Int)) S (q_assign rfl) fun a S => ?_
 refine lx_nil (thenN ?_)
 refine wp_seq (wp_seq (region_plain ?_))
 refine lq (.int .i64 (0 : Int)) S (q_assign rfl) fun a S => ?_
 refine lx_nil (thenN ?_)
 obtain ⟨res146, hit147, hk150⟩ := bind_some hm
 obtain ⟨f148, hf149, hit147⟩ := iter_name hit147
 refine block_loop (fun a w => ∃ (x145 : Int), Slots a 40 [(1, (.int .i64 x145))] ∧ Heap w0 [] w ∧ res146 = .inl (x145)) ?_ ?_
 ·rintro a w ⟨x145, S, H, rfl⟩
  have hm := ctl_inl hk150
  refine thenN ?_
  refine wp_seq (region_plain ?_)
  refine lq (.int .i64 x145) S (q_move rfl) fun a S => ?_
  refine lq (.int .i64 x145) S (q_assign rfl) fun a S => ?_
  refine lx_nil (thenN ?_)
  refine wp_ret ?_
  obtain rfl := Option.some.inj hm
  exact leave1 S rfl rfl ⟨rfl, H⟩
 ·skip
  refine loop_ghost (fun n a w => ∃ (x87 : Int) (x88 : Int), Slots a 40 [(0, p0), (1, (.int .i64 x87)), (5, (.int .i64 x88))] ∧ Heap w0 [] w ∧ iter f148 n (x87, x88) = some res146) _ ⟨a1, (0 : Int), S.sub ⟨rfl, rfl, rfl, trivial⟩, H, hit147⟩ ?_
  rintro n a w ⟨x87, x88, S, H, hit147⟩
  obtain ⟨m151, o152, rfl, hm, hc153⟩ := iter_step hit147
  rw [hf149] at hm
  refine wp_seq (wp_seq (region_plain ?_))
  refine lq (.int .i64 x88) S (q_move rfl) fun a S => ?_
  refine lq p0 S (q_move rfl) fun a S => ?_
  refine lq (.int .i64 (a0.length : Int)) S (q_lenSl rfl (h0).isSl rfl Try.underlying24) fun a S => ?_
  refine lq (.bool (decide (x88 < (a0.length : Int)))) S (q_lss rfl rfl) fun a S => ?_
  refine lx_nil (thenN ?_)
  refine cond_b S rfl (fun hc154 => ?_) (fun hc154 => ?_)
  ·have hm := ite_t hc154 hm
   refine wp_skip (thenN ?_)
   refine wp_seq ?_
   refine wp_block ?_
   refine wp_seq (wp_seq (region_plain ?_))
   refine lq p0 S (q_move rfl) fun a S => ?_
   refine lq (.int .i64 x88) S (q_move rfl) fun a S => ?_
   obtain ⟨x155, e156, hm⟩ := bind_some hm
   obtain ⟨c157, h158, hat159⟩ := (h0).elem (idx_some e156).2
   obtain ⟨c162, c163, rfl, h164, h165⟩ := h158
   obtain rfl := h164
   obtain ⟨c166, c167, rfl, h168, h169⟩ := h165
   obtain rfl := h168
   obtain ⟨v160, rfl, h161⟩ := rd_list h169
   have hlt := lt_of_idx (idx_some e156).2
   refine lq (ePtr p0 (x88.toNat * 3)) S (q_indexAddr rfl (h0).isSl rfl (idx_some e156).1 hlt Try.underlying24 Try.sizeOf37) fun a S => ?_
   refine lq (pAdd (ePtr p0 (x88.toNat * 3)) 0) S (q_fieldAddr' 0 2 rfl ((hat159 0 _ rfl).isP) Try.underlying37 rfl Try.sizeOf2) fun a S => ?_
   refine lx_e (.int .i64 x155.1) S trivial (by decide) rfl trivial (q_load1 rfl Try.isAgg2 (by rintro _ rfl; exact (At.of_add (m := 0) (j := 0) ((hat159 0 _ rfl).ext H.ext)))) (fun a S => ?_)
   refine lq (.int .i64 x87) S (q_move rfl) fun a S => ?_
   refine lq (.bool (x155.1 != x87)) S (q_neq rfl rfl) fun a S => ?_
   refine lx_nil (thenN ?_)
   refine cond_b S rfl (fun hc170 => ?_) (fun hc170 => ?_)
   ·have hm := ite_t hc170 hm
    refine wp_seq (region_plain ?_)
    refine lq (.int .i64 (-1 : Int)) S (q_assign rfl) fun a S => ?_
    refine lx_nil (thenN ?_)
    refine wp_ret (then_ret ?_)
    refine inBlock_ret ?_
    refine then_ret ?_
    refine then_ret ?_
    refine inBlock_ret ?_
    refine then_ret ?_
    refine then_ret ?_
    obtain rfl := it_brk hm hc153
    have hm := ctl_inr hk150
    obtain rfl := Option.some.inj hm
    exact leave1 S rfl rfl ⟨rfl, H⟩
   ·have hm := ite_f hc170 hm
    refine wp_skip (thenN ?_)
    refine wp_seq (region_plain ?_)
    refine lq (.int .i64 x87) S (q_move rfl) fun a S => ?_
    refine lq (.int .i64 (W (x87 + (1 : Int)))) S (q_add rfl rfl) fun a S => ?_
    refine lq (.int .i64 (W (x87 + (1 : Int)))) S (q_assign rfl) fun a S => ?_
    refine lx_nil (thenN ?_)
    refine wp_seq (wp_seq (region_plain ?_))
    refine lq p0 S (q_move rfl) fun a S => ?_
    refine lq (.int .i64 x88) S (q_move rfl) fun a S => ?_
    obtain ⟨x171, e172, hm⟩ := bind_some hm
    obtain ⟨c173, h174, hat175⟩ := (h0).elem (idx_some e172).2
    obtain ⟨c178, c179, rfl, h180, h181⟩ := h174
    obtain rfl := h180
    obtain ⟨c182, c183, rfl, h184, h185⟩ := h181
    obtain rfl := h184
    obtain ⟨v176, rfl, h177⟩ := rd_list h185
    have hlt := lt_of_idx (idx_some e172).2
    refine lq (ePtr p0 (x88.toNat * 3)) S (q_indexAddr rfl (h0).isSl rfl (idx_some e172).1 hlt Try.underlying24 Try.sizeOf37) fun a S => ?_
    refine lq (pAdd (ePtr p0 (x88.toNat * 3)) 1) S (q_fieldAddr' 1 2 rfl ((hat175 0 _ rfl).isP) Try.underlying37 rfl Try.sizeOf2) fun a S => ?_
    refine lx_e (.int .i64 x171.2.1) S trivial (by decide) rfl trivial (q_load1 rfl Try.isAgg2 (by rintro _ rfl; exact (At.of_add (m := 1) (j := 0) ((hat175 1 _ rfl).ext H.ext)))) (fun a S => ?_)
    refine lq (.int .i64 (W (x87 + (1 : Int)))) S (q_move rfl) fun a S => ?_
    refine lq (.bool (x171.2.1 != (W (x87 + (1 : Int))))) S (q_neq rfl rfl) fun a S => ?_
    refine lx_nil (thenN ?_)
    refine cond_b S rfl (fun hc186 => ?_) (fun hc186 => ?_)
    ·have hm := ite_t hc186 hm
     refine wp_seq (region_plain ?_)
     refine lq (.int .i64 (-1 : Int)) S (q_assign rfl) fun a S => ?_
     refine lx_nil (thenN ?_)
     refine wp_ret (then_ret ?_)
     refine inBlock_ret ?_
     refine then_ret ?_
     refine then_ret ?_
     refine inBlock_ret ?_
     refine then_ret ?_
     refine then_ret ?_
     obtain rfl := it_brk hm hc153
     have hm := ctl_inr hk150
     obtain rfl := Option.some.inj hm
     exact leave1 S rfl rfl ⟨rfl, H⟩
    ·have hm := ite_f hc186 hm
     refine wp_skip (thenN ?_)
     refine wp_seq (region_plain ?_)
     refine lq (.int .i64 (W (x87 + (1 : Int)))) S (q_move rfl) fun a S => ?_
     refine lq (.int .i64 (W ((W (x87 + (1 : Int))) + (1 : Int)))) S (q_add rfl rfl) fun a S => ?_
     refine lq (.int .i64 (W ((W (x87 + (1 : Int))) + (1 : Int)))) S (q_assign rfl) fun a S => ?_
     refine lx_nil (thenN ?_)
     refine wp_seq (region_plain ?_)
     refine lq p0 S (q_move rfl) fun a S => ?_
     refine lq (.int .i64 x88) S (q_move rfl) fun a S => ?_
     obtain ⟨x187, e188, hm⟩ := bind_some hm
     obtain ⟨c189, h190, hat191⟩ := (h0).elem (idx_some e188).2
     obtain ⟨c194, c195, rfl, h196, h197⟩ := h190
     obtain rfl := h196
     obtain ⟨c198, c199, rfl, h200, h201⟩ := h197
     obtain rfl := h200
     obtain ⟨v192, rfl, h193⟩ := rd_list h201
     have hlt := lt_of_idx (idx_some e188).2
     refine lq (ePtr p0 (x88.toNat * 3)) S (q_indexAddr rfl (h0).isSl rfl (idx_some e188).1 hlt Try.underlying24 Try.sizeOf37) fun a S => ?_
     refine lq (pAdd (ePtr p0 (x88.toNat * 3)) 2) S (q_fieldAddr' 2 32 rfl ((hat191 0 _ rfl).isP) Try.underlying37 rfl Try.sizeOf32) fun a S => ?_
     refine lx_e v192 S trivial (by decide) rfl trivial (q_load1 rfl Try.isAgg32 (by rintro _ rfl; exact (At.of_add (m := 2) (j := 0) ((hat191 2 _ rfl).ext H.ext)))) (fun a S => ?_)
     refine lq (.int .i64 (W ((W (x87 + (1 : Int))) + (1 : Int)))) S (q_move rfl) fun a S => ?_
     obtain ⟨x204, e205, hm⟩ := bind_some hm
     refine lx_call (xs := [.tmp 34, .tmp 35]) S trivial (by decide) rfl rfl Try.call19 ((laws_heldInt64S_ok (H.arg h193)  e205).mono ?_)
     rintro e w202 ⟨rfl, Hc203⟩
     have H := H.call0 Hc203
     refine ⟨_, rfl, trivial, fun a S => ?_⟩
     refine lq (.int .i64 x204) S (q_assign rfl) fun a S => ?_
     refine lx_nil (thenN ?_)
     refine wp_seq (region_plain ?_)
     refine lq (.int .i64 x204) S (q_move rfl) fun a S => ?_
     refine lq (.bool (decide (x204 < (0 : Int)))) S (q_lss rfl rfl) fun a S => ?_
     refine lx_nil (thenN ?_)
     refine cond_b S rfl (fun hc207 => ?_) (fun hc207 => ?_)
     ·have hm := ite_t hc207 hm
      refine wp_seq (region_plain ?_)
      refine lq (.int .i64 (-1 : Int)) S (q_assign rfl) fun a S => ?_
      refine lx_nil (thenN ?_)
      refine wp_ret (inBlock_ret ?_)
      refine then_ret ?_
      refine then_ret ?_
      refine inBlock_ret ?_
      refine then_ret ?_
      refine then_ret ?_
      obtain rfl := it_brk hm hc153
      have hm := ctl_inr hk150
      obtain rfl := Option.some.inj hm
      exact leave1 S rfl rfl ⟨rfl, H⟩
     ·have hm := ite_f hc207 hm
      refine wp_skip ?_
      refine inBlock_norm ?_
      refine thenN ?_
      refine region_plain ?_
      refine lq (.int .i64 x88) S (q_move rfl) fun a S => ?_
      refine lq (.int .i64 (W (x88 + (1 : Int)))) S (q_add rfl rfl) fun a S => ?_
      refine lq (.int .i64 (W (x88 + (1 : Int)))) S (q_assign rfl) fun a S => ?_
      refine lx_nil ?_
      exact ⟨m151, Nat.lt_succ_self _, x204, (W (x88 + (1 : Int))), S.sub ⟨rfl, rfl, rfl, trivial⟩, H, it_cont hm hc153⟩
  ·have hm := ite_f hc154 hm
   refine wp_exit ?_
   refine then_exit ?_
   refine then_exit ?_
   refine inBlock_exit ?_
   obtain rfl := it_brk hm hc153
   exact ⟨x87, S.sub ⟨rfl, trivial⟩, H, rfl⟩

/-- laws.FnExactDualGame -/
def laws_FnExactDualGame_m (fuel : Nat) (a0 : (List Tlaws_Vertex)) : Option (Bool) :=
  (laws_szVertexS_m fuel a0 (1048576 : Int)).bind fun x33 => (if (decide (x33 < (0 : Int))) = true then some (true) else (laws_toVertexS_m fuel a0).bind fun x39 => (spec_DualGame_m fuel x39).bind fun x46 => (laws_toVertexS_m fuel a0).bind fun x53 => (impl_DualGame_m fuel x53).bind fun x60 => (laws_eqVertexS_m fuel x60.1 x46.1).bind fun x67 => (if (!x67) = true then some true else some (x60.2 != x46.2)).bind fun t70 => (if t70 = true then some (false) else (laws_toVertexS_m fuel a0).bind fun x76 => (laws_eqVertexS_m fuel x53 x76).bind fun x83 => (if (!x83) = true then some (false) else (laws_markVertexS_m fuel x53 (1 : Int)).bind fun x89 => (if (decide (x89.1 < (0 : Int))) = true then some true else (laws_eqVertexS_m fuel x60.1 x46.1).bind fun x96 => some (!x96)).bind fun t91 => (if t91 = true then some true else some (x60.2 != x46.2)).bind fun t99 => (if t99 = true then some (false) else (laws_markVertexS_m fuel x60.1 (1 : Int)).bind fun x105 => (laws_heldVertexS_m fuel x105.2 (1 : Int)).bind fun x109 => (if (decide (x109 < (0 : Int))) = true then some (false) else (if (x109 != x105.1) = true then some (false) else (laws_toVertexS_m fuel a0).bind fun x116 => (impl_DualGame_m fuel x116).bind fun x123 => (laws_eqVertexS_m fuel x123.1 x46.1).bind fun x130 => (if (!x130) = true then some true else some (x123.2 != x46.2)).bind fun t133 => (if t133 = true then some (false) else (laws_heldVertexS_m fuel x105.2 (1 : Int)).bind fun x139 => (if (decide (x139 < (0 : Int))) = true then some (false) else (if (x139 != x105.1) = true then some (false) else some (true))))))))))
set_option maxRecDepth 20000 in
theorem laws_FnExactDualGame_ok [dr : Dr] {w0 : World} {fuel : Nat} {p0 : Value} {a0 : (List Tlaws_Vertex)} {r : Bool} (h0 : Rd (rList Rlaws_Vertex) w0 p0 a0) (hm : laws_FnExactDualGame_m fuel a0 = some r) :
  Calls Try.prog 3 #[p0] w0 fun e w => e = .returned (.bool r) ∧ Heap w0 [] w := by
 unfold laws_FnExactDualGame_m at hm
 have H := Heap.start w0
 refine enter (args := [p0]) Try.func3 rfl 96 rfl (Nat.le_of_ble_eq_true rfl) (fun a S => ?_)
 refine wp_seq (region_plain ?_)
 refine lq (.bool false) S (q_assign rfl) fun a S => ?_
 refine lx_nil (thenN ?_)
 refine wp_seq (region_plain ?_)
 refine lq (.int .i64 (1048576 : Int)) S (q_assign rfl) fun a S => ?_
 refine lx_nil (thenN ?_)
 refine wp_seq (region_plain ?_)
 refine lq p0 S (q_move rfl) fun a S => ?_
 refine lq (.int .i64 (1048576 : Int)) S (q_move rfl) fun a S => ?_
 obtain ⟨x33, e34, hm⟩ := bind_some hm
 refine lx_call (xs := [.tmp 14, .tmp 15]) S trivial (by decide) rfl rfl Try.call4 ((laws_szVertexS_ok (H.arg h0)  e34).mono ?_)
 rintro e w31 ⟨rfl, Hc32⟩
 have H := H.call0 Hc32
 refine ⟨_, rfl, trivial, fun a S => ?_⟩
 refine lq (.int .i64 x33) S (q_assign rfl) fun a S => ?_
 refine lx_nil (thenN ?_)
 refine wp_seq (wp_seq (region_plain ?_))
 refine lq (.int .i64 x33) S (q_move rfl) fun a S => ?_
 refine lq (.bool (decide (x33 < (0 : Int)))) S (q_lss rfl rfl) fun a S => ?_
 refine lx_nil (thenN ?_)
 refine cond_b S rfl (fun hc36 => ?_) (fun hc36 => ?_)
 ·have hm := ite_t hc36 hm
  refine wp_seq (region_plain ?_)
  refine lq (.bool true) S (q_assign rfl) fun a S => ?_
  refine lx_nil (thenN ?_)
  refine wp_ret (then_ret ?_)
  obtain rfl := Option.some.inj hm
  exact leave1 S rfl rfl ⟨rfl, H⟩
 ·have hm := ite_f hc36 hm
  refine wp_skip (thenN ?_)
  refine wp_seq (region_plain ?_)
  refine lq p0 S (q_move rfl) fun a S => ?_
  obtain ⟨x39, e40, hm⟩ := bind_some hm
  refine lx_call (xs := [.tmp 20]) S trivial (by decide) rfl rfl Try.call6 ((laws_toVertexS_ok (H.arg h0) e40).mono ?_)
  rintro e w37 ⟨v41, rfl, Hc38⟩
  have H := H.call1 Hc38
  refine ⟨_, rfl, trivial, fun a S => ?_⟩
  obtain ⟨x46, e47, hm⟩ := bind_some hm
  refine lx_call (xs := [.tmp 21]) S trivial (by decide) rfl rfl Try.call5 ((spec_DualGame_ok (H.rdAt 0 rfl) e47).mono ?_)
  rintro e w44 ⟨v48, rfl, Hc45⟩
  have H := H.call1 Hc45
  refine ⟨_, rfl, trivial, fun a S => ?_⟩
  refine lq (.tuple #[v48, (.int .i64 x46.2)]) S (q_move rfl) fun a S => ?_
  refine lq v48 S (q_extract rfl rfl) fun a S => ?_
  refine lq (.int .i64 x46.2) S (q_extract rfl rfl) fun a S => ?_
  refine lq v48 S (q_assign rfl) fun a S => ?_
  refine lq (.int .i64 x46.2) S (q_assign rfl) fun a S => ?_
  refine lx_nil (thenN ?_)
  refine wp_seq (region_plain ?_)
  refine lq p0 S (q_move rfl) fun a S => ?_
  obtain ⟨x53, e54, hm⟩ := bind_some hm
  refine lx_call (xs := [.tmp 25]) S trivial (by decide) rfl rfl Try.call6 ((laws_toVertexS_ok (H.arg h0) e54).mono ?_)
  rintro e w51 ⟨v55, rfl, Hc52⟩
  have H := H.call1 Hc52
  refine ⟨_, rfl, trivial, fun a S => ?_⟩
  refine lq v55 S (q_assign rfl) fun a S => ?_
  refine lx_nil (thenN ?_)
  refine wp_seq (region_plain ?_)
  refine lq v55 S (q_move rfl) fun a S => ?_
  obtain ⟨x60, e61, hm⟩ := bind_some hm
  refine lx_call (xs := [.tmp 28]) S trivial (by decide) rfl rfl Try.call7 ((impl_DualGame_ok (H.rdAt 0 rfl) e61).mono ?_)
  rintro e w58 ⟨v62, rfl, Hc59⟩
  have H := H.call1 Hc59
  refine ⟨_, rfl, trivial, fun a S => ?_⟩
  refine lq (.tuple #[v62, (.int .i64 x60.2)]) S (q_move rfl) fun a S => ?_
  refine lq v62 S (q_extract rfl rfl) fun a S => ?_
  refine lq (.int .i64 x60.2) S (q_extract rfl rfl) fun a S => ?_
  refine lq v62 S (q_assign rfl) fun a S => ?_
  refine lq (.int .i64 x60.2) S (q_assign rfl) fun a S => ?_
  refine lx_nil (thenN ?_)
  refine wp_seq (wp_seq (region_plain ?_))
  refine lq v62 S (q_move rfl) fun a S => ?_
  refine lq v48 S (q_move rfl) fun a S => ?_
  obtain ⟨x67, e68, hm⟩ := bind_some hm
  refine lx_call (xs := [.tmp 32, .tmp 33]) S trivial (by decide) rfl rfl Try.call8 ((laws_eqVertexS_ok (H.rdAt 0 rfl) (H.rdAt 2 rfl) e68).mono ?_)
  rintro e w65 ⟨rfl, Hc66⟩
  have H := H.call0 Hc66
  refine ⟨_, rfl, trivial, fun a S => ?_⟩
  refine lq (.bool (!x67)) S (q_not rfl) fun a S => ?_
  refine lq (.bool (!x67)) S (q_move rfl) fun a S => ?_
  obtain ⟨t70, e71, hm⟩ := bind_some hm
  refine lx_cut 4 (fun a w => Slots a 96 [(0, p0), (4, v48), (5, (.int .i64 x46.2)), (6, v55), (7, v62), (8, (.int .i64 x60.2)), (40, (.bool t70))] ∧ Heap w0 [oA (rList Rimpl_Vertex) v62 x60.1, oA (rList Rimpl_Vertex) v55 x53, oA (rList Rimpl_Vertex) v48 x46.1] w) ?_ ?_
  ·by_cases hc72 : (!x67) = true
   ·have hm := ite_t hc72 e71
    refine lx_skip S rfl rfl (isB_ne hc72) (by decide) (fun a S => ?_)
    refine lx_skip S rfl rfl (isB_ne hc72) (by decide) (fun a S => ?_)
    refine lx_skip S rfl rfl (isB_ne hc72) (by decide) (fun a S => ?_)
    refine lq (.bool true) S (q_pickT' rfl hc72 rfl) fun a S => ?_
    refine lx_nil ?_
    obtain rfl := Option.some.inj hm
    have H := H.sel [0, 1, 2] (by decide)
    exact ⟨S.sub ⟨rfl, rfl, rfl, rfl, rfl, rfl, rfl, trivial⟩, H⟩
   ·have hm := ite_f (eq_false_of_ne_true hc72) e71
    have hc72 : (!x67) = false := eq_false_of_ne_true hc72
    refine lx_q (.int .i64 x60.2) S (want_b rfl rfl hc72) (by decide) (q_move rfl) (fun a S => ?_)
    refine lx_q (.int .i64 x46.2) S (want_b rfl rfl hc72) (by decide) (q_move rfl) (fun a S => ?_)
    refine lx_q (.bool (x60.2 != x46.2)) S (want_b rfl rfl hc72) (by decide) (q_neq rfl rfl) (fun a S => ?_)
    refine lq (.bool (x60.2 != x46.2)) S (q_pickF' rfl hc72 rfl) fun a S => ?_
    refine lx_nil ?_
    obtain rfl := Option.some.inj hm
    have H := H.sel [0, 1, 2] (by decide)
    exact ⟨S.sub ⟨rfl, rfl, rfl, rfl, rfl, rfl, rfl, trivial⟩, H⟩
  ·rintro a w ⟨S, H⟩
   refine lx_nil (thenN ?_)
   refine cond_b S rfl (fun hc73 => ?_) (fun hc73 => ?_)
   ·have hm := ite_t hc73 hm
    refine wp_seq (region_plain ?_)
    refine lq (.bool false) S (q_assign rfl) fun a S => ?_
    refine lx_nil (thenN ?_)
    refine wp_ret (then_ret ?_)
    obtain rfl := Option.some.inj hm
    have H : Heap w0 [] w := H.sel [] (by decide)
    exact leave1 S rfl rfl ⟨rfl, H⟩
   ·have hm := ite_f hc73 hm
    refine wp_skip (thenN ?_)
    refine wp_seq (wp_seq (region_plain ?_))
    refine lq v55 S (q_move rfl) fun a S => ?_
    refine lq p0 S (q_move rfl) fun a S => ?_
    obtain ⟨x76, e77, hm⟩ := bind_some hm
    refine lx_call (xs := [.tmp 42]) S trivial (by decide) rfl rfl Try.call6 ((laws_toVertexS_ok (H.arg h0) e77).mono ?_)
    rintro e w74 ⟨v78, rfl, Hc75⟩
    have H := H.call1 Hc75
    refine ⟨_, rfl, trivial, fun a S => ?_⟩
    obtain ⟨x83, e84, hm⟩ := bind_some hm
    refine lx_call (xs := [.tmp 41, .tmp 43]) S trivial (by decide) rfl rfl Try.call8 ((laws_eqVertexS_ok (H.rdAt 2 rfl) (H.rdAt 0 rfl) e84).mono ?_)
    rintro e w81 ⟨rfl, Hc82⟩
    have H := H.call0 Hc82
    refine ⟨_, rfl, trivial, fun a S => ?_⟩
    refine lq (.bool (!x83)) S (q_not rfl) fun a S => ?_
    refine lx_nil (thenN ?_)
    refine cond_b S rfl (fun hc86 => ?_) (fun hc86 => ?_)
    ·have hm := ite_t hc86 hm
     refine wp_seq (region_plain ?_)
     refine lq (.bool false) S (q_assign rfl) fun a S => ?_
     refine lx_nil (thenN ?_)
     refine wp_ret (then_ret ?_)
     obtain rfl := Option.some.inj hm
     have H : Heap w0 [] w81 := H.sel [] (by decide)
     exact leave1 S rfl rfl ⟨rfl, H⟩
    ·have hm := ite_f hc86 hm
     refine wp_skip (thenN ?_)
     refine wp_seq (region_plain ?_)
     refine lq (.int .i64 (1 : Int)) S (q_assign rfl) fun a S => ?_
     refine lx_nil (thenN ?_)
     refine wp_seq (region_plain ?_)
     refine lq v55 S (q_move rfl) fun a S => ?_
     refine lq (.int .i64 (1 : Int)) S (q_move rfl) fun a S => ?_
     obtain ⟨x89, e90, hm⟩ := bind_some hm
     have H : Heap w0 [oA (rList Rimpl_Vertex) v55 x53, oA (rList Rimpl_Vertex) v78 x76, oA (rList Rimpl_Vertex) v62 x60.1, oA (rList Rimpl_Vertex) v48 x46.1] w81 := H.front 2 rfl
     refine lx_call (xs := [.tmp 46, .tmp 47]) S trivial (by decide) rfl rfl Try.call9 ((laws_markVertexS_ok H  e90).mono ?_)
     rintro e w87 ⟨rfl, H⟩
     refine ⟨_, rfl, trivial, fun a S => ?_⟩
     refine lq (.int .i64 x89.1) S (q_assign rfl) fun a S => ?_
     refine lx_nil (thenN ?_)
     refine wp_seq (wp_seq (region_plain ?_))
     refine lq (.int .i64 x89.1) S (q_move rfl) fun a S => ?_
     refine lq (.bool (decide (x89.1 < (0 : Int)))) S (q_lss rfl rfl) fun a S => ?_
     refine lq (.bool (decide (x89.1 < (0 : Int)))) S (q_move rfl) fun a S => ?_
     obtain ⟨t91, e92, hm⟩ := bind_some hm
     refine lx_cut 5 (fun a w => Slots a 96 [(0, p0), (4, v48), (5, (.int .i64 x46.2)), (7, v62), (8, (.int .i64 x60.2)), (56, (.bool t91))] ∧ Heap w0 [oA (rList Rimpl_Vertex) v62 x60.1, oA (rList Rimpl_Vertex) v48 x46.1] w) ?_ ?_
     ·by_cases hc93 : (decide (x89.1 < (0 : Int))) = true
      ·have hm := ite_t hc93 e92
       refine lx_skip S rfl rfl (isB_ne hc93) (by decide) (fun a S => ?_)
       refine lx_skip S rfl rfl (isB_ne hc93) (by decide) (fun a S => ?_)
       refine lx_skip S rfl rfl (isB_ne hc93) (by decide) (fun a S => ?_)
       refine lx_skip S rfl rfl (isB_ne hc93) (by decide) (fun a S => ?_)
       refine lq (.bool true) S (q_pickT' rfl hc93 rfl) fun a S => ?_
       refine lx_nil ?_
       obtain rfl := Option.some.inj hm
       have H := H.sel [2, 3] (by decide)
       exact ⟨S.sub ⟨rfl, rfl, rfl, rfl, rfl, rfl, trivial⟩, H⟩
      ·have hm := ite_f (eq_false_of_ne_true hc93) e92
       have hc93 : (decide (x89.1 < (0 : Int))) = false := eq_false_of_ne_true hc93
       refine lx_q v62 S (want_b rfl rfl hc93) (by decide) (q_move rfl) (fun a S => ?_)
       refine lx_q v48 S (want_b rfl rfl hc93) (by decide) (q_move rfl) (fun a S => ?_)
       obtain ⟨x96, e97, hm⟩ := bind_some hm
       refine lx_call (xs := [.tmp 52, .tmp 53]) S (want_b rfl rfl hc93) (by decide) rfl rfl Try.call8 ((laws_eqVertexS_ok (H.rdAt 2 rfl) (H.rdAt 3 rfl) e97).mono ?_)
       rintro e w94 ⟨rfl, Hc95⟩
       have H := H.call0 Hc95
       refine ⟨_, rfl, trivial, fun a S => ?_⟩
       refine lx_q (.bool (!x96)) S (want_b rfl rfl hc93) (by decide) (q_not rfl) (fun a S => ?_)
       refine lq (.bool (!x96)) S (q_pickF' rfl hc93 rfl) fun a S => ?_
       refine lx_nil ?_
       obtain rfl := Option.some.inj hm
       have H := H.sel [2, 3] (by decide)
       exact ⟨S.sub ⟨rfl, rfl, rfl, rfl, rfl, rfl, trivial⟩, H⟩
     ·rintro a w ⟨S, H⟩
      refine lq (.bool t91) S (q_move rfl) fun a S => ?_
      obtain ⟨t99, e100, hm⟩ := bind_some hm
      refine lx_cut 4 (fun a w => Slots a 96 [(0, p0), (4, v48), (5, (.int .i64 x46.2)), (7, v62), (61, (.bool t99))] ∧ Heap w0 [oA (rList Rimpl_Vertex) v62 x60.1, oA (rList Rimpl_Vertex) v48 x46.1] w) ?_ ?_
      ·by_cases hc101 : t91 = true
       ·have hm := ite_t hc101 e100
        refine lx_skip S rfl rfl (isB_ne hc101) (by decide) (fun a S => ?_)
        refine lx_skip S rfl rfl (isB_ne hc101) (by decide) (fun a S => ?_)
        refine lx_skip S rfl rfl (isB_ne hc101) (by decide) (fun a S => ?_)
        refine lq (.bool true) S (q_pickT' rfl hc101 rfl) fun a S => ?_
        refine lx_nil ?_
        obtain rfl := Option.some.inj hm
        exact ⟨S.sub ⟨rfl, rfl, rfl, rfl, rfl, trivial⟩, H⟩
       ·have hm := ite_f (eq_false_of_ne_true hc101) e100
        have hc101 : t91 = false := eq_false_of_ne_true hc101
        refine lx_q (.int .i64 x60.2) S (want_b rfl rfl hc101) (by decide) (q_move rfl) (fun a S => ?_)
        refine lx_q (.int .i64 x46.2) S (want_b rfl rfl hc101) (by decide) (q_move rfl) (fun a S => ?_)
        refine lx_q (.bool (x60.2 != x46.2)) S (want_b rfl rfl hc101) (by decide) (q_neq rfl rfl) (fun a S => ?_)
        refine lq (.bool (x60.2 != x46.2)) S (q_pickF' rfl hc101 rfl) fun a S => ?_
        refine lx_nil ?_
        obtain rfl := Option.some.inj hm
        exact ⟨S.sub ⟨rfl, rfl, rfl, rfl, rfl, trivial⟩, H⟩
      ·rintro a w ⟨S, H⟩
       refine lx_nil (thenN ?_)
       refine cond_b S rfl (fun hc102 => ?_) (fun hc102 => ?_)
       ·have hm := ite_t hc102 hm
        refine wp_seq (region_plain ?_)
        refine lq (.bool false) S (q_assign rfl) fun a S => ?_
        refine lx_nil (thenN ?_)
        refine wp_ret (then_ret ?_)
        obtain rfl := Option.some.inj hm
        have H : Heap w0 [] w := H.sel [] (by decide)
        exact leave1 S rfl rfl ⟨rfl, H⟩
       ·have hm := ite_f hc102 hm
        refine wp_skip (thenN ?_)
        refine wp_seq (region_plain ?_)
        refine lq (.int .i64 (1 : Int)) S (q_assign rfl) fun a S => ?_
        refine lx_nil (thenN ?_)
        refine wp_seq (region_plain ?_)
        refine lq v62 S (q_move rfl) fun a S => ?_
        refine lq (.int .i64 (1 : Int)) S (q_move rfl) fun a S => ?_
        obtain ⟨x105, e106, hm⟩ := bind_some hm
        refine lx_call (xs := [.tmp 62, .tmp 63]) S trivial (by decide) rfl rfl Try.call9 ((laws_markVertexS_ok H  e106).mono ?_)
        rintro e w103 ⟨rfl, H⟩
        refine ⟨_, rfl, trivial, fun a S => ?_⟩
        refine lq (.int .i64 x105.1) S (q_assign rfl) fun a S => ?_
        refine lx_nil (thenN ?_)
        refine wp_seq (region_plain ?_)
        refine lq (.int .i64 (1 : Int)) S (q_assign rfl) fun a S => ?_
        refine lx_nil (thenN ?_)
        refine wp_seq (region_plain ?_)
        refine lq v62 S (q_move rfl) fun a S => ?_
        refine lq (.int .i64 (1 : Int)) S (q_move rfl) fun a S => ?_
        obtain ⟨x109, e110, hm⟩ := bind_some hm
        refine lx_call (xs := [.tmp 65, .tmp 66]) S trivial (by decide) rfl rfl Try.call10 ((laws_heldVertexS_ok (H.rdAt 0 rfl)  e110).mono ?_)
        rintro e w107 ⟨rfl, Hc108⟩
        have H := H.call0 Hc108
        refine ⟨_, rfl, trivial, fun a S => ?_⟩
        refine lq (.int .i64 x109) S (q_assign rfl) fun a S => ?_
        refine lx_nil (thenN ?_)
        refine wp_seq (wp_seq (region_plain ?_))
        refine lq (.int .i64 x109) S (q_move rfl) fun a S => ?_
        refine lq (.bool (decide (x109 < (0 : Int)))) S (q_lss rfl rfl) fun a S => ?_
        refine lx_nil (thenN ?_)
        refine cond_b S rfl (fun hc112 => ?_) (fun hc112 => ?_)
        ·have hm := ite_t hc112 hm
         refine wp_seq (region_plain ?_)
         refine lq (.bool false) S (q_assign rfl) fun a S => ?_
         refine lx_nil (thenN ?_)
         refine wp_ret (then_ret ?_)
         obtain rfl := Option.some.inj hm
         have H : Heap w0 [] w107 := H.sel [] (by decide)
         exact leave1 S rfl rfl ⟨rfl, H⟩
        ·have hm := ite_f hc112 hm
         refine wp_skip (thenN ?_)
         refine wp_seq (wp_seq (region_plain ?_))
         refine lq (.int .i64 x109) S (q_move rfl) fun a S => ?_
         refine lq (.int .i64 x105.1) S (q_move rfl) fun a S => ?_
         refine lq (.bool (x109 != x105.1)) S (q_neq rfl rfl) fun a S => ?_
         refine lx_nil (thenN ?_)
         refine cond_b S rfl (fun hc113 => ?_) (fun hc113 => ?_)
         ·have hm := ite_t hc113 hm
          refine wp_seq (region_plain ?_)
          refine lq (.bool false) S (q_assign rfl) fun a S => ?_
          refine lx_nil (thenN ?_)
          refine wp_ret (then_ret ?_)
          obtain rfl := Option.some.inj hm
          have H : Heap w0 [] w107 := H.sel [] (by decide)
          exact leave1 S rfl rfl ⟨rfl, H⟩
         ·have hm := ite_f hc113 hm
          refine wp_skip (thenN ?_)
          refine wp_seq (region_plain ?_)
          refine lq p0 S (q_move rfl) fun a S => ?_
          obtain ⟨x116, e117, hm⟩ := bind_some hm
          refine lx_call (xs := [.tmp 74]) S trivial (by decide) rfl rfl Try.call6 ((laws_toVertexS_ok (H.arg h0) e117).mono ?_)
          rintro e w114 ⟨v118, rfl, Hc115⟩
          have H := H.call1 Hc115
          refine ⟨_, rfl, trivial, fun a S => ?_⟩
          obtain ⟨x123, e124, hm⟩ := bind_some hm
          refine lx_call (xs := [.tmp 75]) S trivial (by decide) rfl rfl Try.call7 ((impl_DualGame_ok (H.rdAt 0 rfl) e124).mono ?_)
          rintro e w121 ⟨v125, rfl, Hc122⟩
          have H := H.call1 Hc122
          refine ⟨_, rfl, trivial, fun a S => ?_⟩
          refine lq (.tuple #[v125, (.int .i64 x123.2)]) S (q_move rfl) fun a S => ?_
          refine lq v125 S (q_extract rfl rfl) fun a S => ?_
          refine lq (.int .i64 x123.2) S (q_extract rfl rfl) fun a S => ?_
          refine lq v125 S (q_assign rfl) fun a S => ?_
          refine lq (.int .i64 x123.2) S (q_assign rfl) fun a S => ?_
          refine lx_nil (thenN ?_)
          refine wp_seq (wp_seq (region_plain ?_))
          refine lq v125 S (q_move rfl) fun a S => ?_
          refine lq v48 S (q_move rfl) fun a S => ?_
          obtain ⟨x130, e131, hm⟩ := bind_some hm
          refine lx_call (xs := [.tmp 79, .tmp 80]) S trivial (by decide) rfl rfl Try.call8 ((laws_eqVertexS_ok (H.rdAt 0 rfl) (H.rdAt 3 rfl) e131).mono ?_)
          rintro e w128 ⟨rfl, Hc129⟩
          have H := H.call0 Hc129
          refine ⟨_, rfl, trivial, fun a S => ?_⟩
          refine lq (.bool (!x130)) S (q_not rfl) fun a S => ?_
          refine lq (.bool (!x130)) S (q_move rfl) fun a S => ?_
          obtain ⟨t133, e134, hm⟩ := bind_some hm
          refine lx_cut 4 (fun a w => Slots a 96 [(7, v62), (10, (.int .i64 x105.1)), (87, (.bool t133))] ∧ Heap w0 [oA (rList Rimpl_Vertex) v62 x105.2] w) ?_ ?_
          ·by_cases hc135 : (!x130) = true
           ·have hm := ite_t hc135 e134
            refine lx_skip S rfl rfl (isB_ne hc135) (by decide) (fun a S => ?_)
            refine lx_skip S rfl rfl (isB_ne hc135) (by decide) (fun a S => ?_)
            refine lx_skip S rfl rfl (isB_ne hc135) (by decide) (fun a S => ?_)
            refine lq (.bool true) S (q_pickT' rfl hc135 rfl) fun a S => ?_
            refine lx_nil ?_
            obtain rfl := Option.some.inj hm
            have H := H.sel [2] (by decide)
            exact ⟨S.sub ⟨rfl, rfl, rfl, trivial⟩, H⟩
           ·have hm := ite_f (eq_false_of_ne_true hc135) e134
            have hc135 : (!x130) = false := eq_false_of_ne_true hc135
            refine lx_q (.int .i64 x123.2) S (want_b rfl rfl hc135) (by decide) (q_move rfl) (fun a S => ?_)
            refine lx_q (.int .i64 x46.2) S (want_b rfl rfl hc135) (by decide) (q_move rfl) (fun a S => ?_)
            refine lx_q (.bool (x123.2 != x46.2)) S (want_b rfl rfl hc135) (by decide) (q_neq rfl rfl) (fun a S => ?_)
            refine lq (.bool (x123.2 != x46.2)) S (q_pickF' rfl hc135 rfl) fun a S => ?_
            refine lx_nil ?_
            obtain rfl := Option.some.inj hm
            have H := H.sel [2] (by decide)
            exact ⟨S.sub ⟨rfl, rfl, rfl, trivial⟩, H⟩
          ·rintro a w ⟨S, H⟩
           refine lx_nil (thenN ?_)
           refine cond_b S rfl (fun hc136 => ?_) (fun hc136 => ?_)
           ·have hm := ite_t hc136 hm
            refine wp_seq (region_plain ?_)
            refine lq (.bool false) S (q_assign rfl) fun a S => ?_
            refine lx_nil (thenN ?_)
            refine wp_ret (then_ret ?_)
            obtain rfl := Option.some.inj hm
            have H : Heap w0 [] w := H.sel [] (by decide)
            exact leave1 S rfl rfl ⟨rfl, H⟩
           ·have hm := ite_f hc136 hm
            refine wp_skip (thenN ?_)
            refine wp_seq (region_plain ?_)
            refine lq (.int .i64 (1 : Int)) S (q_assign rfl) fun a S => ?_
            refine lx_nil (thenN ?_)
            refine wp_seq (region_plain ?_)
            refine lq v62 S (q_move rfl) fun a S => ?_
            refine lq (.int .i64 (1 : Int)) S (q_move rfl) fun a S => ?_
            obtain ⟨x139, e140, hm⟩ := bind_some hm
            refine lx_call (xs := [.tmp 88, .tmp 89]) S trivial (by decide) rfl rfl Try.call10 ((laws_heldVertexS_ok (H.rdAt 0 rfl)  e140).mono ?_)
            rintro e w137 ⟨rfl, Hc138⟩
            have H := H.call0 Hc138
            refine ⟨_, rfl, trivial, fun a S => ?_⟩
            refine lq (.int .i64 x139) S (q_assign rfl) fun a S => ?_
            refine lx_nil (thenN ?_)
            refine wp_seq (wp_seq (region_plain ?_))
            refine lq (.int .i64 x139) S (q_move rfl) fun a S => ?_
            refine lq (.bool (decide (x139 < (0 : Int)))) S (q_lss rfl rfl) fun a S => ?_
            refine lx_nil (thenN ?_)
            refine cond_b S rfl (fun hc142 => ?_) (fun hc142 => ?_)
            ·have hm := ite_t hc142 hm
             refine wp_seq (region_plain ?_)
             refine lq (.bool false) S (q_assign rfl) fun a S => ?_
             refine lx_nil (thenN ?_)
             refine wp_ret (then_ret ?_)
             obtain rfl := Option.some.inj hm
             have H : Heap w0 [] w137 := H.sel [] (by decide)
             exact leave1 S rfl rfl ⟨rfl, H⟩
            ·have hm := ite_f hc142 hm
             refine wp_skip (thenN ?_)
             refine wp_seq (wp_seq (region_plain ?_))
             refine lq (.int .i64 x139) S (q_move rfl) fun a S => ?_
             refine lq (.int .i64 x105.1) S (q_move rfl) fun a S => ?_
             refine lq (.bool (x139 != x105.1)) S (q_neq rfl rfl) fun a S => ?_
             refine lx_nil (thenN ?_)
             refine cond_b S rfl (fun hc143 => ?_) (fun hc143 => ?_)
             ·have hm := ite_t hc143 hm
              refine wp_seq (region_plain ?_)
              refine lq (.bool false) S (q_assign rfl) fun a S => ?_
              refine lx_nil (thenN ?_)
              refine wp_ret (then_ret ?_)
              obtain rfl := Option.some.inj hm
              have H : Heap w0 [] w137 := H.sel [] (by decide)
              exact leave1 S rfl rfl ⟨rfl, H⟩
             ·have hm := ite_f hc143 hm
              refine wp_skip (thenN ?_)
              refine wp_seq (region_plain ?_)
              refine lq (.bool true) S (q_assign rfl) fun a S => ?_
              refine lx_nil (thenN ?_)
              refine wp_ret ?_
              obtain rfl := Option.some.inj hm
              have H : Heap w0 [] w137 := H.sel [] (by decide)
              exact leave1 S rfl rfl ⟨rfl, H⟩
end Go.Proofs.Ytcaedcalbjkkgaa
