/- The models of some functions and their walks (printed by a program of this repo). -/
import Derived.Test.YtecknjdlbmmmiaaF0
import Derived.Test.YtecknjdlbmmmiaaF1
import Derived.Test.YtecknjdlbmmmiaaF2
import Derived.Test.YtecknjdlbmmmiaaF4
import Derived.Test.YtecknjdlbmmmiaaF5
import Derived.Test.YtecknjdlbmmmiaaFS
import Derived.Test.YtecknjdlbmmmiaaGxT
import Derived.Test.YtecknjdlbmmmiaaGxY
namespace Go.Proofs.Ytecknjdlbmmmiaa
open Go.RowKit Go.Gx

/-- spec.l11Place -/
def spec_l11Place_m (fuel : Nat) (a0 : (List Int)) (a1 : Int) : Option (Int) :=
  (iter (fun (s : (Int)) => (match s with | (x39) => (if (decide (x39 < (a0.length : Int))) = true then (idx a0 x39).bind fun x57 => (if (x57 == a1) = true then some (.inr (.inr x39)) else some (.inl ((W (x39 + (1 : Int)))))) else some (.inr (.inl ()))) : Option (((Int)) ⊕ ((Unit) ⊕ (Int))))) fuel ((0 : Int))).bind fun res48 => ctl (β := Unit) (ρ := Int) (τ := Int) res48 (fun _ => some ((-1 : Int))) (fun q => some (q))
set_option maxRecDepth 20000 in
theorem spec_l11Place_ok {w0 : World} {fuel : Nat} {p0 : Value} {a0 : (List Int)} {a1 : Int} {r : Int} (h0 : Rd (rList (rInt .i64)) w0 p0 a0) (hm : spec_l11Place_m fuel a0 a1 = some r) :
  Calls Try.prog 94 #[p0, .int .i64 a1] w0 fun e w => e = .returned (.int .i64 r) ∧ Heap w0 [] w := by
 unfold spec_l11Place_m at hm
 have H := Heap.start w0
 refine enter (args := [p0, .int .i64 a1]) Try.func94 rfl 19 rfl (Nat.le_of_ble_eq_true rfl) (fun a S => ?_)
 refine wp_seq (region_plain ?_)
 refine lq (.int .i64 (0 : Int)) S (q_assign rfl) fun a S => ?_
 refine lx_nil (thenN ?_)
 refine wp_seq (wp_seq (region_plain ?_))
 refine lq (.int .i64 (0 : Int)) S (q_assign rfl) fun a S => ?_
 refine lx_nil (thenN ?_)
 obtain ⟨res48, hit49, hk52⟩ := bind_some hm
 obtain ⟨f50, hf51, hit49⟩ := iter_name hit49
 refine block_loop (fun a w => Slots a 19 [] ∧ Heap w0 [] w ∧ res48 = .inl ()) ?_ ?_
 ·rintro a w ⟨S, H, rfl⟩
  have hm := ctl_inl hk52
  refine thenN ?_
  refine wp_seq (region_plain ?_)
  refine lq (.int .i64 (-1 : Int)) S (q_assign rfl) fun a S => ?_
  refine lx_nil (thenN ?_)
  refine wp_ret ?_
  obtain rfl := Option.some.inj hm
  exact leave1 S rfl rfl ⟨rfl, H⟩
 ·skip
  refine loop_ghost (fun n a w => ∃ (x39 : Int), Slots a 19 [(0, p0), (1, (.int .i64 a1)), (5, (.int .i64 x39))] ∧ Heap w0 [] w ∧ iter f50 n (x39) = some res48) _ ⟨(0 : Int), S.sub ⟨rfl, rfl, rfl, trivial⟩, H, hit49⟩ ?_
  rintro n a w ⟨x39, S, H, hit49⟩
  obtain ⟨m53, o54, rfl, hm, hc55⟩ := iter_step hit49
  rw [hf51] at hm
  refine wp_seq (wp_seq (region_plain ?_))
  refine lq (.int .i64 x39) S (q_move rfl) fun a S => ?_
  refine lq p0 S (q_move rfl) fun a S => ?_
  refine lq (.int .i64 (a0.length : Int)) S (q_lenSl rfl (h0).isSl rfl Try.underlying23) fun a S => ?_
  refine lq (.bool (decide (x39 < (a0.length : Int)))) S (q_lss rfl rfl) fun a S => ?_
  refine lx_nil (thenN ?_)
  refine cond_b S rfl (fun hc56 => ?_) (fun hc56 => ?_)
  ·have hm := ite_t hc56 hm
   refine wp_skip (thenN ?_)
   refine wp_seq ?_
   refine wp_block ?_
   refine wp_seq (region_plain ?_)
   refine lq p0 S (q_move rfl) fun a S => ?_
   refine lq (.int .i64 x39) S (q_move rfl) fun a S => ?_
   obtain ⟨x57, e58, hm⟩ := bind_some hm
   obtain ⟨c59, h60, hat61⟩ := (h0).elem (idx_some e58).2
   obtain rfl := h60
   have hlt := lt_of_idx (idx_some e58).2
   refine lq (ePtr p0 (x39.toNat * 1)) S (q_indexAddr rfl (h0).isSl rfl (idx_some e58).1 hlt Try.underlying23 Try.sizeOf2) fun a S => ?_
   refine lx_e (.int .i64 x57) S trivial (by decide) rfl trivial (q_load1 rfl Try.isAgg2 (by rintro _ rfl; exact ((hat61 0 _ rfl).ext H.ext))) (fun a S => ?_)
   refine lq (.int .i64 a1) S (q_move rfl) fun a S => ?_
   refine lq (.bool (x57 == a1)) S (q_eql rfl rfl) fun a S => ?_
   refine lx_nil (thenN ?_)
   refine cond_b S rfl (fun hc62 => ?_) (fun hc62 => ?_)
   ·have hm := ite_t hc62 hm
    refine wp_seq (region_plain ?_)
    refine lq (.int .i64 x39) S (q_move rfl) fun a S => ?_
    refine lq (.int .i64 x39) S (q_assign rfl) fun a S => ?_
    refine lx_nil (thenN ?_)
    refine wp_ret (inBlock_ret ?_)
    refine then_ret ?_
    refine then_ret ?_
    refine inBlock_ret ?_
    refine then_ret ?_
    refine then_ret ?_
    obtain rfl := it_brk hm hc55
    have hm := ctl_inr hk52
    obtain rfl := Option.some.inj hm
    exact leave1 S rfl rfl ⟨rfl, H⟩
   ·have hm := ite_f hc62 hm
    refine wp_skip ?_
    refine inBlock_norm ?_
    refine thenN ?_
    refine region_plain ?_
    refine lq (.int .i64 x39) S (q_move rfl) fun a S => ?_
    refine lq (.int .i64 (W (x39 + (1 : Int)))) S (q_add rfl rfl) fun a S => ?_
    refine lq (.int .i64 (W (x39 + (1 : Int)))) S (q_assign rfl) fun a S => ?_
    refine lx_nil ?_
    exact ⟨m53, Nat.lt_succ_self _, (W (x39 + (1 : Int))), S.sub ⟨rfl, rfl, rfl, trivial⟩, H, it_cont hm hc55⟩
  ·have hm := ite_f hc56 hm
   refine wp_exit ?_
   refine then_exit ?_
   refine then_exit ?_
   refine inBlock_exit ?_
   obtain rfl := it_brk hm hc55
   exact ⟨S.sub trivial, H, rfl⟩

/-- impl.sortedSet -/
def impl_sortedSet_m (fuel : Nat) (a0 : (List Int)) : Option ((List Int)) :=
  (slices_Clone__int64_int64_m fuel a0).bind fun x33 => (slices_Sort__int64_int64_m fuel x33).bind fun x40 => (slices_Compact__int64_int64_m fuel x40).bind fun x44 => some (x44)
set_option maxRecDepth 20000 in
theorem impl_sortedSet_ok {w0 : World} {fuel : Nat} {p0 : Value} {a0 : (List Int)} {r : (List Int)} (h0 : Rd (rList (rInt .i64)) w0 p0 a0) (hm : impl_sortedSet_m fuel a0 = some r) :
  Calls Try.prog 101 #[p0] w0 fun e w => ∃ (v0 : Value), e = .returned (v0) ∧ Heap w0 [oA (rList (rInt .i64)) v0 r] w := by
 unfold impl_sortedSet_m at hm
 have H := Heap.start w0
 refine enter (args := [p0]) Try.func101 rfl 10 rfl (Nat.le_of_ble_eq_true rfl) (fun a S => ?_)
 refine wp_seq (region_plain ?_)
 refine lq (.slice none 0 0) S (q_assign rfl) fun a S => ?_
 refine lx_nil (thenN ?_)
 refine wp_seq (region_plain ?_)
 refine lq p0 S (q_move rfl) fun a S => ?_
 obtain ⟨x33, e34, hm⟩ := bind_some hm
 refine lx_call (xs := [.tmp 4]) S trivial (by decide) rfl rfl Try.call96 ((slices_Clone__int64_int64_ok (H.arg h0) e34).mono ?_)
 rintro e w31 ⟨v35, rfl, Hc32⟩
 have H := H.call1 Hc32
 refine ⟨_, rfl, trivial, fun a S => ?_⟩
 refine lq v35 S (q_assign rfl) fun a S => ?_
 refine lx_nil (thenN ?_)
 refine wp_seq (region_plain ?_)
 refine lq v35 S (q_move rfl) fun a S => ?_
 obtain ⟨x40, e41, hm⟩ := bind_some hm
 refine lx_call (xs := [.tmp 6]) S trivial (by decide) rfl rfl Try.call133 ((slices_Sort__int64_int64_ok H  e41).mono ?_)
 rintro e w38 ⟨rfl, H⟩
 refine ⟨_, rfl, trivial, fun a S => ?_⟩
 refine lx_nil (thenN ?_)
 refine wp_seq (region_plain ?_)
 refine lq v35 S (q_move rfl) fun a S => ?_
 obtain ⟨x44, e45, hm⟩ := bind_some hm
 refine lx_call (xs := [.tmp 8]) S trivial (by decide) rfl rfl Try.call134 ((slices_Compact__int64_int64_ok H  e45).mono ?_)
 rintro e w42 ⟨v46, rfl, H⟩
 refine ⟨_, rfl, trivial, fun a S => ?_⟩
 refine lq v46 S (q_assign rfl) fun a S => ?_
 refine lx_nil (thenN ?_)
 refine wp_ret ?_
 obtain rfl := Option.some.inj hm
 exact leave1 S rfl rfl ⟨v46, rfl, H⟩

/-- impl.playerOk -/
def impl_playerOk_m (fuel : Nat) (a0 : Int) : Option (Bool) :=
  (impl_within_m fuel a0 (0 : Int) (1 : Int)).bind fun x33 => some (x33)
set_option maxRecDepth 20000 in
theorem impl_playerOk_ok {w0 : World} {fuel : Nat} {a0 : Int} {r : Bool} (hm : impl_playerOk_m fuel a0 = some r) :
  Calls Try.prog 60 #[.int .i64 a0] w0 fun e w => e = .returned (.bool r) ∧ Heap w0 [] w := by
 unfold impl_playerOk_m at hm
 have H := Heap.start w0
 refine enter (args := [.int .i64 a0]) Try.func60 rfl 5 rfl (Nat.le_of_ble_eq_true rfl) (fun a S => ?_)
 refine wp_seq (region_plain ?_)
 refine lq (.bool false) S (q_assign rfl) fun a S => ?_
 refine lx_nil (thenN ?_)
 refine wp_seq (region_plain ?_)
 refine lq (.int .i64 a0) S (q_move rfl) fun a S => ?_
 obtain ⟨x33, e34, hm⟩ := bind_some hm
 refine lx_call (xs := [.tmp 3, .const (.int .i64 (0)), .const (.int .i64 (1))]) S trivial (by decide) rfl rfl Try.call112 ((impl_within_ok    e34).mono ?_)
 rintro e w31 ⟨rfl, Hc32⟩
 have H := H.call0 Hc32
 refine ⟨_, rfl, trivial, fun a S => ?_⟩
 refine lq (.bool x33) S (q_assign rfl) fun a S => ?_
 refine lx_nil (thenN ?_)
 refine wp_ret ?_
 obtain rfl := Option.some.inj hm
 exact leave1 S rfl rfl ⟨rfl, H⟩

/-- slices.ContainsFunc[[]int64,int64] -/
def slices_ContainsFunc__int64_int64_m (fuel : Nat) (a0 : (List Int)) (a1 : (Int → Option Bool)) : Option (Bool) :=
  (slices_IndexFunc__int64_int64_m fuel a0 a1).bind fun x33 => some ((decide ((0 : Int) ≤ x33)))
set_option maxRecDepth 20000 in
theorem slices_ContainsFunc__int64_int64_ok {w0 : World} {fuel : Nat} {p0 : Value} {a0 : (List Int)} {a1 : (Int → Option Bool)} {f1 : Nat} {fs1 cp1 : List Value} {r : Bool} (h0 : Rd (rList (rInt .i64)) w0 p0 a0) (hcf1 : ∀ args w, (callFunc f1 args).run Try.prog w = .ok (.enter f1 args) w) (hf1 : ∀ {w : World} {x0_ : Int} {y : Bool}, Ext w0 w → a1 x0_ = some y → Calls Try.prog f1 (fs1 ++ ([.int .i64 x0_] : List Value) ++ cp1).toArray w fun e w' => e = .returned (.bool y) ∧ Heap w [] w') (hm : slices_ContainsFunc__int64_int64_m fuel a0 a1 = some r) :
  Calls Try.prog 63 #[p0, .func (.func f1) fs1.toArray cp1.toArray] w0 fun e w => e = .returned (.bool r) ∧ Heap w0 [] w := by
 unfold slices_ContainsFunc__int64_int64_m at hm
 have H := Heap.start w0
 refine enter (args := [p0, .func (.func f1) fs1.toArray cp1.toArray]) Try.func63 rfl 9 rfl (Nat.le_of_ble_eq_true rfl) (fun a S => ?_)
 refine wp_seq (region_plain ?_)
 refine lq (.bool false) S (q_assign rfl) fun a S => ?_
 refine lx_nil (thenN ?_)
 refine wp_seq (region_plain ?_)
 refine lq p0 S (q_move rfl) fun a S => ?_
 refine lq (.func (.func f1) fs1.toArray cp1.toArray) S (q_move rfl) fun a S => ?_
 obtain ⟨x33, e34, hm⟩ := bind_some hm
 refine lx_call (xs := [.tmp 5, .tmp 6]) S trivial (by decide) rfl rfl Try.call117 ((slices_IndexFunc__int64_int64_ok (f1 := f1) (fs1 := fs1) (cp1 := cp1) (a1 := a1) (H.arg h0) hcf1 (fun he  hm => hf1 ((H.ext).trans he)  hm) e34).mono ?_)
 rintro e w31 ⟨rfl, Hc32⟩
 have H := H.call0 Hc32
 refine ⟨_, rfl, trivial, fun a S => ?_⟩
 refine lq (.bool (decide ((0 : Int) ≤ x33))) S (q_geq rfl rfl) fun a S => ?_
 refine lq (.bool (decide ((0 : Int) ≤ x33))) S (q_assign rfl) fun a S => ?_
 refine lx_nil (thenN ?_)
 refine wp_ret ?_
 obtain rfl := Option.some.inj hm
 exact leave1 S rfl rfl ⟨rfl, H⟩

/-- laws.heldVertexS -/
def laws_heldVertexS_m (fuel : Nat) (a0 : (List Timpl_Vertex)) (a1 : Int) : Option (Int) :=
  (iter (fun (s : (Int) × (Int)) => (match s with | (x87, x88) => (if (decide (x88 < (a0.length : Int))) = true then (idx a0 x88).bind fun x155 => (if (x155.1 != x87) = true then some (.inr (.inr (-1 : Int))) else (idx a0 x88).bind fun x171 => (if (x171.2.1 != (W (x87 + (1 : Int)))) = true then some (.inr (.inr (-1 : Int))) else (idx a0 x88).bind fun x187 => (laws_heldInt64S_m fuel x187.2.2 (W ((W (x87 + (1 : Int))) + (1 : Int)))).bind fun x204 => (if (decide (x204 < (0 : Int))) = true then some (.inr (.inr (-1 : Int))) else some (.inl (x204, (W (x88 + (1 : Int)))))))) else some (.inr (.inl (x87)))) : Option (((Int) × (Int)) ⊕ ((Int) ⊕ (Int))))) fuel (a1, (0 : Int))).bind fun res146 => ctl (β := Int) (ρ := Int) (τ := Int) res146 (fun (x145) => some (x145)) (fun q => some (q))
set_option maxRecDepth 20000 in
theorem laws_heldVertexS_ok {w0 : World} {fuel : Nat} {p0 : Value} {a0 : (List Timpl_Vertex)} {a1 : Int} {r : Int} (h0 : Rd (rList Rimpl_Vertex) w0 p0 a0) (hm : laws_heldVertexS_m fuel a0 a1 = some r) :
  Calls Try.prog 27 #[p0, .int .i64 a1] w0 fun e w => e = .returned (.int .i64 r) ∧ Heap w0 [] w := by
 unfold laws_heldVertexS_m at hm
 have H := Heap.start w0
 refine enter (args := [p0, .int .i64 a1]) Try.func27 rfl 40 rfl (Nat.le_of_ble_eq_true rfl) (fun a S => ?_)
 refine wp_seq (region_plain ?_)
 refine lq (.int .i64 (0 : Int)) S (q_assign rfl) fun a S => ?_
 refine lx_nil (thenN ?_)
 refine wp_seq (wp_seq (region_plain ?_))
 refine lq (.int .i64 (0 : Int)) S (q_assign rfl) fun a S => ?_
 refine lx_nil (thenN ?_)
 obtain ⟨res146, hit147, hk150⟩ := bind_some hm
 obtain ⟨f148, hf149, hit147⟩ := iter_name hit147
 refine block_loop (fun a w => ∃ (x145 : Int), Slots a 40 [(1, (.int .i64 x145))] ∧ Heap w0 [] w ∧ res146 = .inl (x145)) ?_ ?_
 ·rintro a w ⟨x145, S, H, rfl⟩
  have hm := ctl_inl hk150
  refine thenN ?_
  refine wp_seq (region_plain ?_)
  refine lq (.int .i64 x145) S (q_move rfl) fun a S => ?_
  refine lq (.int .i64 x145) S (q_assign rfl) fun a S => ?_
  refine lx_nil (thenN ?_)
  refine wp_ret ?_
  obtain rfl := Option.some.inj hm
  exact leave1 S rfl rfl ⟨rfl, H⟩
 ·skip
  refine loop_ghost (fun n a w => ∃ (x87 : Int) (x88 : Int), Slots a 40 [(0, p0), (1, (.int .i64 x87)), (5, (.int .i64 x88))] ∧ Heap w0 [] w ∧ iter f148 n (x87, x88) = some res146) _ ⟨a1, (0 : Int), S.sub ⟨rfl, rfl, rfl, trivial⟩, H, hit147⟩ ?_
  rintro n a w ⟨x87, x88, S, H, hit147⟩
  obtain ⟨m151, o152, rfl, hm, hc153⟩ := iter_step hit147
  rw [hf149] at hm
  refine wp_seq (wp_seq (region_plain ?_))
  refine lq (.int .i64 x88) S (q_move rfl) fun a S => ?_
  refine lq p0 S (q_move rfl) fun a S => ?_
  refine lq (.int .i64 (a0.length : Int)) S (q_lenSl rfl (h0).isSl rfl Try.underlying26) fun a S => ?_
  refine lq (.bool (decide (x88 < (a0.length : Int)))) S (q_lss rfl rfl) fun a S => ?_
  refine lx_nil (thenN ?_)
  refine cond_b S rfl (fun hc154 => ?_) (fun hc154 => ?_)
  ·have hm := ite_t hc154 hm
   refine wp_skip (thenN ?_)
   refine wp_seq ?_
   refine wp_block ?_
   refine wp_seq (wp_seq (region_plain ?_))
   refine lq p0 S (q_move rfl) fun a S => ?_
   refine lq (.int .i64 x88) S (q_move rfl) fun a S => ?_
   obtain ⟨x155, e156, hm⟩ := bind_some hm
   obtain ⟨c157, h158, hat159⟩ := (h0).elem (idx_some e156).2
   obtain ⟨c162, c163, rfl, h164, h165⟩ := h158
   obtain rfl := h164
   obtain ⟨c166, c167, rfl, h168, h169⟩ := h165
   obtain rfl := h168
   obtain ⟨v160, rfl, h161⟩ := rd_list h169
   have hlt := lt_of_idx (idx_some e156).2
   refine lq (ePtr p0 (x88.toNat * 3)) S (q_indexAddr rfl (h0).isSl rfl (idx_some e156).1 hlt Try.underlying26 Try.sizeOf71) fun a S => ?_
   refine lq (pAdd (ePtr p0 (x88.toNat * 3)) 0) S (q_fieldAddr' 0 2 rfl ((hat159 0 _ rfl).isP) Try.underlying71 rfl Try.sizeOf2) fun a S => ?_
   refine lx_e (.int .i64 x155.1) S trivial (by decide) rfl trivial (q_load1 rfl Try.isAgg2 (by rintro _ rfl; exact (At.of_add (m := 0) (j := 0) ((hat159 0 _ rfl).ext H.ext)))) (fun a S => ?_)
   refine lq (.int .i64 x87) S (q_move rfl) fun a S => ?_
   refine lq (.bool (x155.1 != x87)) S (q_neq rfl rfl) fun a S => ?_
   refine lx_nil (thenN ?_)
   refine cond_b S rfl (fun hc170 => ?_) (fun hc170 => ?_)
   ·have hm := ite_t hc170 hm
    refine wp_seq (region_plain ?_)
    refine lq (.int .i64 (-1 : Int)) S (q_assign rfl) fun a S => ?_
    refine lx_nil (thenN ?_)
    refine wp_ret (then_ret ?_)
    refine inBlock_ret ?_
    refine then_ret ?_
    refine then_ret ?_
    refine inBlock_ret ?_
    refine then_ret ?_
    refine then_ret ?_
    obtain rfl := it_brk hm hc153
    have hm := ctl_inr hk150
    obtain rfl := Option.some.inj hm
    exact leave1 S rfl rfl ⟨rfl, H⟩
   ·have hm := ite_f hc170 hm
    refine wp_skip (thenN ?_)
    refine wp_seq (region_plain ?_)
    refine lq (.int .i64 x87) S (q_move rfl) fun a S => ?_
    refine lq (.int .i64 (W (x87 + (1 : Int)))) S (q_add rfl rfl) fun a S => ?_
    refine lq (.int .i64 (W (x87 + (1 : Int)))) S (q_assign rfl) fun a S => ?_
    refine lx_nil (thenN ?_)
    refine wp_seq (wp_seq (region_plain ?_))
    refine lq p0 S (q_move rfl) fun a S => ?_
    refine lq (.int .i64 x88) S (q_move rfl) fun a S => ?_
    obtain ⟨x171, e172, hm⟩ := bind_some hm
    obtain ⟨c173, h174, hat175⟩ := (h0).elem (idx_some e172).2
    obtain ⟨c178, c179, rfl, h180, h181⟩ := h174
    obtain rfl := h180
    obtain ⟨c182, c183, rfl, h184, h185⟩ := h181
    obtain rfl := h184
    obtain ⟨v176, rfl, h177⟩ := rd_list h185
    have hlt := lt_of_idx (idx_some e172).2
    refine lq (ePtr p0 (x88.toNat * 3)) S (q_indexAddr rfl (h0).isSl rfl (idx_some e172).1 hlt Try.underlying26 Try.sizeOf71) fun a S => ?_
    refine lq (pAdd (ePtr p0 (x88.toNat * 3)) 1) S (q_fieldAddr' 1 2 rfl ((hat175 0 _ rfl).isP) Try.underlying71 rfl Try.sizeOf2) fun a S => ?_
    refine lx_e (.int .i64 x171.2.1) S trivial (by decide) rfl trivial (q_load1 rfl Try.isAgg2 (by rintro _ rfl; exact (At.of_add (m := 1) (j := 0) ((hat175 1 _ rfl).ext H.ext)))) (fun a S => ?_)
    refine lq (.int .i64 (W (x87 + (1 : Int)))) S (q_move rfl) fun a S => ?_
    refine lq (.bool (x171.2.1 != (W (x87 + (1 : Int))))) S (q_neq rfl rfl) fun a S => ?_
    refine lx_nil (thenN ?_)
    refine cond_b S rfl (fun hc186 => ?_) (fun hc186 => ?_)
    ·have hm := ite_t hc186 hm
     refine wp_seq (region_plain ?_)
     refine lq (.int .i64 (-1 : Int)) S (q_assign rfl) fun a S => ?_
     refine lx_nil (thenN ?_)
     refine wp_ret (then_ret ?_)
     refine inBlock_ret ?_
     refine then_ret ?_
     refine then_ret ?_
     refine inBlock_ret ?_
     refine then_ret ?_
     refine then_ret ?_
     obtain rfl := it_brk hm hc153
     have hm := ctl_inr hk150
     obtain rfl := Option.some.inj hm
     exact leave1 S rfl rfl ⟨rfl, H⟩
    ·have hm := ite_f hc186 hm
     refine wp_skip (thenN ?_)
     refine wp_seq (region_plain ?_)
     refine lq (.int .i64 (W (x87 + (1 : Int)))) S (q_move rfl) fun a S => ?_
     refine lq (.int .i64 (W ((W (x87 + (1 : Int))) + (1 : Int)))) S (q_add rfl rfl) fun a S => ?_
     refine lq (.int .i64 (W ((W (x87 + (1 : Int))) + (1 : Int)))) S (q_assign rfl) fun a S => ?_
     refine lx_nil (thenN ?_)
     refine wp_seq (region_plain ?_)
     refine lq p0 S (q_move rfl) fun a S => ?_
     refine lq (.int .i64 x88) S (q_move rfl) fun a S => ?_
     obtain ⟨x187, e188, hm⟩ := bind_some hm
     obtain ⟨c189, h190, hat191⟩ := (h0).elem (idx_some e188).2
     obtain ⟨c194, c195, rfl, h196, h197⟩ := h190
     obtain rfl := h196
     obtain ⟨c198, c199, rfl, h200, h201⟩ := h197
     obtain rfl := h200
     obtain ⟨v192, rfl, h193⟩ := rd_list h201
     have hlt := lt_of_idx (idx_some e188).2
     refine lq (ePtr p0 (x88.toNat * 3)) S (q_indexAddr rfl (h0).isSl rfl (idx_some e188).1 hlt Try.underlying26 Try.sizeOf71) fun a S => ?_
     refine lq (pAdd (ePtr p0 (x88.toNat * 3)) 2) S (q_fieldAddr' 2 23 rfl ((hat191 0 _ rfl).isP) Try.underlying71 rfl Try.sizeOf23) fun a S => ?_
     refine lx_e v192 S trivial (by decide) rfl trivial (q_load1 rfl Try.isAgg23 (by rintro _ rfl; exact (At.of_add (m := 2) (j := 0) ((hat191 2 _ rfl).ext H.ext)))) (fun a S => ?_)
     refine lq (.int .i64 (W ((W (x87 + (1 : Int))) + (1 : Int)))) S (q_move rfl) fun a S => ?_
     obtain ⟨x204, e205, hm⟩ := bind_some hm
     refine lx_call (xs := [.tmp 34, .tmp 35]) S trivial (by decide) rfl rfl Try.call31 ((laws_heldInt64S_ok (H.arg h193)  e205).mono ?_)
     rintro e w202 ⟨rfl, Hc203⟩
     have H := H.call0 Hc203
     refine ⟨_, rfl, trivial, fun a S => ?_⟩
     refine lq (.int .i64 x204) S (q_assign rfl) fun a S => ?_
     refine lx_nil (thenN ?_)
     refine wp_seq (region_plain ?_)
     refine lq (.int .i64 x204) S (q_move rfl) fun a S => ?_
     refine lq (.bool (decide (x204 < (0 : Int)))) S (q_lss rfl rfl) fun a S => ?_
     refine lx_nil (thenN ?_)
     refine cond_b S rfl (fun hc207 => ?_) (fun hc207 => ?_)
     ·have hm := ite_t hc207 hm
      refine wp_seq (region_plain ?_)
      refine lq (.int .i64 (-1 : Int)) S (q_assign rfl) fun a S => ?_
      refine lx_nil (thenN ?_)
      refine wp_ret (inBlock_ret ?_)
      refine then_ret ?_
      refine then_ret ?_
      refine inBlock_ret ?_
      refine then_ret ?_
      refine then_ret ?_
      obtain rfl := it_brk hm hc153
      have hm := ctl_inr hk150
      obtain rfl := Option.some.inj hm
      exact leave1 S rfl rfl ⟨rfl, H⟩
     ·have hm := ite_f hc207 hm
      refine wp_skip ?_
      refine inBlock_norm ?_
      refine thenN ?_
      refine region_plain ?_
      refine lq (.int .i64 x88) S (q_move rfl) fun a S => ?_
      refine lq (.int .i64 (W (x88 + (1 : Int)))) S (q_add rfl rfl) fun a S => ?_
      refine lq (.int .i64 (W (x88 + (1 : Int)))) S (q_assign rfl) fun a S => ?_
      refine lx_nil ?_
      exact ⟨m151, Nat.lt_succ_self _, x204, (W (x88 + (1 : Int))), S.sub ⟨rfl, rfl, rfl, trivial⟩, H, it_cont hm hc153⟩
  ·have hm := ite_f hc154 hm
   refine wp_exit ?_
   refine then_exit ?_
   refine then_exit ?_
   refine inBlock_exit ?_
   obtain rfl := it_brk hm hc153
   exact ⟨x87, S.sub ⟨rfl, trivial⟩, H, rfl⟩
end Go.Proofs.Ytecknjdlbmmmiaa
