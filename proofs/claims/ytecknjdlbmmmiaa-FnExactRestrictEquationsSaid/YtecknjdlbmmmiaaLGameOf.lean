/- The model of a statement and its walk (printed by a program of this repo). -/
import Derived.Test.YtecknjdlbmmmiaaF0
import Derived.Test.YtecknjdlbmmmiaaF2
import Derived.Test.YtecknjdlbmmmiaaF4
import Derived.Test.YtecknjdlbmmmiaaF5
import Derived.Test.YtecknjdlbmmmiaaF6
import Derived.Test.YtecknjdlbmmmiaaF8
import Derived.Test.YtecknjdlbmmmiaaGxT
namespace Go.Proofs.Ytecknjdlbmmmiaa
open Go.RowKit Go.Gx

/-- spec.l22Blocks -/
def spec_l22Blocks_m (fuel : Nat) (a0 : (List Timpl_Equation)) : Option ((List Int)) :=
  (iter (fun (s : (List Int) × (Int)) => (match s with | (xs89, x91) => (if (decide (x91 < (a0.length : Int))) = true then (idx xs89 (W (x91 - (1 : Int)))).bind fun x158 => join (κ := Int → Option (((List Int) × (Int)) ⊕ (((List Int)) ⊕ ((List Int))))) (fun (x163 : Int) => (app xs89 [x163]).bind fun x169 => some (.inl (x169, (W (x91 + (1 : Int)))))) (fun K164 => (idx a0 x91).bind fun x176 => (idx a0 (W (x91 - (1 : Int)))).bind fun x191 => (if (x176.1 != x191.1) = true then (K164 (W (x158 + (1 : Int)))) else (K164 x158))) else some (.inr (.inl (xs89)))) : Option (((List Int) × (Int)) ⊕ (((List Int)) ⊕ ((List Int)))))) fuel ([(0 : Int)], (1 : Int))).bind fun res149 => ctl (β := (List Int)) (ρ := (List Int)) (τ := (List Int)) res149 (fun (xs147) => some (xs147)) (fun q => some (q))
set_option maxRecDepth 20000 in
theorem spec_l22Blocks_ok {w0 : World} {fuel : Nat} {p0 : Value} {a0 : (List Timpl_Equation)} {r : (List Int)} (h0 : Rd (rList Rimpl_Equation) w0 p0 a0) (hm : spec_l22Blocks_m fuel a0 = some r) :
  Calls Try.prog 118 #[p0] w0 fun e w => ∃ (v0 : Value), e = .returned (v0) ∧ Heap w0 [oA (rList (rInt .i64)) v0 r] w := by
 unfold spec_l22Blocks_m at hm
 have H := Heap.start w0
 refine enter (args := [p0]) Try.func118 rfl 37 rfl (Nat.le_of_ble_eq_true rfl) (fun a S => ?_)
 refine wp_seq (region_plain ?_)
 refine lq (.slice none 0 0) S (q_assign rfl) fun a S => ?_
 refine lx_nil (thenN ?_)
 refine wp_seq (region_plain ?_)
 refine lx_buildSlice (r := (rInt .i64)) (xs := [(0 : Int)]) (ps := [(0, [(.int .i64 (0 : Int))])]) (cs := [(.int .i64 (0 : Int))]) (parts := [(0, .const (.int .i64 (0)))]) S trivial (by decide) rfl (H.put0 (A := eA) rfl) rfl Try.underlying23 Try.sizeOf2 Try.zeroValue2 (by decide) ⟨rfl, rfl, Nat.le_of_ble_eq_true rfl, trivial⟩ (by intro zs hz; exact fill_dense hz ⟨rfl, trivial⟩ rfl rfl) rfl (by decide) (fun w F hA => by cases (show F = [] from hA); exact ⟨_, _, [(.int .i64 (0 : Int))], _, rfl, rfl, ⟨rfl, rfl⟩, ⟨rfl, rfl⟩⟩) (fun v31 w32 H => ⟨trivial, fun a S => ?_⟩)
 refine lq v31 S (q_assign rfl) fun a S => ?_
 refine lx_nil (thenN ?_)
 refine wp_seq (wp_seq (region_plain ?_))
 refine lq (.int .i64 (1 : Int)) S (q_assign rfl) fun a S => ?_
 refine lx_nil (thenN ?_)
 obtain ⟨res149, hit150, hk153⟩ := bind_some hm
 obtain ⟨f151, hf152, hit150⟩ := iter_name hit150
 refine block_loop (fun a w => ∃ (xs147 : List Int) (v146 : Value), Slots a 37 [(3, v146)] ∧ Heap w0 [oA (rList (rInt .i64)) v146 xs147] w ∧ res149 = .inl (xs147)) ?_ ?_
 ·rintro a w ⟨xs147, v146, S, H, rfl⟩
  have hm := ctl_inl hk153
  refine thenN ?_
  refine wp_seq (region_plain ?_)
  refine lq v146 S (q_move rfl) fun a S => ?_
  refine lq v146 S (q_assign rfl) fun a S => ?_
  refine lx_nil (thenN ?_)
  refine wp_ret ?_
  obtain rfl := Option.some.inj hm
  exact leave1 S rfl rfl ⟨v146, rfl, H⟩
 ·skip
  refine loop_ghost (fun n a w => ∃ (xs89 : List Int) (x91 : Int) (v88 : Value), Slots a 37 [(0, p0), (3, v88), (4, (.int .i64 x91))] ∧ Heap w0 [oA (rList (rInt .i64)) v88 xs89] w ∧ iter f151 n (xs89, x91) = some res149) _ ⟨[(0 : Int)], (1 : Int), v31, S.sub ⟨rfl, rfl, rfl, trivial⟩, H, hit150⟩ ?_
  rintro n a w ⟨xs89, x91, v88, S, H, hit150⟩
  obtain ⟨m154, o155, rfl, hm, hc156⟩ := iter_step hit150
  rw [hf152] at hm
  refine wp_seq (wp_seq (region_plain ?_))
  refine lq (.int .i64 x91) S (q_move rfl) fun a S => ?_
  refine lq p0 S (q_move rfl) fun a S => ?_
  refine lq (.int .i64 (a0.length : Int)) S (q_lenSl rfl (h0).isSl rfl Try.underlying36) fun a S => ?_
  refine lq (.bool (decide (x91 < (a0.length : Int)))) S (q_lss rfl rfl) fun a S => ?_
  refine lx_nil (thenN ?_)
  refine cond_b S rfl (fun hc157 => ?_) (fun hc157 => ?_)
  ·have hm := ite_t hc157 hm
   refine wp_skip (thenN ?_)
   refine wp_seq ?_
   refine wp_block ?_
   refine wp_seq (region_plain ?_)
   refine lq v88 S (q_move rfl) fun a S => ?_
   refine lq (.int .i64 x91) S (q_move rfl) fun a S => ?_
   refine lq (.int .i64 (W (x91 - (1 : Int)))) S (q_sub rfl rfl) fun a S => ?_
   obtain ⟨x158, e159, hm⟩ := bind_some hm
   have hlt := lt_of_idx (idx_some e159).2
   refine lq (ePtr v88 ((W (x91 - (1 : Int))).toNat * 1)) S (q_indexAddr rfl (H.isSl 0 rfl) rfl (idx_some e159).1 hlt Try.underlying23 Try.sizeOf2) fun a S => ?_
   obtain ⟨c160, h161, hat162⟩ := (H.rdAt 0 rfl).elem (idx_some e159).2
   obtain rfl := h161
   refine lx_e (.int .i64 x158) S trivial (by decide) rfl trivial (q_load1 rfl Try.isAgg2 (by rintro _ rfl; exact (hat162 0 _ rfl))) (fun a S => ?_)
   refine lq (.int .i64 x158) S (q_assign rfl) fun a S => ?_
   refine lx_nil (thenN ?_)
   obtain ⟨K164, hK165, hm⟩ := join_elim hm
   refine seq_cut (fun a w => ∃ (x163 : Int), Slots a 37 [(0, p0), (3, v88), (4, (.int .i64 x91)), (5, (.int .i64 x163))] ∧ Heap w0 [oA (rList (rInt .i64)) v88 xs89] w ∧ K164 x163 = some o155) ?_ ?_
   ·rintro a w ⟨x163, S, H, hm⟩
    subst hK165
    refine region_plain ?_
    refine lq v88 S (q_move rfl) fun a S => ?_
    refine lq (.int .i64 x163) S (q_move rfl) fun a S => ?_
    refine lx_buildSlice (r := (rInt .i64)) (xs := [x163]) (ps := [(0, [(.int .i64 x163)])]) (cs := [(.int .i64 x163)]) (parts := [(0, .tmp 33)]) S trivial (by decide) rfl (H.put0 (A := eA) rfl) rfl Try.underlying23 Try.sizeOf2 Try.zeroValue2 (by decide) ⟨rfl, rfl, Nat.le_of_ble_eq_true rfl, trivial⟩ (by intro zs hz; exact fill_dense hz ⟨rfl, trivial⟩ rfl rfl) rfl (by decide) (fun w F hA => by cases (show F = [] from hA); exact ⟨_, _, [(.int .i64 x163)], _, rfl, rfl, ⟨rfl, rfl⟩, ⟨rfl, rfl⟩⟩) (fun v166 w167 H => ⟨trivial, fun a S => ?_⟩)
    obtain ⟨x169, e170, hm⟩ := bind_some hm
    obtain ⟨hle, hap⟩ := app_some e170
    replace hap := hap.symm
    subst hap
    have H : Heap w0 [oA (rList (rInt .i64)) v166 [x163], oA (rList (rInt .i64)) v88 xs89] w167 := H.front 0 rfl
    have H : Heap w0 [oA (rList (rInt .i64)) v88 xs89, oA (rList (rInt .i64)) v166 [x163]] w167 := H.front 1 rfl
    refine lx_appendOwn (r := (rInt .i64)) S trivial (by decide) rfl H rfl rfl Try.underlying23 Try.ti2 rfl rfl rfl (by decide) (by decide) hle (fun v171 w172 H => ⟨trivial, fun a S => ?_⟩)
    refine lq v171 S (q_assign rfl) fun a S => ?_
    refine lx_nil ?_
    refine inBlock_norm ?_
    refine thenN ?_
    refine region_plain ?_
    refine lq (.int .i64 x91) S (q_move rfl) fun a S => ?_
    refine lq (.int .i64 (W (x91 + (1 : Int)))) S (q_add rfl rfl) fun a S => ?_
    refine lq (.int .i64 (W (x91 + (1 : Int)))) S (q_assign rfl) fun a S => ?_
    refine lx_nil ?_
    exact ⟨m154, Nat.lt_succ_self _, (xs89 ++ [x163]), (W (x91 + (1 : Int))), v171, S.sub ⟨rfl, rfl, rfl, trivial⟩, H, it_cont hm hc156⟩
   ·skip
    refine wp_seq ?_
    refine region_drawG (fun w1 => Heap w0 [] w1) (fun i => [].contains i) mixed (by kernel_rfl) (fun w175 he174 => ?_)
    have H := H.later he174
    refine ⟨H.sel [] (by decide), ?_⟩
    refine lq p0 S (q_move rfl) fun a S => ?_
    refine lq (.int .i64 x91) S (q_move rfl) fun a S => ?_
    obtain ⟨x176, e177, hm⟩ := bind_some hm
    obtain ⟨c178, h179, hat180⟩ := (h0).elem (idx_some e177).2
    obtain ⟨c183, c184, rfl, h185, h186⟩ := h179
    obtain rfl := h185
    obtain ⟨c187, c188, rfl, h189, h190⟩ := h186
    obtain rfl := h189
    obtain ⟨v181, rfl, h182⟩ := rd_list h190
    have hlt := lt_of_idx (idx_some e177).2
    refine lq (ePtr p0 (x91.toNat * 3)) S (q_indexAddr rfl (h0).isSl rfl (idx_some e177).1 hlt Try.underlying36 Try.sizeOf85) fun a S => ?_
    refine lq (pAdd (ePtr p0 (x91.toNat * 3)) 0) S (q_fieldAddr' 0 4 rfl ((hat180 0 _ rfl).isP) Try.underlying85 rfl Try.sizeOf4) fun a S => ?_
    refine lq (.bool x176.1) S (q_load1 rfl Try.isAgg4 (fun w1 hC => (At.of_add (m := 0) (j := 0) ((hat180 0 _ rfl).ext hC.ext)))) fun a S => ?_
    refine lq p0 S (q_move rfl) fun a S => ?_
    refine lq (.int .i64 x91) S (q_move rfl) fun a S => ?_
    refine lq (.int .i64 (W (x91 - (1 : Int)))) S (q_sub rfl rfl) fun a S => ?_
    obtain ⟨x191, e192, hm⟩ := bind_some hm
    obtain ⟨c193, h194, hat195⟩ := (h0).elem (idx_some e192).2
    obtain ⟨c198, c199, rfl, h200, h201⟩ := h194
    obtain rfl := h200
    obtain ⟨c202, c203, rfl, h204, h205⟩ := h201
    obtain rfl := h204
    obtain ⟨v196, rfl, h197⟩ := rd_list h205
    have hlt := lt_of_idx (idx_some e192).2
    refine lq (ePtr p0 ((W (x91 - (1 : Int))).toNat * 3)) S (q_indexAddr rfl (h0).isSl rfl (idx_some e192).1 hlt Try.underlying36 Try.sizeOf85) fun a S => ?_
    refine lq (pAdd (ePtr p0 ((W (x91 - (1 : Int))).toNat * 3)) 0) S (q_fieldAddr' 0 4 rfl ((hat195 0 _ rfl).isP) Try.underlying85 rfl Try.sizeOf4) fun a S => ?_
    refine lq (.bool x191.1) S (q_load1 rfl Try.isAgg4 (fun w1 hC => (At.of_add (m := 0) (j := 0) ((hat195 0 _ rfl).ext hC.ext)))) fun a S => ?_
    refine lq (.bool (x176.1 != x191.1)) S (q_bneq rfl rfl Try.underlying4) fun a S => ?_
    refine lx_nil (thenN ?_)
    refine cond_b S rfl (fun hc206 => ?_) (fun hc206 => ?_)
    ·have hm := ite_t hc206 hm
     refine region_plain ?_
     refine lq (.int .i64 x158) S (q_move rfl) fun a S => ?_
     refine lq (.int .i64 (W (x158 + (1 : Int)))) S (q_add rfl rfl) fun a S => ?_
     refine lq (.int .i64 (W (x158 + (1 : Int)))) S (q_assign rfl) fun a S => ?_
     refine lx_nil ?_
     exact ⟨(W (x158 + (1 : Int))), S.sub ⟨rfl, rfl, rfl, rfl, trivial⟩, H, hm⟩
    ·have hm := ite_f hc206 hm
     refine wp_skip ?_
     exact ⟨x158, S.sub ⟨rfl, rfl, rfl, rfl, trivial⟩, H, hm⟩
  ·have hm := ite_f hc157 hm
   refine wp_exit ?_
   refine then_exit ?_
   refine then_exit ?_
   refine inBlock_exit ?_
   obtain rfl := it_brk hm hc156
   exact ⟨xs89, v88, S.sub ⟨rfl, trivial⟩, H, rfl⟩

/-- spec.l22Game -/
def spec_l22Game_m (fuel : Nat) (a0 : (List Timpl_Equation)) : Option ((List Timpl_Vertex)) :=
  (spec_l22Blocks_m fuel a0).bind fun x33 => (iter (fun (s : (List Timpl_Vertex) × (Int)) => (match s with | (xs4106, x4108) => (if (decide (x4108 < (a0.length : Int))) = true then join (κ := Int → Int → List Int → Option (((List Timpl_Vertex) × (Int)) ⊕ (((List Timpl_Vertex)) ⊕ ((List Timpl_Vertex))))) (fun (x8187 : Int) (x8188 : Int) (xs8190 : List Int) => join (κ := Int → Option (((List Timpl_Vertex) × (Int)) ⊕ (((List Timpl_Vertex)) ⊕ ((List Timpl_Vertex))))) (fun (x8194 : Int) => join (κ := Int → Option (((List Timpl_Vertex) × (Int)) ⊕ (((List Timpl_Vertex)) ⊕ ((List Timpl_Vertex))))) (fun (x8197 : Int) => (app xs4106 [(x8194, x8197, xs8190)]).bind fun x8203 => some (.inl (x8203, (W (x4108 + (1 : Int)))))) (fun K8198 => (idx a0 (0 : Int)).bind fun x8208 => (if (!x8208.1) = true then (K8198 (W (x8188 + (1 : Int)))) else (K8198 x8188)))) (fun K8195 => (idx a0 x4108).bind fun x8225 => (if x8225.2.1 = true then (K8195 (1 : Int)) else (K8195 x8187)))) (fun K8192 => (idx x33 x4108).bind fun x8244 => (idx a0 x4108).bind fun x8246 => (spec_l00Own_m fuel x8246.2.2).bind fun x8263 => (K8192 (0 : Int) x8244 x8263)) else some (.inr (.inl (xs4106)))) : Option (((List Timpl_Vertex) × (Int)) ⊕ (((List Timpl_Vertex)) ⊕ ((List Timpl_Vertex)))))) fuel (([] : List Timpl_Vertex), (0 : Int))).bind fun res8176 => ctl (β := (List Timpl_Vertex)) (ρ := (List Timpl_Vertex)) (τ := (List Timpl_Vertex)) res8176 (fun (xs8174) => some (xs8174)) (fun q => some (q))
set_option maxRecDepth 20000 in
theorem spec_l22Game_ok {w0 : World} {fuel : Nat} {p0 : Value} {a0 : (List Timpl_Equation)} {r : (List Timpl_Vertex)} (h0 : Rd (rList Rimpl_Equation) w0 p0 a0) (hm : spec_l22Game_m fuel a0 = some r) :
  Calls Try.prog 69 #[p0] w0 fun e w => ∃ (v0 : Value), e = .returned (v0) ∧ Heap w0 [oA (rList Rimpl_Vertex) v0 r] w := by
 unfold spec_l22Game_m at hm
 have H := Heap.start w0
 refine enter (args := [p0]) Try.func69 rfl 47 rfl (Nat.le_of_ble_eq_true rfl) (fun a S => ?_)
 refine wp_seq (region_plain ?_)
 refine lq (.slice none 0 0) S (q_assign rfl) fun a S => ?_
 refine lx_nil (thenN ?_)
 refine wp_seq (region_plain ?_)
 refine lq p0 S (q_move rfl) fun a S => ?_
 obtain ⟨x33, e34, hm⟩ := bind_some hm
 refine lx_call (xs := [.tmp 7]) S trivial (by decide) rfl rfl Try.call118 ((spec_l22Blocks_ok (H.arg h0) e34).mono ?_)
 rintro e w31 ⟨v35, rfl, Hc32⟩
 have H := H.call1 Hc32
 refine ⟨_, rfl, trivial, fun a S => ?_⟩
 refine lq v35 S (q_assign rfl) fun a S => ?_
 refine lx_nil (thenN ?_)
 refine wp_seq (region_plain ?_)
 refine lx_buildSlice0 (r := Rimpl_Vertex) S trivial (by decide) rfl H Try.underlying26 Try.sizeOf71 (fun v38 w39 H => ⟨trivial, fun a S => ?_⟩)
 refine lq v38 S (q_assign rfl) fun a S => ?_
 refine lx_nil (thenN ?_)
 refine wp_seq (wp_seq (region_plain ?_))
 refine lq (.int .i64 (0 : Int)) S (q_assign rfl) fun a S => ?_
 refine lx_nil (thenN ?_)
 obtain ⟨res8176, hit8177, hk8180⟩ := bind_some hm
 obtain ⟨f8178, hf8179, hit8177⟩ := iter_name hit8177
 refine block_loop (fun a w => ∃ (xs8174 : List Timpl_Vertex) (v8173 : Value), Slots a 47 [(4, v8173)] ∧ Heap w0 [oA (rList Rimpl_Vertex) v8173 xs8174] w ∧ res8176 = .inl (xs8174)) ?_ ?_
 ·rintro a w ⟨xs8174, v8173, S, H, rfl⟩
  have hm := ctl_inl hk8180
  refine thenN ?_
  refine wp_seq (region_plain ?_)
  refine lq v8173 S (q_move rfl) fun a S => ?_
  refine lq v8173 S (q_assign rfl) fun a S => ?_
  refine lx_nil (thenN ?_)
  refine wp_ret ?_
  obtain rfl := Option.some.inj hm
  exact leave1 S rfl rfl ⟨v8173, rfl, H⟩
 ·skip
  have H : Heap w0 [oA (rList (rInt .i64)) v35 x33, oA (rList Rimpl_Vertex) v38 ([] : List Timpl_Vertex)] w39 := H.front 1 rfl
  refine loop_ghost (fun n a w => ∃ (xs4106 : List Timpl_Vertex) (x4108 : Int) (v4105 : Value), Slots a 47 [(0, p0), (3, v35), (4, v4105), (5, (.int .i64 x4108))] ∧ Heap w0 [oA (rList (rInt .i64)) v35 x33, oA (rList Rimpl_Vertex) v4105 xs4106] w ∧ iter f8178 n (xs4106, x4108) = some res8176) _ ⟨([] : List Timpl_Vertex), (0 : Int), v38, S.sub ⟨rfl, rfl, rfl, rfl, trivial⟩, H, hit8177⟩ ?_
  rintro n a w ⟨xs4106, x4108, v4105, S, H, hit8177⟩
  obtain ⟨m8181, o8182, rfl, hm, hc8183⟩ := iter_step hit8177
  rw [hf8179] at hm
  refine wp_seq (wp_seq (region_plain ?_))
  refine lq (.int .i64 x4108) S (q_move rfl) fun a S => ?_
  refine lq p0 S (q_move rfl) fun a S => ?_
  refine lq (.int .i64 (a0.length : Int)) S (q_lenSl rfl (h0).isSl rfl Try.underlying36) fun a S => ?_
  refine lq (.bool (decide (x4108 < (a0.length : Int)))) S (q_lss rfl rfl) fun a S => ?_
  refine lx_nil (thenN ?_)
  refine cond_b S rfl (fun hc8184 => ?_) (fun hc8184 => ?_)
  ·have hm := ite_t hc8184 hm
   refine wp_skip (thenN ?_)
   refine wp_seq ?_
   refine wp_block ?_
   obtain ⟨K8192, hK8193, hm⟩ := join_elim hm
   refine seq_cut (fun a w => ∃ (x8187 : Int) (x8188 : Int) (xs8190 : List Int) (b8185 : Nat) (v8189 : Value), Slots a 47 [(0, p0), (3, v35), (4, v4105), (5, (.int .i64 x4108)), (6, (bp b8185))] ∧ Heap w0 [oA (rList (rInt .i64)) v35 x33, oA (rList Rimpl_Vertex) v4105 xs4106, bA b8185 [(.int .i64 x8187), (.int .i64 x8188), v8189] 71, oA (rList (rInt .i64)) v8189 xs8190] w ∧ K8192 x8187 x8188 xs8190 = some o8182) ?_ ?_
   ·rintro a w ⟨x8187, x8188, xs8190, b8185, v8189, S, H, hm⟩
    subst hK8193
    obtain ⟨K8195, hK8196, hm⟩ := join_elim hm
    refine seq_cut (fun a w => ∃ (x8194 : Int), Slots a 47 [(0, p0), (3, v35), (4, v4105), (5, (.int .i64 x4108)), (6, (bp b8185))] ∧ Heap w0 [oA (rList (rInt .i64)) v35 x33, oA (rList Rimpl_Vertex) v4105 xs4106, bA b8185 [(.int .i64 x8194), (.int .i64 x8188), v8189] 71, oA (rList (rInt .i64)) v8189 xs8190] w ∧ K8195 x8194 = some o8182) ?_ ?_
    ·rintro a w ⟨x8194, S, H, hm⟩
     subst hK8196
     obtain ⟨K8198, hK8199, hm⟩ := join_elim hm
     refine seq_cut (fun a w => ∃ (x8197 : Int), Slots a 47 [(0, p0), (3, v35), (4, v4105), (5, (.int .i64 x4108)), (6, (bp b8185))] ∧ Heap w0 [oA (rList (rInt .i64)) v35 x33, oA (rList Rimpl_Vertex) v4105 xs4106, bA b8185 [(.int .i64 x8194), (.int .i64 x8197), v8189] 71, oA (rList (rInt .i64)) v8189 xs8190] w ∧ K8198 x8197 = some o8182) ?_ ?_
     ·rintro a w ⟨x8197, S, H, hm⟩
      subst hK8199
      refine region_plain ?_
      refine lq v4105 S (q_move rfl) fun a S => ?_
      refine lx_e (.agg #[(.int .i64 x8194), (.int .i64 x8197), v8189]) S trivial (by decide) rfl trivial (q_loadA (cs := [(.int .i64 x8194), (.int .i64 x8197), v8189]) rfl (isP_bp _) Try.isAgg71 Try.sizeOf71 (by rintro _ rfl; exact (fun j u hu => boxAt (i := 2) H rfl hu))) (fun a S => ?_)
      have H : Heap w0 [oA (rList (rInt .i64)) v8189 xs8190, oA (rList (rInt .i64)) v35 x33, oA (rList Rimpl_Vertex) v4105 xs4106, bA b8185 [(.int .i64 x8194), (.int .i64 x8197), v8189] 71] w := H.front 3 rfl
      refine lx_buildSlice (r := Rimpl_Vertex) (xs := [(x8194, x8197, xs8190)]) (ps := [(0, [(.int .i64 x8194), (.int .i64 x8197), v8189])]) (cs := [(.int .i64 x8194), (.int .i64 x8197), v8189]) (parts := [(0, .tmp 43)]) S trivial (by decide) rfl H rfl Try.underlying26 Try.sizeOf71 Try.zeroValue71 (by decide) ⟨rfl, rfl, Nat.le_of_ble_eq_true rfl, trivial⟩ (by intro zs hz; exact fill_dense hz ⟨rfl, trivial⟩ rfl rfl) rfl (by decide) (fun w F hA => ownL_one_mk (ownF ⟨_, _, [(.int .i64 x8194)], [(.int .i64 x8197), v8189], rfl, rfl, ⟨rfl, rfl⟩, ⟨_, _, [(.int .i64 x8197)], [v8189], rfl, rfl, ⟨rfl, rfl⟩, (oA_list.1 hA)⟩⟩)) (fun v8200 w8201 H => ⟨trivial, fun a S => ?_⟩)
      obtain ⟨x8203, e8204, hm⟩ := bind_some hm
      obtain ⟨hle, hap⟩ := app_some e8204
      replace hap := hap.symm
      subst hap
      have H : Heap w0 [oA (rList Rimpl_Vertex) v8200 [(x8194, x8197, xs8190)], oA (rList (rInt .i64)) v35 x33, oA (rList Rimpl_Vertex) v4105 xs4106, bA b8185 [(.int .i64 x8194), (.int .i64 x8197), v8189] 71] w8201 := H.front 0 rfl
      have H : Heap w0 [oA (rList Rimpl_Vertex) v4105 xs4106, oA (rList Rimpl_Vertex) v8200 [(x8194, x8197, xs8190)], oA (rList (rInt .i64)) v35 x33, bA b8185 [(.int .i64 x8194), (.int .i64 x8197), v8189] 71] w8201 := H.front 2 rfl
      refine lx_appendOwn (r := Rimpl_Vertex) S trivial (by decide) rfl H rfl rfl Try.underlying26 Try.ti71 rfl rfl rfl (by decide) (by decide) hle (fun v8205 w8206 H => ⟨trivial, fun a S => ?_⟩)
      refine lq v8205 S (q_assign rfl) fun a S => ?_
      refine lx_nil ?_
      refine inBlock_norm ?_
      refine thenN ?_
      refine region_plain ?_
      refine lq (.int .i64 x4108) S (q_move rfl) fun a S => ?_
      refine lq (.int .i64 (W (x4108 + (1 : Int)))) S (q_add rfl rfl) fun a S => ?_
      refine lq (.int .i64 (W (x4108 + (1 : Int)))) S (q_assign rfl) fun a S => ?_
      refine lx_nil ?_
      have H : Heap w0 [oA (rList (rInt .i64)) v35 x33, oA (rList Rimpl_Vertex) v8205 (xs4106 ++ [(x8194, x8197, xs8190)]), bA b8185 [(.int .i64 x8194), (.int .i64 x8197), v8189] 71] w8206 := H.front 1 rfl
      have H : Heap w0 [oA (rList (rInt .i64)) v35 x33, oA (rList Rimpl_Vertex) v8205 (xs4106 ++ [(x8194, x8197, xs8190)])] w8206 := H.sel [0, 1] (by decide)
      exact ⟨m8181, Nat.lt_succ_self _, (xs4106 ++ [(x8194, x8197, xs8190)]), (W (x4108 + (1 : Int))), v8205, S.sub ⟨rfl, rfl, rfl, rfl, trivial⟩, H, it_cont hm hc8183⟩
     ·skip
      refine wp_seq (region_plain ?_)
      refine lq p0 S (q_move rfl) fun a S => ?_
      obtain ⟨x8208, e8209, hm⟩ := bind_some hm
      obtain ⟨c8210, h8211, hat8212⟩ := (h0).elem (idx_some e8209).2
      obtain ⟨c8215, c8216, rfl, h8217, h8218⟩ := h8211
      obtain rfl := h8217
      obtain ⟨c8219, c8220, rfl, h8221, h8222⟩ := h8218
      obtain rfl := h8221
      obtain ⟨v8213, rfl, h8214⟩ := rd_list h8222
      have hlt := lt_of_idx (idx_some e8209).2
      refine lq (ePtr p0 ((0 : Int).toNat * 3)) S (q_indexAddr rfl (h0).isSl rfl (idx_some e8209).1 hlt Try.underlying36 Try.sizeOf85) fun a S => ?_
      refine lq (pAdd (ePtr p0 ((0 : Int).toNat * 3)) 0) S (q_fieldAddr' 0 4 rfl ((hat8212 0 _ rfl).isP) Try.underlying85 rfl Try.sizeOf4) fun a S => ?_
      refine lx_e (.bool x8208.1) S trivial (by decide) rfl trivial (q_load1 rfl Try.isAgg4 (by rintro _ rfl; exact (At.of_add (m := 0) (j := 0) ((hat8212 0 _ rfl).ext H.ext)))) (fun a S => ?_)
      refine lq (.bool (!x8208.1)) S (q_not rfl) fun a S => ?_
      refine lx_nil (thenN ?_)
      refine cond_b S rfl (fun hc8223 => ?_) (fun hc8223 => ?_)
      ·have hm := ite_t hc8223 hm
       refine region_plain ?_
       refine lq (pAdd (bp b8185) 1) S (q_fieldAddr' 1 2 rfl (isP_bp _) Try.underlying71 rfl Try.sizeOf2) fun a S => ?_
       refine lx_e (.int .i64 x8188) S trivial (by decide) rfl trivial (q_load1 rfl Try.isAgg2 (by rintro _ rfl; exact (At.of_add (m := 1) (j := 0) (boxAt (i := 2) H rfl (j := 1) rfl)))) (fun a S => ?_)
       refine lq (.int .i64 (W (x8188 + (1 : Int)))) S (q_add rfl rfl) fun a S => ?_
       refine lq (pAdd (bp b8185) 1) S (q_fieldAddr' 1 2 rfl (isP_bp _) Try.underlying71 rfl Try.sizeOf2) fun a S => ?_
       refine lx_storeBox (o := 1) (i := 2) (us := [(.int .i64 (W (x8188 + (1 : Int))))]) (cs' := [(.int .i64 x8194), (.int .i64 (W (x8188 + (1 : Int)))), v8189]) S trivial rfl H rfl rfl rfl rfl Try.sizeOf2 (Nat.le_of_ble_eq_true rfl) (List.forall_mem_cons.2 ⟨rfl, (fun _ h => nomatch h)⟩) rfl (fun w8224 H => ⟨trivial, fun a S => ?_⟩)
       change Heap w0 [oA (rList (rInt .i64)) v35 x33, oA (rList Rimpl_Vertex) v4105 xs4106, bA b8185 [(.int .i64 x8194), (.int .i64 (W (x8188 + (1 : Int)))), v8189] 71, oA (rList (rInt .i64)) v8189 xs8190] w8224 at H
       refine lx_nil ?_
       exact ⟨(W (x8188 + (1 : Int))), S.sub ⟨rfl, rfl, rfl, rfl, rfl, trivial⟩, H, hm⟩
      ·have hm := ite_f hc8223 hm
       refine wp_skip ?_
       exact ⟨x8188, S.sub ⟨rfl, rfl, rfl, rfl, rfl, trivial⟩, H, hm⟩
    ·skip
     refine wp_seq (region_plain ?_)
     refine lq p0 S (q_move rfl) fun a S => ?_
     refine lq (.int .i64 x4108) S (q_move rfl) fun a S => ?_
     obtain ⟨x8225, e8226, hm⟩ := bind_some hm
     obtain ⟨c8227, h8228, hat8229⟩ := (h0).elem (idx_some e8226).2
     obtain ⟨c8232, c8233, rfl, h8234, h8235⟩ := h8228
     obtain rfl := h8234
     obtain ⟨c8236, c8237, rfl, h8238, h8239⟩ := h8235
     obtain rfl := h8238
     obtain ⟨v8230, rfl, h8231⟩ := rd_list h8239
     have hlt := lt_of_idx (idx_some e8226).2
     refine lq (ePtr p0 (x4108.toNat * 3)) S (q_indexAddr rfl (h0).isSl rfl (idx_some e8226).1 hlt Try.underlying36 Try.sizeOf85) fun a S => ?_
     refine lq (pAdd (ePtr p0 (x4108.toNat * 3)) 1) S (q_fieldAddr' 1 4 rfl ((hat8229 0 _ rfl).isP) Try.underlying85 rfl Try.sizeOf4) fun a S => ?_
     refine lx_e (.bool x8225.2.1) S trivial (by decide) rfl trivial (q_load1 rfl Try.isAgg4 (by rintro _ rfl; exact (At.of_add (m := 1) (j := 0) ((hat8229 1 _ rfl).ext H.ext)))) (fun a S => ?_)
     refine lx_nil (thenN ?_)
     refine cond_b S rfl (fun hc8240 => ?_) (fun hc8240 => ?_)
     ·have hm := ite_t hc8240 hm
      refine region_plain ?_
      refine lq (pAdd (bp b8185) 0) S (q_fieldAddr' 0 2 rfl (isP_bp _) Try.underlying71 rfl Try.sizeOf2) fun a S => ?_
      refine lx_storeBox (o := 0) (i := 2) (us := [(.int .i64 (1 : Int))]) (cs' := [(.int .i64 (1 : Int)), (.int .i64 x8188), v8189]) S trivial rfl H rfl rfl rfl rfl Try.sizeOf2 (Nat.le_of_ble_eq_true rfl) (List.forall_mem_cons.2 ⟨rfl, (fun _ h => nomatch h)⟩) rfl (fun w8241 H => ⟨trivial, fun a S => ?_⟩)
      change Heap w0 [oA (rList (rInt .i64)) v35 x33, oA (rList Rimpl_Vertex) v4105 xs4106, bA b8185 [(.int .i64 (1 : Int)), (.int .i64 x8188), v8189] 71, oA (rList (rInt .i64)) v8189 xs8190] w8241 at H
      refine lx_nil ?_
      exact ⟨(1 : Int), S.sub ⟨rfl, rfl, rfl, rfl, rfl, trivial⟩, H, hm⟩
     ·have hm := ite_f hc8240 hm
      refine wp_skip ?_
      exact ⟨x8187, S.sub ⟨rfl, rfl, rfl, rfl, rfl, trivial⟩, H, hm⟩
   ·skip
    refine region_draw2 (m := [_, _, _, _, _, _, _, _, _, _, _, _, _]) (fun w1 => Heap w0 [oA (rList (rInt .i64)) v35 x33] w1) (fun i => [9, 11, 12].contains i) (fun i => [10, 0, 12].contains i) [11, 0, 1, 2, 3, 4, 5, 6, 7, 8, 9, 10, 12] 9 11 mixed (by kernel_rfl) rfl rfl rfl (fun w8243 he8242 => ?_)
    have H := H.later he8242
    refine ⟨⟨H.sel [0] (by decide), ?_⟩, ?_⟩
    ·skip
     refine lq v35 S (q_move rfl) fun a S => ?_
     refine lq (.int .i64 x4108) S (q_move rfl) fun a S => ?_
     obtain ⟨x8244, e8245, hm⟩ := bind_some hm
     have hlt := lt_of_idx (idx_some e8245).2
     refine lq (ePtr v35 (x4108.toNat * 1)) S (q_indexAddr rfl (H.isSl 0 rfl) rfl (idx_some e8245).1 hlt Try.underlying23 Try.sizeOf2) fun a S => ?_
     refine lq (.int .i64 x8244) S (q_load1 rfl Try.isAgg2 (fun w1 hC => ((hC.rdAt 0 rfl).elemAt (j := 0) (idx_some e8245).2 (by intro B w cs h; obtain rfl := h; rfl)))) fun a S => ?_
     refine lq p0 S (q_move rfl) fun a S => ?_
     refine lq (.int .i64 x4108) S (q_move rfl) fun a S => ?_
     obtain ⟨x8246, e8247, hm⟩ := bind_some hm
     obtain ⟨c8248, h8249, hat8250⟩ := (h0).elem (idx_some e8247).2
     obtain ⟨c8253, c8254, rfl, h8255, h8256⟩ := h8249
     obtain rfl := h8255
     obtain ⟨c8257, c8258, rfl, h8259, h8260⟩ := h8256
     obtain rfl := h8259
     obtain ⟨v8251, rfl, h8252⟩ := rd_list h8260
     have hlt := lt_of_idx (idx_some e8247).2
     refine lq (ePtr p0 (x4108.toNat * 3)) S (q_indexAddr rfl (h0).isSl rfl (idx_some e8247).1 hlt Try.underlying36 Try.sizeOf85) fun a S => ?_
     refine lq (pAdd (ePtr p0 (x4108.toNat * 3)) 2) S (q_fieldAddr' 2 23 rfl ((hat8250 0 _ rfl).isP) Try.underlying85 rfl Try.sizeOf23) fun a S => ?_
     refine lq v8251 S (q_load1 rfl Try.isAgg23 (fun w1 hC => (At.of_add (m := 2) (j := 0) ((hat8250 2 _ rfl).ext hC.ext)))) fun a S => ?_
     obtain ⟨x8263, e8264, hm⟩ := bind_some hm
     refine lx_call (xs := [.tmp 24]) S trivial (by decide) rfl rfl Try.call119 ((spec_l00Own_ok (H.arg h8252) e8264).mono ?_)
     rintro e w8261 ⟨v8265, rfl, Hc8262⟩
     have he8267 := Hc8262.ext
     have H := H.call1 Hc8262
     refine ⟨_, rfl, H.sel [1] (by decide), fun a S => ?_⟩
     refine lq (.agg #[(.int .i64 (0 : Int)), (.int .i64 x8244), v8265]) S (q_build (zs := [(.int .i64 (0 : Int)), (.int .i64 (0 : Int)), (.slice none 0 0)]) (szs := [1, 1, 1]) (ps := [(1, [(.int .i64 x8244)]), (2, [v8265])]) (parts := [(1, .tmp 19), (2, .tmp 25)]) rfl Try.underlying71 Try.zeroValue71 (fun w => by simp [Try.sizeOf2, Try.sizeOf23]) ⟨rfl, rfl, Nat.le_of_ble_eq_true rfl, ⟨rfl, (cells_sl (H.isSl 0 rfl)), Nat.le_of_ble_eq_true rfl, trivial⟩⟩ rfl) fun a S => ?_
     refine lx_alloc S trivial (by decide) rfl H Try.zeroValue71 rfl (fun b8268 w8269 H => ⟨H.sel [2] (by decide), fun a S => ?_⟩)
     refine lx_storeBox (o := 0) (i := 0) (us := [(.int .i64 (0 : Int)), (.int .i64 x8244), v8265]) (cs' := [(.int .i64 (0 : Int)), (.int .i64 x8244), v8265]) S trivial rfl H rfl rfl rfl rfl Try.sizeOf71 (Nat.le_of_ble_eq_true rfl) (List.forall_mem_cons.2 ⟨rfl, (List.forall_mem_cons.2 ⟨rfl, (List.forall_mem_cons.2 ⟨one_sl (H.isSl 1 rfl), (fun _ h => nomatch h)⟩)⟩)⟩) rfl (fun w8271 H => ⟨H.sel [2] (by decide), fun a S => ?_⟩)
     change Heap w0 [bA b8268 [(.int .i64 (0 : Int)), (.int .i64 x8244), v8265] 71, oA (rList (rInt .i64)) v8265 x8263, oA (rList (rInt .i64)) v35 x33, oA (rList Rimpl_Vertex) v4105 xs4106] w8271 at H
     refine lx_nil ?_
     have H : Heap w0 [oA (rList (rInt .i64)) v8265 x8263, bA b8268 [(.int .i64 (0 : Int)), (.int .i64 x8244), v8265] 71, oA (rList (rInt .i64)) v35 x33, oA (rList Rimpl_Vertex) v4105 xs4106] w8271 := H.front 1 rfl
     have H : Heap w0 [bA b8268 [(.int .i64 (0 : Int)), (.int .i64 x8244), v8265] 71, oA (rList (rInt .i64)) v8265 x8263, oA (rList (rInt .i64)) v35 x33, oA (rList Rimpl_Vertex) v4105 xs4106] w8271 := H.front 1 rfl
     have H : Heap w0 [oA (rList Rimpl_Vertex) v4105 xs4106, bA b8268 [(.int .i64 (0 : Int)), (.int .i64 x8244), v8265] 71, oA (rList (rInt .i64)) v8265 x8263, oA (rList (rInt .i64)) v35 x33] w8271 := H.front 3 rfl
     have H : Heap w0 [oA (rList (rInt .i64)) v35 x33, oA (rList Rimpl_Vertex) v4105 xs4106, bA b8268 [(.int .i64 (0 : Int)), (.int .i64 x8244), v8265] 71, oA (rList (rInt .i64)) v8265 x8263] w8271 := H.front 3 rfl
     exact ⟨(0 : Int), x8244, x8263, b8268, v8265, S.sub ⟨rfl, rfl, rfl, rfl, rfl, trivial⟩, H, hm⟩
    ·skip
     refine lx_alloc S trivial (by decide) rfl H Try.zeroValue71 rfl (fun b8268 w8269 H => ⟨H.sel [1] (by decide), fun a S => ?_⟩)
     refine lq v35 S (q_move rfl) fun a S => ?_
     refine lq (.int .i64 x4108) S (q_move rfl) fun a S => ?_
     obtain ⟨x8244, e8245, hm⟩ := bind_some hm
     have hlt := lt_of_idx (idx_some e8245).2
     refine lq (ePtr v35 (x4108.toNat * 1)) S (q_indexAddr rfl (H.isSl 1 rfl) rfl (idx_some e8245).1 hlt Try.underlying23 Try.sizeOf2) fun a S => ?_
     refine lq (.int .i64 x8244) S (q_load1 rfl Try.isAgg2 (fun w1 hC => ((hC.rdAt 0 rfl).elemAt (j := 0) (idx_some e8245).2 (by intro B w cs h; obtain rfl := h; rfl)))) fun a S => ?_
     refine lq p0 S (q_move rfl) fun a S => ?_
     refine lq (.int .i64 x4108) S (q_move rfl) fun a S => ?_
     obtain ⟨x8246, e8247, hm⟩ := bind_some hm
     obtain ⟨c8248, h8249, hat8250⟩ := (h0).elem (idx_some e8247).2
     obtain ⟨c8253, c8254, rfl, h8255, h8256⟩ := h8249
     obtain rfl := h8255
     obtain ⟨c8257, c8258, rfl, h8259, h8260⟩ := h8256
     obtain rfl := h8259
     obtain ⟨v8251, rfl, h8252⟩ := rd_list h8260
     have hlt := lt_of_idx (idx_some e8247).2
     refine lq (ePtr p0 (x4108.toNat * 3)) S (q_indexAddr rfl (h0).isSl rfl (idx_some e8247).1 hlt Try.underlying36 Try.sizeOf85) fun a S => ?_
     refine lq (pAdd (ePtr p0 (x4108.toNat * 3)) 2) S (q_fieldAddr' 2 23 rfl ((hat8250 0 _ rfl).isP) Try.underlying85 rfl Try.sizeOf23) fun a S => ?_
     refine lq v8251 S (q_load1 rfl Try.isAgg23 (fun w1 hC => (At.of_add (m := 2) (j := 0) ((hat8250 2 _ rfl).ext hC.ext)))) fun a S => ?_
     obtain ⟨x8263, e8264, hm⟩ := bind_some hm
     refine lx_call (xs := [.tmp 24]) S trivial (by decide) rfl rfl Try.call119 ((spec_l00Own_ok (H.arg h8252) e8264).mono ?_)
     rintro e w8261 ⟨v8265, rfl, Hc8262⟩
     have he8267 := Hc8262.ext
     have H := H.call1 Hc8262
     refine ⟨_, rfl, H.sel [2] (by decide), fun a S => ?_⟩
     refine lq (.agg #[(.int .i64 (0 : Int)), (.int .i64 x8244), v8265]) S (q_build (zs := [(.int .i64 (0 : Int)), (.int .i64 (0 : Int)), (.slice none 0 0)]) (szs := [1, 1, 1]) (ps := [(1, [(.int .i64 x8244)]), (2, [v8265])]) (parts := [(1, .tmp 19), (2, .tmp 25)]) rfl Try.underlying71 Try.zeroValue71 (fun w => by simp [Try.sizeOf2, Try.sizeOf23]) ⟨rfl, rfl, Nat.le_of_ble_eq_true rfl, ⟨rfl, (cells_sl (H.isSl 0 rfl)), Nat.le_of_ble_eq_true rfl, trivial⟩⟩ rfl) fun a S => ?_
     refine lx_storeBox (o := 0) (i := 1) (us := [(.int .i64 (0 : Int)), (.int .i64 x8244), v8265]) (cs' := [(.int .i64 (0 : Int)), (.int .i64 x8244), v8265]) S trivial rfl H rfl rfl rfl rfl Try.sizeOf71 (Nat.le_of_ble_eq_true rfl) (List.forall_mem_cons.2 ⟨rfl, (List.forall_mem_cons.2 ⟨rfl, (List.forall_mem_cons.2 ⟨one_sl (H.isSl 0 rfl), (fun _ h => nomatch h)⟩)⟩)⟩) rfl (fun w8271 H => ⟨H.sel [2] (by decide), fun a S => ?_⟩)
     change Heap w0 [oA (rList (rInt .i64)) v8265 x8263, bA b8268 [(.int .i64 (0 : Int)), (.int .i64 x8244), v8265] 71, oA (rList (rInt .i64)) v35 x33, oA (rList Rimpl_Vertex) v4105 xs4106] w8271 at H
     refine lx_nil ?_
     have H : Heap w0 [bA b8268 [(.int .i64 (0 : Int)), (.int .i64 x8244), v8265] 71, oA (rList (rInt .i64)) v8265 x8263, oA (rList (rInt .i64)) v35 x33, oA (rList Rimpl_Vertex) v4105 xs4106] w8271 := H.front 1 rfl
     have H : Heap w0 [oA (rList Rimpl_Vertex) v4105 xs4106, bA b8268 [(.int .i64 (0 : Int)), (.int .i64 x8244), v8265] 71, oA (rList (rInt .i64)) v8265 x8263, oA (rList (rInt .i64)) v35 x33] w8271 := H.front 3 rfl
     have H : Heap w0 [oA (rList (rInt .i64)) v35 x33, oA (rList Rimpl_Vertex) v4105 xs4106, bA b8268 [(.int .i64 (0 : Int)), (.int .i64 x8244), v8265] 71, oA (rList (rInt .i64)) v8265 x8263] w8271 := H.front 3 rfl
     exact ⟨(0 : Int), x8244, x8263, b8268, v8265, S.sub ⟨rfl, rfl, rfl, rfl, rfl, trivial⟩, H, hm⟩
  ·have hm := ite_f hc8184 hm
   refine wp_exit ?_
   refine then_exit ?_
   refine then_exit ?_
   refine inBlock_exit ?_
   obtain rfl := it_brk hm hc8183
   have H : Heap w0 [oA (rList Rimpl_Vertex) v4105 xs4106] w := H.sel [1] (by decide)
   exact ⟨xs4106, v4105, S.sub ⟨rfl, trivial⟩, H, rfl⟩

/-- spec.GameOf -/
def spec_GameOf_m (fuel : Nat) (a0 : (List Timpl_Equation)) : Option (((List Timpl_Vertex) × Int)) :=
  (spec_l22Is_m fuel a0).bind fun x33 => (if (!x33) = true then some (([], (1 : Int))) else (spec_l22Game_m fuel a0).bind fun x40 => some ((x40, (0 : Int))))
set_option maxRecDepth 20000 in
theorem spec_GameOf_ok {w0 : World} {fuel : Nat} {p0 : Value} {a0 : (List Timpl_Equation)} {r : ((List Timpl_Vertex) × Int)} (h0 : Rd (rList Rimpl_Equation) w0 p0 a0) (hm : spec_GameOf_m fuel a0 = some r) :
  Calls Try.prog 21 #[p0] w0 fun e w => ∃ (v0 : Value), e = .returned (.tuple #[v0, .int .i64 r.2]) ∧ Heap w0 [oA (rList Rimpl_Vertex) v0 r.1] w := by
 unfold spec_GameOf_m at hm
 have H := Heap.start w0
 refine enter (args := [p0]) Try.func21 rfl 9 rfl (Nat.le_of_ble_eq_true rfl) (fun a S => ?_)
 refine wp_seq (region_plain ?_)
 refine lq (.slice none 0 0) S (q_assign rfl) fun a S => ?_
 refine lq (.int .i64 (0 : Int)) S (q_assign rfl) fun a S => ?_
 refine lx_nil (thenN ?_)
 refine wp_seq (wp_seq (region_plain ?_))
 refine lq p0 S (q_move rfl) fun a S => ?_
 obtain ⟨x33, e34, hm⟩ := bind_some hm
 refine lx_call (xs := [.tmp 4]) S trivial (by decide) rfl rfl Try.call68 ((spec_l22Is_ok (H.arg h0) e34).mono ?_)
 rintro e w31 ⟨rfl, Hc32⟩
 have H := H.call0 Hc32
 refine ⟨_, rfl, trivial, fun a S => ?_⟩
 refine lq (.bool (!x33)) S (q_not rfl) fun a S => ?_
 refine lx_nil (thenN ?_)
 refine cond_b S rfl (fun hc36 => ?_) (fun hc36 => ?_)
 ·have hm := ite_t hc36 hm
  refine wp_seq (region_plain ?_)
  refine lq (.slice none 0 0) S (q_assign rfl) fun a S => ?_
  refine lq (.int .i64 (1 : Int)) S (q_assign rfl) fun a S => ?_
  refine lx_nil (thenN ?_)
  refine wp_ret (then_ret ?_)
  obtain rfl := Option.some.inj hm
  have H : Heap w0 [oA (rList Rimpl_Vertex) (.slice none 0 0) ([] : List Timpl_Vertex)] w31 := H.nilList Rimpl_Vertex
  exact leave2 S rfl rfl rfl ⟨(.slice none 0 0), rfl, H⟩
 ·have hm := ite_f hc36 hm
  refine wp_skip (thenN ?_)
  refine wp_seq (region_plain ?_)
  refine lq p0 S (q_move rfl) fun a S => ?_
  obtain ⟨x40, e41, hm⟩ := bind_some hm
  refine lx_call (xs := [.tmp 7]) S trivial (by decide) rfl rfl Try.call69 ((spec_l22Game_ok (H.arg h0) e41).mono ?_)
  rintro e w38 ⟨v42, rfl, Hc39⟩
  have H := H.call1 Hc39
  refine ⟨_, rfl, trivial, fun a S => ?_⟩
  refine lq v42 S (q_assign rfl) fun a S => ?_
  refine lq (.int .i64 (0 : Int)) S (q_assign rfl) fun a S => ?_
  refine lx_nil (thenN ?_)
  refine wp_ret ?_
  obtain rfl := Option.some.inj hm
  exact leave2 S rfl rfl rfl ⟨v42, rfl, H⟩

/-- impl.game -/
def impl_game_m (fuel : Nat) (a0 : (List Timpl_Equation)) : Option ((List Timpl_Vertex)) :=
  (impl_equationBlocks_m fuel a0).bind fun x33 => (iter (fun (s : (List Timpl_Vertex) × (Int)) => (match s with | (xs108, x110) => (if (decide (x110 < (a0.length : Int))) = true then (idx a0 x110).bind fun x192 => (impl_truth_m fuel x192.2.1).bind fun x215 => (idx x33 x110).bind fun x218 => (idx a0 (0 : Int)).bind fun x220 => (impl_truth_m fuel (!x220.1)).bind fun x237 => (slices_Clone__int64_int64_m fuel x192.2.2).bind fun x242 => (app xs108 [(x215, (W (x218 + x237)), x242)]).bind fun x250 => some (.inl (x250, (W (x110 + (1 : Int))))) else some (.inr (.inl (xs108)))) : Option (((List Timpl_Vertex) × (Int)) ⊕ (((List Timpl_Vertex)) ⊕ ((List Timpl_Vertex)))))) fuel ([], (0 : Int))).bind fun res182 => ctl (β := (List Timpl_Vertex)) (ρ := (List Timpl_Vertex)) (τ := (List Timpl_Vertex)) res182 (fun (xs180) => some (xs180)) (fun q => some (q))
set_option maxRecDepth 20000 in
theorem impl_game_ok {w0 : World} {fuel : Nat} {p0 : Value} {a0 : (List Timpl_Equation)} {r : (List Timpl_Vertex)} (h0 : Rd (rList Rimpl_Equation) w0 p0 a0) (hm : impl_game_m fuel a0 = some r) :
  Calls Try.prog 72 #[p0] w0 fun e w => ∃ (v0 : Value), e = .returned (v0) ∧ Heap w0 [oA (rList Rimpl_Vertex) v0 r] w := by
 unfold impl_game_m at hm
 have H := Heap.start w0
 refine enter (args := [p0]) Try.func72 rfl 39 rfl (Nat.le_of_ble_eq_true rfl) (fun a S => ?_)
 refine wp_seq (region_plain ?_)
 refine lq (.slice none 0 0) S (q_assign rfl) fun a S => ?_
 refine lx_nil (thenN ?_)
 refine wp_seq (region_plain ?_)
 refine lq p0 S (q_move rfl) fun a S => ?_
 obtain ⟨x33, e34, hm⟩ := bind_some hm
 refine lx_call (xs := [.tmp 7]) S trivial (by decide) rfl rfl Try.call122 ((impl_equationBlocks_ok (H.arg h0) e34).mono ?_)
 rintro e w31 ⟨v35, rfl, Hc32⟩
 have H := H.call1 Hc32
 refine ⟨_, rfl, trivial, fun a S => ?_⟩
 refine lq v35 S (q_assign rfl) fun a S => ?_
 refine lx_nil (thenN ?_)
 refine wp_seq (region_plain ?_)
 refine lq (.slice none 0 0) S (q_assign rfl) fun a S => ?_
 refine lx_nil (thenN ?_)
 refine wp_seq (wp_seq (region_plain ?_))
 refine lq p0 S (q_move rfl) fun a S => ?_
 refine lq (.int .i64 (a0.length : Int)) S (q_lenSl rfl (h0).isSl rfl Try.underlying36) fun a S => ?_
 refine lq (.int .i64 (0 : Int)) S (q_move rfl) fun a S => ?_
 refine lx_nil (thenN ?_)
 obtain ⟨res182, hit183, hk186⟩ := bind_some hm
 obtain ⟨f184, hf185, hit183⟩ := iter_name hit183
 refine block_loop (fun a w => ∃ (xs180 : List Timpl_Vertex) (v179 : Value), Slots a 39 [(4, v179)] ∧ Heap w0 [oA (rList Rimpl_Vertex) v179 xs180] w ∧ res182 = .inl (xs180)) ?_ ?_
 ·rintro a w ⟨xs180, v179, S, H, rfl⟩
  have hm := ctl_inl hk186
  refine thenN ?_
  refine wp_seq (region_plain ?_)
  refine lq v179 S (q_move rfl) fun a S => ?_
  refine lq v179 S (q_assign rfl) fun a S => ?_
  refine lx_nil (thenN ?_)
  refine wp_ret ?_
  obtain rfl := Option.some.inj hm
  exact leave1 S rfl rfl ⟨v179, rfl, H⟩
 ·skip
  have H : Heap w0 [oA (rList Rimpl_Vertex) (.slice none 0 0) ([] : List Timpl_Vertex), oA (rList (rInt .i64)) v35 x33] w31 := H.nilList Rimpl_Vertex
  have H : Heap w0 [oA (rList (rInt .i64)) v35 x33, oA (rList Rimpl_Vertex) (.slice none 0 0) ([] : List Timpl_Vertex)] w31 := H.front 1 rfl
  refine loop_ghost (fun n a w => ∃ (xs108 : List Timpl_Vertex) (x110 : Int) (v107 : Value), Slots a 39 [(0, p0), (3, v35), (4, v107), (9, p0), (10, (.int .i64 (a0.length : Int))), (11, (.int .i64 x110))] ∧ Heap w0 [oA (rList (rInt .i64)) v35 x33, oA (rList Rimpl_Vertex) v107 xs108] w ∧ iter f184 n (xs108, x110) = some res182) _ ⟨[], (0 : Int), (.slice none 0 0), S.sub ⟨rfl, rfl, rfl, rfl, rfl, rfl, trivial⟩, H, hit183⟩ ?_
  rintro n a w ⟨xs108, x110, v107, S, H, hit183⟩
  obtain ⟨m188, o189, rfl, hm, hc190⟩ := iter_step hit183
  rw [hf185] at hm
  refine wp_seq (region_plain ?_)
  refine lq (.bool (decide (x110 < (a0.length : Int)))) S (q_lss rfl rfl) fun a S => ?_
  refine lx_nil (thenN ?_)
  refine wp_seq ?_
  refine cond_b S rfl (fun hc191 => ?_) (fun hc191 => ?_)
  ·have hm := ite_t hc191 hm
   refine wp_skip (thenN ?_)
   refine wp_seq ?_
   refine wp_block ?_
   refine wp_seq (region_plain ?_)
   refine lq (.int .i64 x110) S (q_move rfl) fun a S => ?_
   obtain ⟨x192, e193, hm⟩ := bind_some hm
   obtain ⟨c194, h195, hat196⟩ := (h0).elem (idx_some e193).2
   obtain ⟨c199, c200, rfl, h201, h202⟩ := h195
   obtain rfl := h201
   obtain ⟨c203, c204, rfl, h205, h206⟩ := h202
   obtain rfl := h205
   obtain ⟨v197, rfl, h198⟩ := rd_list h206
   have hlt := lt_of_idx (idx_some e193).2
   refine lq (ePtr p0 (x110.toNat * 3)) S (q_indexAddr rfl (h0).isSl rfl (idx_some e193).1 hlt Try.underlying36 Try.sizeOf85) fun a S => ?_
   refine lx_e (.agg #[(.bool x192.1), (.bool x192.2.1), v197]) S trivial (by decide) rfl trivial (q_loadA (cs := [(.bool x192.1), (.bool x192.2.1), v197]) rfl ((hat196 0 _ rfl).isP) Try.isAgg85 Try.sizeOf85 (by rintro _ rfl; exact (fun j u hu => (hat196 j u hu).ext H.ext))) (fun a S => ?_)
   refine lx_alloc S trivial (by decide) rfl H Try.zeroValue85 rfl (fun b207 w208 H => ⟨trivial, fun a S => ?_⟩)
   refine lq (.int .i64 x110) S (q_assign rfl) fun a S => ?_
   refine lx_storeBox (o := 0) (i := 0) (us := [(.bool x192.1), (.bool x192.2.1), v197]) (cs' := [(.bool x192.1), (.bool x192.2.1), v197]) S trivial rfl H rfl rfl rfl rfl Try.sizeOf85 (Nat.le_of_ble_eq_true rfl) (List.forall_mem_cons.2 ⟨rfl, (List.forall_mem_cons.2 ⟨rfl, (List.forall_mem_cons.2 ⟨one_sl (h198).isSl, (fun _ h => nomatch h)⟩)⟩)⟩) rfl (fun w210 H => ⟨trivial, fun a S => ?_⟩)
   change Heap w0 [bA b207 [(.bool x192.1), (.bool x192.2.1), v197] 85, oA (rList (rInt .i64)) v35 x33, oA (rList Rimpl_Vertex) v107 xs108] w210 at H
   refine lx_nil (thenN ?_)
   refine region_drawG (fun w1 => Heap w0 [bA b207 [(.bool x192.1), (.bool x192.2.1), v197] 85, oA (rList (rInt .i64)) v35 x33] w1) (fun i => [3, 13, 17, 19, 20].contains i) mixed (by kernel_rfl) (fun w212 he211 => ?_)
   have H := H.later he211
   refine ⟨H.sel [0, 1] (by decide), ?_⟩
   refine lq v107 S (q_move rfl) fun a S => ?_
   refine lq (pAdd (bp b207) 1) S (q_fieldAddr' 1 4 rfl (isP_bp _) Try.underlying85 rfl Try.sizeOf4) fun a S => ?_
   refine lq (.bool x192.2.1) S (q_load1 rfl Try.isAgg4 (fun w1 hC => (At.of_add (m := 1) (j := 0) (boxAt (i := 0) hC rfl (j := 1) rfl)))) fun a S => ?_
   obtain ⟨x215, e216, hm⟩ := bind_some hm
   refine lx_call (xs := [.tmp 18]) S trivial (by decide) rfl rfl Try.call75 ((impl_truth_ok  e216).mono ?_)
   rintro e w213 ⟨rfl, Hc214⟩
   have H := H.call0 Hc214
   refine ⟨_, rfl, H.sel [0, 1] (by decide), fun a S => ?_⟩
   refine lq v35 S (q_move rfl) fun a S => ?_
   refine lq (.int .i64 x110) S (q_move rfl) fun a S => ?_
   obtain ⟨x218, e219, hm⟩ := bind_some hm
   have hlt := lt_of_idx (idx_some e219).2
   refine lq (ePtr v35 (x110.toNat * 1)) S (q_indexAddr rfl (H.isSl 1 rfl) rfl (idx_some e219).1 hlt Try.underlying23 Try.sizeOf2) fun a S => ?_
   refine lq (.int .i64 x218) S (q_load1 rfl Try.isAgg2 (fun w1 hC => ((hC.rdAt 1 rfl).elemAt (j := 0) (idx_some e219).2 (by intro B w cs h; obtain rfl := h; rfl)))) fun a S => ?_
   refine lq p0 S (q_move rfl) fun a S => ?_
   obtain ⟨x220, e221, hm⟩ := bind_some hm
   obtain ⟨c222, h223, hat224⟩ := (h0).elem (idx_some e221).2
   obtain ⟨c227, c228, rfl, h229, h230⟩ := h223
   obtain rfl := h229
   obtain ⟨c231, c232, rfl, h233, h234⟩ := h230
   obtain rfl := h233
   obtain ⟨v225, rfl, h226⟩ := rd_list h234
   have hlt := lt_of_idx (idx_some e221).2
   refine lq (ePtr p0 ((0 : Int).toNat * 3)) S (q_indexAddr rfl (h0).isSl rfl (idx_some e221).1 hlt Try.underlying36 Try.sizeOf85) fun a S => ?_
   refine lq (pAdd (ePtr p0 ((0 : Int).toNat * 3)) 0) S (q_fieldAddr' 0 4 rfl ((hat224 0 _ rfl).isP) Try.underlying85 rfl Try.sizeOf4) fun a S => ?_
   refine lq (.bool x220.1) S (q_load1 rfl Try.isAgg4 (fun w1 hC => (At.of_add (m := 0) (j := 0) ((hat224 0 _ rfl).ext hC.ext)))) fun a S => ?_
   refine lq (.bool (!x220.1)) S (q_not rfl) fun a S => ?_
   obtain ⟨x237, e238, hm⟩ := bind_some hm
   refine lx_call (xs := [.tmp 28]) S trivial (by decide) rfl rfl Try.call75 ((impl_truth_ok  e238).mono ?_)
   rintro e w235 ⟨rfl, Hc236⟩
   have H := H.call0 Hc236
   refine ⟨_, rfl, H.sel [0, 1] (by decide), fun a S => ?_⟩
   refine lq (.int .i64 (W (x218 + x237))) S (q_add rfl rfl) fun a S => ?_
   refine lq (pAdd (bp b207) 2) S (q_fieldAddr' 2 23 rfl (isP_bp _) Try.underlying85 rfl Try.sizeOf23) fun a S => ?_
   refine lq v197 S (q_load1 rfl Try.isAgg23 (fun w1 hC => (At.of_add (m := 2) (j := 0) (boxAt (i := 0) hC rfl (j := 2) rfl)))) fun a S => ?_
   obtain ⟨x242, e243, hm⟩ := bind_some hm
   refine lx_call (xs := [.tmp 32]) S trivial (by decide) rfl rfl Try.call96 ((slices_Clone__int64_int64_ok (H.arg h198) e243).mono ?_)
   rintro e w240 ⟨v244, rfl, Hc241⟩
   have H := H.call1 Hc241
   refine ⟨_, rfl, H.sel [1, 2] (by decide), fun a S => ?_⟩
   refine lq (.agg #[(.int .i64 x215), (.int .i64 (W (x218 + x237))), v244]) S (q_build (zs := [(.int .i64 (0 : Int)), (.int .i64 (0 : Int)), (.slice none 0 0)]) (szs := [1, 1, 1]) (ps := [(0, [(.int .i64 x215)]), (1, [(.int .i64 (W (x218 + x237)))]), (2, [v244])]) (parts := [(0, .tmp 19), (1, .tmp 30), (2, .tmp 33)]) rfl Try.underlying71 Try.zeroValue71 (fun w => by simp [Try.sizeOf2, Try.sizeOf23]) ⟨rfl, rfl, Nat.le_of_ble_eq_true rfl, ⟨rfl, rfl, Nat.le_of_ble_eq_true rfl, ⟨rfl, (cells_sl (H.isSl 0 rfl)), Nat.le_of_ble_eq_true rfl, trivial⟩⟩⟩ rfl) fun a S => ?_
   refine lx_buildSlice (r := Rimpl_Vertex) (xs := [(x215, (W (x218 + x237)), x242)]) (ps := [(0, [(.int .i64 x215), (.int .i64 (W (x218 + x237))), v244])]) (cs := [(.int .i64 x215), (.int .i64 (W (x218 + x237))), v244]) (parts := [(0, .tmp 34)]) S trivial (by decide) rfl H rfl Try.underlying26 Try.sizeOf71 Try.zeroValue71 (by decide) ⟨rfl, rfl, Nat.le_of_ble_eq_true rfl, trivial⟩ (by intro zs hz; exact fill_dense hz ⟨rfl, trivial⟩ rfl rfl) rfl (by decide) (fun w F hA => ownL_one_mk (ownF ⟨_, _, [(.int .i64 x215)], [(.int .i64 (W (x218 + x237))), v244], rfl, rfl, ⟨rfl, rfl⟩, ⟨_, _, [(.int .i64 (W (x218 + x237)))], [v244], rfl, rfl, ⟨rfl, rfl⟩, (oA_list.1 hA)⟩⟩)) (fun v247 w248 H => ⟨H.sel [1, 2] (by decide), fun a S => ?_⟩)
   obtain ⟨x250, e251, hm⟩ := bind_some hm
   obtain ⟨hle, hap⟩ := app_some e251
   replace hap := hap.symm
   subst hap
   have H : Heap w0 [oA (rList Rimpl_Vertex) v247 [(x215, (W (x218 + x237)), x242)], bA b207 [(.bool x192.1), (.bool x192.2.1), v197] 85, oA (rList (rInt .i64)) v35 x33, oA (rList Rimpl_Vertex) v107 xs108] w248 := H.front 0 rfl
   have H : Heap w0 [oA (rList Rimpl_Vertex) v107 xs108, oA (rList Rimpl_Vertex) v247 [(x215, (W (x218 + x237)), x242)], bA b207 [(.bool x192.1), (.bool x192.2.1), v197] 85, oA (rList (rInt .i64)) v35 x33] w248 := H.front 3 rfl
   refine lx_appendOwn (r := Rimpl_Vertex) S trivial (by decide) rfl H rfl rfl Try.underlying26 Try.ti71 rfl rfl rfl (by decide) (by decide) hle (fun v252 w253 H => ⟨H.sel [1, 2] (by decide), fun a S => ?_⟩)
   refine lq v252 S (q_assign rfl) fun a S => ?_
   refine lx_nil ?_
   refine inBlock_norm ?_
   refine thenN ?_
   refine region_plain ?_
   refine lq (.int .i64 (W (x110 + (1 : Int)))) S (q_add rfl rfl) fun a S => ?_
   refine lq (.int .i64 (W (x110 + (1 : Int)))) S (q_move rfl) fun a S => ?_
   refine lx_nil ?_
   have H : Heap w0 [oA (rList (rInt .i64)) v35 x33, oA (rList Rimpl_Vertex) v252 (xs108 ++ [(x215, (W (x218 + x237)), x242)]), bA b207 [(.bool x192.1), (.bool x192.2.1), v197] 85] w253 := H.front 2 rfl
   have H : Heap w0 [oA (rList (rInt .i64)) v35 x33, oA (rList Rimpl_Vertex) v252 (xs108 ++ [(x215, (W (x218 + x237)), x242)])] w253 := H.sel [0, 1] (by decide)
   exact ⟨m188, Nat.lt_succ_self _, (xs108 ++ [(x215, (W (x218 + x237)), x242)]), (W (x110 + (1 : Int))), v252, S.sub ⟨rfl, rfl, rfl, rfl, rfl, rfl, trivial⟩, H, it_cont hm hc190⟩
  ·have hm := ite_f hc191 hm
   refine wp_exit ?_
   refine then_exit ?_
   refine then_exit ?_
   refine inBlock_exit ?_
   obtain rfl := it_brk hm hc190
   have H : Heap w0 [oA (rList Rimpl_Vertex) v107 xs108] w := H.sel [1] (by decide)
   exact ⟨xs108, v107, S.sub ⟨rfl, trivial⟩, H, rfl⟩

/-- impl.GameOf -/
def impl_GameOf_m (fuel : Nat) (a0 : (List Timpl_Equation)) : Option (((List Timpl_Vertex) × Int)) :=
  (impl_ValidEquations_m fuel a0).bind fun x33 => (if (!x33) = true then some (([], (1 : Int))) else (impl_game_m fuel a0).bind fun x40 => some ((x40, (0 : Int))))
set_option maxRecDepth 20000 in
theorem impl_GameOf_ok {w0 : World} {fuel : Nat} {p0 : Value} {a0 : (List Timpl_Equation)} {r : ((List Timpl_Vertex) × Int)} (h0 : Rd (rList Rimpl_Equation) w0 p0 a0) (hm : impl_GameOf_m fuel a0 = some r) :
  Calls Try.prog 23 #[p0] w0 fun e w => ∃ (v0 : Value), e = .returned (.tuple #[v0, .int .i64 r.2]) ∧ Heap w0 [oA (rList Rimpl_Vertex) v0 r.1] w := by
 unfold impl_GameOf_m at hm
 have H := Heap.start w0
 refine enter (args := [p0]) Try.func23 rfl 9 rfl (Nat.le_of_ble_eq_true rfl) (fun a S => ?_)
 refine wp_seq (region_plain ?_)
 refine lq (.slice none 0 0) S (q_assign rfl) fun a S => ?_
 refine lq (.int .i64 (0 : Int)) S (q_assign rfl) fun a S => ?_
 refine lx_nil (thenN ?_)
 refine wp_seq (wp_seq (region_plain ?_))
 refine lq p0 S (q_move rfl) fun a S => ?_
 obtain ⟨x33, e34, hm⟩ := bind_some hm
 refine lx_call (xs := [.tmp 4]) S trivial (by decide) rfl rfl Try.call71 ((impl_ValidEquations_ok (H.arg h0) e34).mono ?_)
 rintro e w31 ⟨rfl, Hc32⟩
 have H := H.call0 Hc32
 refine ⟨_, rfl, trivial, fun a S => ?_⟩
 refine lq (.bool (!x33)) S (q_not rfl) fun a S => ?_
 refine lx_nil (thenN ?_)
 refine cond_b S rfl (fun hc36 => ?_) (fun hc36 => ?_)
 ·have hm := ite_t hc36 hm
  refine wp_seq (region_plain ?_)
  refine lq (.slice none 0 0) S (q_assign rfl) fun a S => ?_
  refine lq (.int .i64 (1 : Int)) S (q_assign rfl) fun a S => ?_
  refine lx_nil (thenN ?_)
  refine wp_ret (then_ret ?_)
  obtain rfl := Option.some.inj hm
  have H : Heap w0 [oA (rList Rimpl_Vertex) (.slice none 0 0) ([] : List Timpl_Vertex)] w31 := H.nilList Rimpl_Vertex
  exact leave2 S rfl rfl rfl ⟨(.slice none 0 0), rfl, H⟩
 ·have hm := ite_f hc36 hm
  refine wp_skip (thenN ?_)
  refine wp_seq (region_plain ?_)
  refine lq p0 S (q_move rfl) fun a S => ?_
  obtain ⟨x40, e41, hm⟩ := bind_some hm
  refine lx_call (xs := [.tmp 7]) S trivial (by decide) rfl rfl Try.call72 ((impl_game_ok (H.arg h0) e41).mono ?_)
  rintro e w38 ⟨v42, rfl, Hc39⟩
  have H := H.call1 Hc39
  refine ⟨_, rfl, trivial, fun a S => ?_⟩
  refine lq v42 S (q_assign rfl) fun a S => ?_
  refine lq (.int .i64 (0 : Int)) S (q_assign rfl) fun a S => ?_
  refine lx_nil (thenN ?_)
  refine wp_ret ?_
  obtain rfl := Option.some.inj hm
  exact leave2 S rfl rfl rfl ⟨v42, rfl, H⟩

/-- laws.FnExactGameOf -/
def laws_FnExactGameOf_m (fuel : Nat) (a0 : (List Tlaws_Equation)) : Option (Bool) :=
  (laws_szEquationS_m fuel a0 (1048576 : Int)).bind fun x33 => (if (decide (x33 < (0 : Int))) = true then some (true) else (laws_toEquationS_m fuel a0).bind fun x39 => (spec_GameOf_m fuel x39).bind fun x46 => (laws_toEquationS_m fuel a0).bind fun x53 => (impl_GameOf_m fuel x53).bind fun x60 => (laws_eqVertexS_m fuel x60.1 x46.1).bind fun x67 => (if (!x67) = true then some true else some (x60.2 != x46.2)).bind fun t70 => (if t70 = true then some (false) else (laws_toEquationS_m fuel a0).bind fun x76 => (laws_eqEquationS_m fuel x53 x76).bind fun x83 => (if (!x83) = true then some (false) else (laws_markEquationS_m fuel x53 (1 : Int)).bind fun x89 => (if (decide (x89.1 < (0 : Int))) = true then some true else (laws_eqVertexS_m fuel x60.1 x46.1).bind fun x96 => some (!x96)).bind fun t91 => (if t91 = true then some true else some (x60.2 != x46.2)).bind fun t99 => (if t99 = true then some (false) else (laws_markVertexS_m fuel x60.1 (1 : Int)).bind fun x105 => (laws_heldVertexS_m fuel x105.2 (1 : Int)).bind fun x109 => (if (decide (x109 < (0 : Int))) = true then some (false) else (if (x109 != x105.1) = true then some (false) else (laws_toEquationS_m fuel a0).bind fun x116 => (impl_GameOf_m fuel x116).bind fun x123 => (laws_eqVertexS_m fuel x123.1 x46.1).bind fun x130 => (if (!x130) = true then some true else some (x123.2 != x46.2)).bind fun t133 => (if t133 = true then some (false) else (laws_heldVertexS_m fuel x105.2 (1 : Int)).bind fun x139 => (if (decide (x139 < (0 : Int))) = true then some (false) else (if (x139 != x105.1) = true then some (false) else some (true))))))))))
set_option maxRecDepth 20000 in
theorem laws_FnExactGameOf_ok {w0 : World} {fuel : Nat} {p0 : Value} {a0 : (List Tlaws_Equation)} {r : Bool} (h0 : Rd (rList Rlaws_Equation) w0 p0 a0) (hm : laws_FnExactGameOf_m fuel a0 = some r) :
  Calls Try.prog 4 #[p0] w0 fun e w => e = .returned (.bool r) ∧ Heap w0 [] w := by
 unfold laws_FnExactGameOf_m at hm
 have H := Heap.start w0
 refine enter (args := [p0]) Try.func4 rfl 96 rfl (Nat.le_of_ble_eq_true rfl) (fun a S => ?_)
 refine wp_seq (region_plain ?_)
 refine lq (.bool false) S (q_assign rfl) fun a S => ?_
 refine lx_nil (thenN ?_)
 refine wp_seq (region_plain ?_)
 refine lq (.int .i64 (1048576 : Int)) S (q_assign rfl) fun a S => ?_
 refine lx_nil (thenN ?_)
 refine wp_seq (region_plain ?_)
 refine lq p0 S (q_move rfl) fun a S => ?_
 refine lq (.int .i64 (1048576 : Int)) S (q_move rfl) fun a S => ?_
 obtain ⟨x33, e34, hm⟩ := bind_some hm
 refine lx_call (xs := [.tmp 14, .tmp 15]) S trivial (by decide) rfl rfl Try.call20 ((laws_szEquationS_ok (H.arg h0)  e34).mono ?_)
 rintro e w31 ⟨rfl, Hc32⟩
 have H := H.call0 Hc32
 refine ⟨_, rfl, trivial, fun a S => ?_⟩
 refine lq (.int .i64 x33) S (q_assign rfl) fun a S => ?_
 refine lx_nil (thenN ?_)
 refine wp_seq (wp_seq (region_plain ?_))
 refine lq (.int .i64 x33) S (q_move rfl) fun a S => ?_
 refine lq (.bool (decide (x33 < (0 : Int)))) S (q_lss rfl rfl) fun a S => ?_
 refine lx_nil (thenN ?_)
 refine cond_b S rfl (fun hc36 => ?_) (fun hc36 => ?_)
 ·have hm := ite_t hc36 hm
  refine wp_seq (region_plain ?_)
  refine lq (.bool true) S (q_assign rfl) fun a S => ?_
  refine lx_nil (thenN ?_)
  refine wp_ret (then_ret ?_)
  obtain rfl := Option.some.inj hm
  exact leave1 S rfl rfl ⟨rfl, H⟩
 ·have hm := ite_f hc36 hm
  refine wp_skip (thenN ?_)
  refine wp_seq (region_plain ?_)
  refine lq p0 S (q_move rfl) fun a S => ?_
  obtain ⟨x39, e40, hm⟩ := bind_some hm
  refine lx_call (xs := [.tmp 20]) S trivial (by decide) rfl rfl Try.call22 ((laws_toEquationS_ok (H.arg h0) e40).mono ?_)
  rintro e w37 ⟨v41, rfl, Hc38⟩
  have H := H.call1 Hc38
  refine ⟨_, rfl, trivial, fun a S => ?_⟩
  obtain ⟨x46, e47, hm⟩ := bind_some hm
  refine lx_call (xs := [.tmp 21]) S trivial (by decide) rfl rfl Try.call21 ((spec_GameOf_ok (H.rdAt 0 rfl) e47).mono ?_)
  rintro e w44 ⟨v48, rfl, Hc45⟩
  have H := H.call1 Hc45
  refine ⟨_, rfl, trivial, fun a S => ?_⟩
  refine lq (.tuple #[v48, (.int .i64 x46.2)]) S (q_move rfl) fun a S => ?_
  refine lq v48 S (q_extract rfl rfl) fun a S => ?_
  refine lq (.int .i64 x46.2) S (q_extract rfl rfl) fun a S => ?_
  refine lq v48 S (q_assign rfl) fun a S => ?_
  refine lq (.int .i64 x46.2) S (q_assign rfl) fun a S => ?_
  refine lx_nil (thenN ?_)
  refine wp_seq (region_plain ?_)
  refine lq p0 S (q_move rfl) fun a S => ?_
  obtain ⟨x53, e54, hm⟩ := bind_some hm
  refine lx_call (xs := [.tmp 25]) S trivial (by decide) rfl rfl Try.call22 ((laws_toEquationS_ok (H.arg h0) e54).mono ?_)
  rintro e w51 ⟨v55, rfl, Hc52⟩
  have H := H.call1 Hc52
  refine ⟨_, rfl, trivial, fun a S => ?_⟩
  refine lq v55 S (q_assign rfl) fun a S => ?_
  refine lx_nil (thenN ?_)
  refine wp_seq (region_plain ?_)
  refine lq v55 S (q_move rfl) fun a S => ?_
  obtain ⟨x60, e61, hm⟩ := bind_some hm
  refine lx_call (xs := [.tmp 28]) S trivial (by decide) rfl rfl Try.call23 ((impl_GameOf_ok (H.rdAt 0 rfl) e61).mono ?_)
  rintro e w58 ⟨v62, rfl, Hc59⟩
  have H := H.call1 Hc59
  refine ⟨_, rfl, trivial, fun a S => ?_⟩
  refine lq (.tuple #[v62, (.int .i64 x60.2)]) S (q_move rfl) fun a S => ?_
  refine lq v62 S (q_extract rfl rfl) fun a S => ?_
  refine lq (.int .i64 x60.2) S (q_extract rfl rfl) fun a S => ?_
  refine lq v62 S (q_assign rfl) fun a S => ?_
  refine lq (.int .i64 x60.2) S (q_assign rfl) fun a S => ?_
  refine lx_nil (thenN ?_)
  refine wp_seq (wp_seq (region_plain ?_))
  refine lq v62 S (q_move rfl) fun a S => ?_
  refine lq v48 S (q_move rfl) fun a S => ?_
  obtain ⟨x67, e68, hm⟩ := bind_some hm
  refine lx_call (xs := [.tmp 32, .tmp 33]) S trivial (by decide) rfl rfl Try.call18 ((laws_eqVertexS_ok (H.rdAt 0 rfl) (H.rdAt 2 rfl) e68).mono ?_)
  rintro e w65 ⟨rfl, Hc66⟩
  have H := H.call0 Hc66
  refine ⟨_, rfl, trivial, fun a S => ?_⟩
  refine lq (.bool (!x67)) S (q_not rfl) fun a S => ?_
  refine lq (.bool (!x67)) S (q_move rfl) fun a S => ?_
  obtain ⟨t70, e71, hm⟩ := bind_some hm
  refine lx_cut 4 (fun a w => Slots a 96 [(0, p0), (4, v48), (5, (.int .i64 x46.2)), (6, v55), (7, v62), (8, (.int .i64 x60.2)), (40, (.bool t70))] ∧ Heap w0 [oA (rList Rimpl_Vertex) v62 x60.1, oA (rList Rimpl_Equation) v55 x53, oA (rList Rimpl_Vertex) v48 x46.1] w) ?_ ?_
  ·by_cases hc72 : (!x67) = true
   ·have hm := ite_t hc72 e71
    refine lx_skip S rfl rfl (isB_ne hc72) (by decide) (fun a S => ?_)
    refine lx_skip S rfl rfl (isB_ne hc72) (by decide) (fun a S => ?_)
    refine lx_skip S rfl rfl (isB_ne hc72) (by decide) (fun a S => ?_)
    refine lq (.bool true) S (q_pickT' rfl hc72 rfl) fun a S => ?_
    refine lx_nil ?_
    obtain rfl := Option.some.inj hm
    have H := H.sel [0, 1, 2] (by decide)
    exact ⟨S.sub ⟨rfl, rfl, rfl, rfl, rfl, rfl, rfl, trivial⟩, H⟩
   ·have hm := ite_f (eq_false_of_ne_true hc72) e71
    have hc72 : (!x67) = false := eq_false_of_ne_true hc72
    refine lx_q (.int .i64 x60.2) S (want_b rfl rfl hc72) (by decide) (q_move rfl) (fun a S => ?_)
    refine lx_q (.int .i64 x46.2) S (want_b rfl rfl hc72) (by decide) (q_move rfl) (fun a S => ?_)
    refine lx_q (.bool (x60.2 != x46.2)) S (want_b rfl rfl hc72) (by decide) (q_neq rfl rfl) (fun a S => ?_)
    refine lq (.bool (x60.2 != x46.2)) S (q_pickF' rfl hc72 rfl) fun a S => ?_
    refine lx_nil ?_
    obtain rfl := Option.some.inj hm
    have H := H.sel [0, 1, 2] (by decide)
    exact ⟨S.sub ⟨rfl, rfl, rfl, rfl, rfl, rfl, rfl, trivial⟩, H⟩
  ·rintro a w ⟨S, H⟩
   refine lx_nil (thenN ?_)
   refine cond_b S rfl (fun hc73 => ?_) (fun hc73 => ?_)
   ·have hm := ite_t hc73 hm
    refine wp_seq (region_plain ?_)
    refine lq (.bool false) S (q_assign rfl) fun a S => ?_
    refine lx_nil (thenN ?_)
    refine wp_ret (then_ret ?_)
    obtain rfl := Option.some.inj hm
    have H : Heap w0 [] w := H.sel [] (by decide)
    exact leave1 S rfl rfl ⟨rfl, H⟩
   ·have hm := ite_f hc73 hm
    refine wp_skip (thenN ?_)
    refine wp_seq (wp_seq (region_plain ?_))
    refine lq v55 S (q_move rfl) fun a S => ?_
    refine lq p0 S (q_move rfl) fun a S => ?_
    obtain ⟨x76, e77, hm⟩ := bind_some hm
    refine lx_call (xs := [.tmp 42]) S trivial (by decide) rfl rfl Try.call22 ((laws_toEquationS_ok (H.arg h0) e77).mono ?_)
    rintro e w74 ⟨v78, rfl, Hc75⟩
    have H := H.call1 Hc75
    refine ⟨_, rfl, trivial, fun a S => ?_⟩
    obtain ⟨x83, e84, hm⟩ := bind_some hm
    refine lx_call (xs := [.tmp 41, .tmp 43]) S trivial (by decide) rfl rfl Try.call24 ((laws_eqEquationS_ok (H.rdAt 2 rfl) (H.rdAt 0 rfl) e84).mono ?_)
    rintro e w81 ⟨rfl, Hc82⟩
    have H := H.call0 Hc82
    refine ⟨_, rfl, trivial, fun a S => ?_⟩
    refine lq (.bool (!x83)) S (q_not rfl) fun a S => ?_
    refine lx_nil (thenN ?_)
    refine cond_b S rfl (fun hc86 => ?_) (fun hc86 => ?_)
    ·have hm := ite_t hc86 hm
     refine wp_seq (region_plain ?_)
     refine lq (.bool false) S (q_assign rfl) fun a S => ?_
     refine lx_nil (thenN ?_)
     refine wp_ret (then_ret ?_)
     obtain rfl := Option.some.inj hm
     have H : Heap w0 [] w81 := H.sel [] (by decide)
     exact leave1 S rfl rfl ⟨rfl, H⟩
    ·have hm := ite_f hc86 hm
     refine wp_skip (thenN ?_)
     refine wp_seq (region_plain ?_)
     refine lq (.int .i64 (1 : Int)) S (q_assign rfl) fun a S => ?_
     refine lx_nil (thenN ?_)
     refine wp_seq (region_plain ?_)
     refine lq v55 S (q_move rfl) fun a S => ?_
     refine lq (.int .i64 (1 : Int)) S (q_move rfl) fun a S => ?_
     obtain ⟨x89, e90, hm⟩ := bind_some hm
     have H : Heap w0 [oA (rList Rimpl_Equation) v55 x53, oA (rList Rimpl_Equation) v78 x76, oA (rList Rimpl_Vertex) v62 x60.1, oA (rList Rimpl_Vertex) v48 x46.1] w81 := H.front 2 rfl
     refine lx_call (xs := [.tmp 46, .tmp 47]) S trivial (by decide) rfl rfl Try.call25 ((laws_markEquationS_ok H  e90).mono ?_)
     rintro e w87 ⟨rfl, H⟩
     refine ⟨_, rfl, trivial, fun a S => ?_⟩
     refine lq (.int .i64 x89.1) S (q_assign rfl) fun a S => ?_
     refine lx_nil (thenN ?_)
     refine wp_seq (wp_seq (region_plain ?_))
     refine lq (.int .i64 x89.1) S (q_move rfl) fun a S => ?_
     refine lq (.bool (decide (x89.1 < (0 : Int)))) S (q_lss rfl rfl) fun a S => ?_
     refine lq (.bool (decide (x89.1 < (0 : Int)))) S (q_move rfl) fun a S => ?_
     obtain ⟨t91, e92, hm⟩ := bind_some hm
     refine lx_cut 5 (fun a w => Slots a 96 [(0, p0), (4, v48), (5, (.int .i64 x46.2)), (7, v62), (8, (.int .i64 x60.2)), (56, (.bool t91))] ∧ Heap w0 [oA (rList Rimpl_Vertex) v62 x60.1, oA (rList Rimpl_Vertex) v48 x46.1] w) ?_ ?_
     ·by_cases hc93 : (decide (x89.1 < (0 : Int))) = true
      ·have hm := ite_t hc93 e92
       refine lx_skip S rfl rfl (isB_ne hc93) (by decide) (fun a S => ?_)
       refine lx_skip S rfl rfl (isB_ne hc93) (by decide) (fun a S => ?_)
       refine lx_skip S rfl rfl (isB_ne hc93) (by decide) (fun a S => ?_)
       refine lx_skip S rfl rfl (isB_ne hc93) (by decide) (fun a S => ?_)
       refine lq (.bool true) S (q_pickT' rfl hc93 rfl) fun a S => ?_
       refine lx_nil ?_
       obtain rfl := Option.some.inj hm
       have H := H.sel [2, 3] (by decide)
       exact ⟨S.sub ⟨rfl, rfl, rfl, rfl, rfl, rfl, trivial⟩, H⟩
      ·have hm := ite_f (eq_false_of_ne_true hc93) e92
       have hc93 : (decide (x89.1 < (0 : Int))) = false := eq_false_of_ne_true hc93
       refine lx_q v62 S (want_b rfl rfl hc93) (by decide) (q_move rfl) (fun a S => ?_)
       refine lx_q v48 S (want_b rfl rfl hc93) (by decide) (q_move rfl) (fun a S => ?_)
       obtain ⟨x96, e97, hm⟩ := bind_some hm
       refine lx_call (xs := [.tmp 52, .tmp 53]) S (want_b rfl rfl hc93) (by decide) rfl rfl Try.call18 ((laws_eqVertexS_ok (H.rdAt 2 rfl) (H.rdAt 3 rfl) e97).mono ?_)
       rintro e w94 ⟨rfl, Hc95⟩
       have H := H.call0 Hc95
       refine ⟨_, rfl, trivial, fun a S => ?_⟩
       refine lx_q (.bool (!x96)) S (want_b rfl rfl hc93) (by decide) (q_not rfl) (fun a S => ?_)
       refine lq (.bool (!x96)) S (q_pickF' rfl hc93 rfl) fun a S => ?_
       refine lx_nil ?_
       obtain rfl := Option.some.inj hm
       have H := H.sel [2, 3] (by decide)
       exact ⟨S.sub ⟨rfl, rfl, rfl, rfl, rfl, rfl, trivial⟩, H⟩
     ·rintro a w ⟨S, H⟩
      refine lq (.bool t91) S (q_move rfl) fun a S => ?_
      obtain ⟨t99, e100, hm⟩ := bind_some hm
      refine lx_cut 4 (fun a w => Slots a 96 [(0, p0), (4, v48), (5, (.int .i64 x46.2)), (7, v62), (61, (.bool t99))] ∧ Heap w0 [oA (rList Rimpl_Vertex) v62 x60.1, oA (rList Rimpl_Vertex) v48 x46.1] w) ?_ ?_
      ·by_cases hc101 : t91 = true
       ·have hm := ite_t hc101 e100
        refine lx_skip S rfl rfl (isB_ne hc101) (by decide) (fun a S => ?_)
        refine lx_skip S rfl rfl (isB_ne hc101) (by decide) (fun a S => ?_)
        refine lx_skip S rfl rfl (isB_ne hc101) (by decide) (fun a S => ?_)
        refine lq (.bool true) S (q_pickT' rfl hc101 rfl) fun a S => ?_
        refine lx_nil ?_
        obtain rfl := Option.some.inj hm
        exact ⟨S.sub ⟨rfl, rfl, rfl, rfl, rfl, trivial⟩, H⟩
       ·have hm := ite_f (eq_false_of_ne_true hc101) e100
        have hc101 : t91 = false := eq_false_of_ne_true hc101
        refine lx_q (.int .i64 x60.2) S (want_b rfl rfl hc101) (by decide) (q_move rfl) (fun a S => ?_)
        refine lx_q (.int .i64 x46.2) S (want_b rfl rfl hc101) (by decide) (q_move rfl) (fun a S => ?_)
        refine lx_q (.bool (x60.2 != x46.2)) S (want_b rfl rfl hc101) (by decide) (q_neq rfl rfl) (fun a S => ?_)
        refine lq (.bool (x60.2 != x46.2)) S (q_pickF' rfl hc101 rfl) fun a S => ?_
        refine lx_nil ?_
        obtain rfl := Option.some.inj hm
        exact ⟨S.sub ⟨rfl, rfl, rfl, rfl, rfl, trivial⟩, H⟩
      ·rintro a w ⟨S, H⟩
       refine lx_nil (thenN ?_)
       refine cond_b S rfl (fun hc102 => ?_) (fun hc102 => ?_)
       ·have hm := ite_t hc102 hm
        refine wp_seq (region_plain ?_)
        refine lq (.bool false) S (q_assign rfl) fun a S => ?_
        refine lx_nil (thenN ?_)
        refine wp_ret (then_ret ?_)
        obtain rfl := Option.some.inj hm
        have H : Heap w0 [] w := H.sel [] (by decide)
        exact leave1 S rfl rfl ⟨rfl, H⟩
       ·have hm := ite_f hc102 hm
        refine wp_skip (thenN ?_)
        refine wp_seq (region_plain ?_)
        refine lq (.int .i64 (1 : Int)) S (q_assign rfl) fun a S => ?_
        refine lx_nil (thenN ?_)
        refine wp_seq (region_plain ?_)
        refine lq v62 S (q_move rfl) fun a S => ?_
        refine lq (.int .i64 (1 : Int)) S (q_move rfl) fun a S => ?_
        obtain ⟨x105, e106, hm⟩ := bind_some hm
        refine lx_call (xs := [.tmp 62, .tmp 63]) S trivial (by decide) rfl rfl Try.call26 ((laws_markVertexS_ok H  e106).mono ?_)
        rintro e w103 ⟨rfl, H⟩
        refine ⟨_, rfl, trivial, fun a S => ?_⟩
        refine lq (.int .i64 x105.1) S (q_assign rfl) fun a S => ?_
        refine lx_nil (thenN ?_)
        refine wp_seq (region_plain ?_)
        refine lq (.int .i64 (1 : Int)) S (q_assign rfl) fun a S => ?_
        refine lx_nil (thenN ?_)
        refine wp_seq (region_plain ?_)
        refine lq v62 S (q_move rfl) fun a S => ?_
        refine lq (.int .i64 (1 : Int)) S (q_move rfl) fun a S => ?_
        obtain ⟨x109, e110, hm⟩ := bind_some hm
        refine lx_call (xs := [.tmp 65, .tmp 66]) S trivial (by decide) rfl rfl Try.call27 ((laws_heldVertexS_ok (H.rdAt 0 rfl)  e110).mono ?_)
        rintro e w107 ⟨rfl, Hc108⟩
        have H := H.call0 Hc108
        refine ⟨_, rfl, trivial, fun a S => ?_⟩
        refine lq (.int .i64 x109) S (q_assign rfl) fun a S => ?_
        refine lx_nil (thenN ?_)
        refine wp_seq (wp_seq (region_plain ?_))
        refine lq (.int .i64 x109) S (q_move rfl) fun a S => ?_
        refine lq (.bool (decide (x109 < (0 : Int)))) S (q_lss rfl rfl) fun a S => ?_
        refine lx_nil (thenN ?_)
        refine cond_b S rfl (fun hc112 => ?_) (fun hc112 => ?_)
        ·have hm := ite_t hc112 hm
         refine wp_seq (region_plain ?_)
         refine lq (.bool false) S (q_assign rfl) fun a S => ?_
         refine lx_nil (thenN ?_)
         refine wp_ret (then_ret ?_)
         obtain rfl := Option.some.inj hm
         have H : Heap w0 [] w107 := H.sel [] (by decide)
         exact leave1 S rfl rfl ⟨rfl, H⟩
        ·have hm := ite_f hc112 hm
         refine wp_skip (thenN ?_)
         refine wp_seq (wp_seq (region_plain ?_))
         refine lq (.int .i64 x109) S (q_move rfl) fun a S => ?_
         refine lq (.int .i64 x105.1) S (q_move rfl) fun a S => ?_
         refine lq (.bool (x109 != x105.1)) S (q_neq rfl rfl) fun a S => ?_
         refine lx_nil (thenN ?_)
         refine cond_b S rfl (fun hc113 => ?_) (fun hc113 => ?_)
         ·have hm := ite_t hc113 hm
          refine wp_seq (region_plain ?_)
          refine lq (.bool false) S (q_assign rfl) fun a S => ?_
          refine lx_nil (thenN ?_)
          refine wp_ret (then_ret ?_)
          obtain rfl := Option.some.inj hm
          have H : Heap w0 [] w107 := H.sel [] (by decide)
          exact leave1 S rfl rfl ⟨rfl, H⟩
         ·have hm := ite_f hc113 hm
          refine wp_skip (thenN ?_)
          refine wp_seq (region_plain ?_)
          refine lq p0 S (q_move rfl) fun a S => ?_
          obtain ⟨x116, e117, hm⟩ := bind_some hm
          refine lx_call (xs := [.tmp 74]) S trivial (by decide) rfl rfl Try.call22 ((laws_toEquationS_ok (H.arg h0) e117).mono ?_)
          rintro e w114 ⟨v118, rfl, Hc115⟩
          have H := H.call1 Hc115
          refine ⟨_, rfl, trivial, fun a S => ?_⟩
          obtain ⟨x123, e124, hm⟩ := bind_some hm
          refine lx_call (xs := [.tmp 75]) S trivial (by decide) rfl rfl Try.call23 ((impl_GameOf_ok (H.rdAt 0 rfl) e124).mono ?_)
          rintro e w121 ⟨v125, rfl, Hc122⟩
          have H := H.call1 Hc122
          refine ⟨_, rfl, trivial, fun a S => ?_⟩
          refine lq (.tuple #[v125, (.int .i64 x123.2)]) S (q_move rfl) fun a S => ?_
          refine lq v125 S (q_extract rfl rfl) fun a S => ?_
          refine lq (.int .i64 x123.2) S (q_extract rfl rfl) fun a S => ?_
          refine lq v125 S (q_assign rfl) fun a S => ?_
          refine lq (.int .i64 x123.2) S (q_assign rfl) fun a S => ?_
          refine lx_nil (thenN ?_)
          refine wp_seq (wp_seq (region_plain ?_))
          refine lq v125 S (q_move rfl) fun a S => ?_
          refine lq v48 S (q_move rfl) fun a S => ?_
          obtain ⟨x130, e131, hm⟩ := bind_some hm
          refine lx_call (xs := [.tmp 79, .tmp 80]) S trivial (by decide) rfl rfl Try.call18 ((laws_eqVertexS_ok (H.rdAt 0 rfl) (H.rdAt 3 rfl) e131).mono ?_)
          rintro e w128 ⟨rfl, Hc129⟩
          have H := H.call0 Hc129
          refine ⟨_, rfl, trivial, fun a S => ?_⟩
          refine lq (.bool (!x130)) S (q_not rfl) fun a S => ?_
          refine lq (.bool (!x130)) S (q_move rfl) fun a S => ?_
          obtain ⟨t133, e134, hm⟩ := bind_some hm
          refine lx_cut 4 (fun a w => Slots a 96 [(7, v62), (10, (.int .i64 x105.1)), (87, (.bool t133))] ∧ Heap w0 [oA (rList Rimpl_Vertex) v62 x105.2] w) ?_ ?_
          ·by_cases hc135 : (!x130) = true
           ·have hm := ite_t hc135 e134
            refine lx_skip S rfl rfl (isB_ne hc135) (by decide) (fun a S => ?_)
            refine lx_skip S rfl rfl (isB_ne hc135) (by decide) (fun a S => ?_)
            refine lx_skip S rfl rfl (isB_ne hc135) (by decide) (fun a S => ?_)
            refine lq (.bool true) S (q_pickT' rfl hc135 rfl) fun a S => ?_
            refine lx_nil ?_
            obtain rfl := Option.some.inj hm
            have H := H.sel [2] (by decide)
            exact ⟨S.sub ⟨rfl, rfl, rfl, trivial⟩, H⟩
           ·have hm := ite_f (eq_false_of_ne_true hc135) e134
            have hc135 : (!x130) = false := eq_false_of_ne_true hc135
            refine lx_q (.int .i64 x123.2) S (want_b rfl rfl hc135) (by decide) (q_move rfl) (fun a S => ?_)
            refine lx_q (.int .i64 x46.2) S (want_b rfl rfl hc135) (by decide) (q_move rfl) (fun a S => ?_)
            refine lx_q (.bool (x123.2 != x46.2)) S (want_b rfl rfl hc135) (by decide) (q_neq rfl rfl) (fun a S => ?_)
            refine lq (.bool (x123.2 != x46.2)) S (q_pickF' rfl hc135 rfl) fun a S => ?_
            refine lx_nil ?_
            obtain rfl := Option.some.inj hm
            have H := H.sel [2] (by decide)
            exact ⟨S.sub ⟨rfl, rfl, rfl, trivial⟩, H⟩
          ·rintro a w ⟨S, H⟩
           refine lx_nil (thenN ?_)
           refine cond_b S rfl (fun hc136 => ?_) (fun hc136 => ?_)
           ·have hm := ite_t hc136 hm
            refine wp_seq (region_plain ?_)
            refine lq (.bool false) S (q_assign rfl) fun a S => ?_
            refine lx_nil (thenN ?_)
            refine wp_ret (then_ret ?_)
            obtain rfl := Option.some.inj hm
            have H : Heap w0 [] w := H.sel [] (by decide)
            exact leave1 S rfl rfl ⟨rfl, H⟩
           ·have hm := ite_f hc136 hm
            refine wp_skip (thenN ?_)
            refine wp_seq (region_plain ?_)
            refine lq (.int .i64 (1 : Int)) S (q_assign rfl) fun a S => ?_
            refine lx_nil (thenN ?_)
            refine wp_seq (region_plain ?_)
            refine lq v62 S (q_move rfl) fun a S => ?_
            refine lq (.int .i64 (1 : Int)) S (q_move rfl) fun a S => ?_
            obtain ⟨x139, e140, hm⟩ := bind_some hm
            refine lx_call (xs := [.tmp 88, .tmp 89]) S trivial (by decide) rfl rfl Try.call27 ((laws_heldVertexS_ok (H.rdAt 0 rfl)  e140).mono ?_)
            rintro e w137 ⟨rfl, Hc138⟩
            have H := H.call0 Hc138
            refine ⟨_, rfl, trivial, fun a S => ?_⟩
            refine lq (.int .i64 x139) S (q_assign rfl) fun a S => ?_
            refine lx_nil (thenN ?_)
            refine wp_seq (wp_seq (region_plain ?_))
            refine lq (.int .i64 x139) S (q_move rfl) fun a S => ?_
            refine lq (.bool (decide (x139 < (0 : Int)))) S (q_lss rfl rfl) fun a S => ?_
            refine lx_nil (thenN ?_)
            refine cond_b S rfl (fun hc142 => ?_) (fun hc142 => ?_)
            ·have hm := ite_t hc142 hm
             refine wp_seq (region_plain ?_)
             refine lq (.bool false) S (q_assign rfl) fun a S => ?_
             refine lx_nil (thenN ?_)
             refine wp_ret (then_ret ?_)
             obtain rfl := Option.some.inj hm
             have H : Heap w0 [] w137 := H.sel [] (by decide)
             exact leave1 S rfl rfl ⟨rfl, H⟩
            ·have hm := ite_f hc142 hm
             refine wp_skip (thenN ?_)
             refine wp_seq (wp_seq (region_plain ?_))
             refine lq (.int .i64 x139) S (q_move rfl) fun a S => ?_
             refine lq (.int .i64 x105.1) S (q_move rfl) fun a S => ?_
             refine lq (.bool (x139 != x105.1)) S (q_neq rfl rfl) fun a S => ?_
             refine lx_nil (thenN ?_)
             refine cond_b S rfl (fun hc143 => ?_) (fun hc143 => ?_)
             ·have hm := ite_t hc143 hm
              refine wp_seq (region_plain ?_)
              refine lq (.bool false) S (q_assign rfl) fun a S => ?_
              refine lx_nil (thenN ?_)
              refine wp_ret (then_ret ?_)
              obtain rfl := Option.some.inj hm
              have H : Heap w0 [] w137 := H.sel [] (by decide)
              exact leave1 S rfl rfl ⟨rfl, H⟩
             ·have hm := ite_f hc143 hm
              refine wp_skip (thenN ?_)
              refine wp_seq (region_plain ?_)
              refine lq (.bool true) S (q_assign rfl) fun a S => ?_
              refine lx_nil (thenN ?_)
              refine wp_ret ?_
              obtain rfl := Option.some.inj hm
              have H : Heap w0 [] w137 := H.sel [] (by decide)
              exact leave1 S rfl rfl ⟨rfl, H⟩
end Go.Proofs.Ytecknjdlbmmmiaa
