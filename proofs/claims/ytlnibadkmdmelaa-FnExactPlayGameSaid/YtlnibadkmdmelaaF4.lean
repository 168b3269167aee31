/- The models of some functions and their walks (printed by a program of this repo). -/
import Derived.Test.YtlnibadkmdmelaaF3
import Derived.Test.YtlnibadkmdmelaaGxS
namespace Go.Proofs.Ytlnibadkmdmelaa
open Go.RowKit Go.Gx

/-- impl.PlayGame -/
def impl_PlayGame_m (fuel : Nat) (a0 : (List Timpl_Vertex)) (a1 : (List Int)) (a2 : Int) : Option (((List Int) × Int × Int × Int)) :=
  (impl_ValidGame_m fuel a0).bind fun x33 => (if (!x33) = true then some (([], (0 : Int), (0 : Int), (1 : Int))) else (impl_index_m fuel a2 (a0.length : Int)).bind fun x40 => (if (!x40) = true then some (([], (0 : Int), (0 : Int), (2 : Int))) else (if ((a1.length : Int) != (a0.length : Int)) = true then some (([], (0 : Int), (0 : Int), (7 : Int))) else (iter (fun (s : (Int)) => (match s with | (x95) => (if (decide (x95 < (a0.length : Int))) = true then (idx a0 x95).bind fun x403 => (if (decide ((0 : Int) < (x403.2.2.length : Int))) = true then (idx a1 x95).bind fun x427 => (slices_Contains__int64_int64_m fuel x403.2.2 x427).bind fun x434 => some (!x434) else some false).bind fun t424 => (if t424 = true then some true else (if ((x403.2.2.length : Int) == (0 : Int)) = true then (idx a1 x95).bind fun x443 => some (x443 != (-1 : Int)) else some false).bind fun t440 => some t440).bind fun t437 => (if t437 = true then some (.inr (.inr ([], (0 : Int), (0 : Int), (7 : Int)))) else some (.inl ((W (x95 + (1 : Int)))))) else some (.inr (.inl ()))) : Option (((Int)) ⊕ ((Unit) ⊕ (((List Int) × Int × Int × Int)))))) fuel ((0 : Int))).bind fun res144 => ctl (β := Unit) (ρ := ((List Int) × Int × Int × Int)) (τ := ((List Int) × Int × Int × Int)) res144 (fun _ => (iter (fun (s : (List Int) × (Int) × (Int)) => (match s with | (xs203, x205, x206) => (if (decide (x205 < (0 : Int))) = true then (app xs203 [x206]).bind fun x356 => (idx a1 x206).bind fun x361 => (if (decide (x361 < (0 : Int))) = true then (idx a0 x206).bind fun x369 => some (.inr (.inr (x356, (-1 : Int), (W ((1 : Int) - x369.1)), (0 : Int)))) else (idx a1 x206).bind fun x384 => (slices_Index__int64_int64_m fuel x356 x384).bind fun x391 => (idx a1 x206).bind fun x394 => some (.inl (x356, x391, x394))) else some (.inr (.inl (xs203, x205)))) : Option (((List Int) × (Int) × (Int)) ⊕ (((List Int) × Int) ⊕ (((List Int) × Int × Int × Int)))))) fuel ([], (-1 : Int), a2)).bind fun res263 => ctl (β := (List Int) × Int) (ρ := ((List Int) × Int × Int × Int)) (τ := ((List Int) × Int × Int × Int)) res263 (fun (xs260, x262) => (sub xs260 x262 (xs260.length : Int)).bind fun xs268 => (iter (fun (s : (Int) × (Int)) => (match s with | (x293, x294) => (if (decide (x294 < (xs268.length : Int))) = true then (idx xs268 x294).bind fun x328 => (idx a0 x328).bind fun x333 => some (.inl ((if x333.2.1 < x293 then x333.2.1 else x293), (W (x294 + (1 : Int))))) else some (.inr (.inl (x293)))) : Option (((Int) × (Int)) ⊕ ((Int) ⊕ (((List Int) × Int × Int × Int)))))) fuel ((9 : Int), (0 : Int))).bind fun res319 => ctl (β := Int) (ρ := ((List Int) × Int × Int × Int)) (τ := ((List Int) × Int × Int × Int)) res319 (fun (x318) => some ((xs260, x262, (x318.tmod (2 : Int)), (0 : Int)))) (fun q => some (q))) (fun q => some (q))) (fun q => some (q)))))
set_option maxRecDepth 20000 in
theorem impl_PlayGame_ok {w0 : World} {fuel : Nat} {p0 p1 : Value} {a0 : (List Timpl_Vertex)} {a1 : (List Int)} {a2 : Int} {r : ((List Int) × Int × Int × Int)} (h0 : Rd (rList Rimpl_Vertex) w0 p0 a0) (h1 : Rd (rList (rInt .i64)) w0 p1 a1) (hm : impl_PlayGame_m fuel a0 a1 a2 = some r) :
    Calls Try.prog 36 #[p0, p1, .int .i64 a2] w0 fun e w => ∃ (v0 : Value), e = .returned (.tuple #[v0, .int .i64 r.2.1, .int .i64 r.2.2.1, .int .i64 r.2.2.2]) ∧ Heap w0 [oA (rList (rInt .i64)) v0 r.1] w := by
  unfold impl_PlayGame_m at hm
  have H := Heap.start w0
  refine enter (args := [p0, p1, .int .i64 a2]) Try.func36 rfl 118 rfl (Nat.le_of_ble_eq_true rfl) (fun a S => ?_)
  refine wp_seq ?_
  refine region_plain ?_
  refine lx_q (.slice none 0 0) S trivial (by decide) (q_assign rfl) (fun a S => ?_)
  refine lx_q (.int .i64 (0 : Int)) S trivial (by decide) (q_assign rfl) (fun a S => ?_)
  refine lx_q (.int .i64 (0 : Int)) S trivial (by decide) (q_assign rfl) (fun a S => ?_)
  refine lx_q (.int .i64 (0 : Int)) S trivial (by decide) (q_assign rfl) (fun a S => ?_)
  refine lx_nil ?_
  refine thenN ?_
  refine wp_seq ?_
  refine wp_block ?_
  refine wp_seq ?_
  refine region_plain ?_
  refine lx_q p0 S trivial (by decide) (q_move rfl) (fun a S => ?_)
  obtain ⟨x33, e34, hm⟩ := bind_some hm
  refine lx_call (xs := [.tmp 19]) S trivial (by decide) rfl rfl Try.call55 ((impl_ValidGame_ok (H.arg h0) e34).mono ?_)
  rintro e w31 ⟨rfl, Hc32⟩
  have he35 := Hc32.ext
  have H := H.call0 Hc32
  refine ⟨_, rfl, trivial, fun a S => ?_⟩
  refine lx_q (.bool (!x33)) S trivial (by decide) (q_not rfl) (fun a S => ?_)
  refine lx_q (.bool (!x33)) S trivial (by decide) (q_assign rfl) (fun a S => ?_)
  refine lx_nil ?_
  refine thenN ?_
  refine cond_b S rfl (fun hc36 => ?_) (fun hc36 => ?_)
  · have hm := ite_t hc36 hm
    refine wp_seq ?_
    refine region_plain ?_
    refine lx_q (.slice none 0 0) S trivial (by decide) (q_assign rfl) (fun a S => ?_)
    refine lx_q (.int .i64 (0 : Int)) S trivial (by decide) (q_assign rfl) (fun a S => ?_)
    refine lx_q (.int .i64 (0 : Int)) S trivial (by decide) (q_assign rfl) (fun a S => ?_)
    refine lx_q (.int .i64 (1 : Int)) S trivial (by decide) (q_assign rfl) (fun a S => ?_)
    refine lx_nil ?_
    refine thenN ?_
    refine wp_ret ?_
    refine inBlock_ret ?_
    refine then_ret ?_
    obtain rfl := Option.some.inj hm
    have H : Heap w0 [oA (rList (rInt .i64)) (.slice none 0 0) ([] : List Int)] w31 := H.nilList (rInt .i64)
    exact leave4 S rfl rfl rfl rfl rfl ⟨(.slice none 0 0), rfl, H⟩
  · have hm := ite_f hc36 hm
    refine wp_seq ?_
    refine region_plain ?_
    refine lx_q (.int .i64 a2) S trivial (by decide) (q_move rfl) (fun a S => ?_)
    refine lx_q p0 S trivial (by decide) (q_move rfl) (fun a S => ?_)
    refine lx_q (.int .i64 (a0.length : Int)) S trivial (by decide) (q_lenSl rfl (h0).isSl rfl Try.underlying42) (fun a S => ?_)
    obtain ⟨x40, e41, hm⟩ := bind_some hm
    refine lx_call (xs := [.tmp 23, .tmp 25]) S trivial (by decide) rfl rfl Try.call64 ((impl_index_ok   e41).mono ?_)
    rintro e w38 ⟨rfl, Hc39⟩
    have he42 := Hc39.ext
    have H := H.call0 Hc39
    refine ⟨_, rfl, trivial, fun a S => ?_⟩
    refine lx_q (.bool (!x40)) S trivial (by decide) (q_not rfl) (fun a S => ?_)
    refine lx_q (.bool (!x40)) S trivial (by decide) (q_assign rfl) (fun a S => ?_)
    refine lx_nil ?_
    refine thenN ?_
    refine cond_b S rfl (fun hc43 => ?_) (fun hc43 => ?_)
    · have hm := ite_t hc43 hm
      refine wp_seq ?_
      refine region_plain ?_
      refine lx_q (.slice none 0 0) S trivial (by decide) (q_assign rfl) (fun a S => ?_)
      refine lx_q (.int .i64 (0 : Int)) S trivial (by decide) (q_assign rfl) (fun a S => ?_)
      refine lx_q (.int .i64 (0 : Int)) S trivial (by decide) (q_assign rfl) (fun a S => ?_)
      refine lx_q (.int .i64 (2 : Int)) S trivial (by decide) (q_assign rfl) (fun a S => ?_)
      refine lx_nil ?_
      refine thenN ?_
      refine wp_ret ?_
      refine inBlock_ret ?_
      refine then_ret ?_
      obtain rfl := Option.some.inj hm
      have H : Heap w0 [oA (rList (rInt .i64)) (.slice none 0 0) ([] : List Int)] w38 := H.nilList (rInt .i64)
      exact leave4 S rfl rfl rfl rfl rfl ⟨(.slice none 0 0), rfl, H⟩
    · have hm := ite_f hc43 hm
      refine wp_seq ?_
      refine region_plain ?_
      refine lx_q p1 S trivial (by decide) (q_move rfl) (fun a S => ?_)
      refine lx_q (.int .i64 (a1.length : Int)) S trivial (by decide) (q_lenSl rfl (h1).isSl rfl Try.underlying29) (fun a S => ?_)
      refine lx_q p0 S trivial (by decide) (q_move rfl) (fun a S => ?_)
      refine lx_q (.int .i64 (a0.length : Int)) S trivial (by decide) (q_lenSl rfl (h0).isSl rfl Try.underlying42) (fun a S => ?_)
      refine lx_q (.bool ((a1.length : Int) != (a0.length : Int))) S trivial (by decide) (q_neq rfl rfl) (fun a S => ?_)
      refine lx_q (.bool ((a1.length : Int) != (a0.length : Int))) S trivial (by decide) (q_assign rfl) (fun a S => ?_)
      refine lx_nil ?_
      refine thenN ?_
      refine cond_b S rfl (fun hc45 => ?_) (fun hc45 => ?_)
      · have hm := ite_t hc45 hm
        refine wp_seq ?_
        refine region_plain ?_
        refine lx_q (.slice none 0 0) S trivial (by decide) (q_assign rfl) (fun a S => ?_)
        refine lx_q (.int .i64 (0 : Int)) S trivial (by decide) (q_assign rfl) (fun a S => ?_)
        refine lx_q (.int .i64 (0 : Int)) S trivial (by decide) (q_assign rfl) (fun a S => ?_)
        refine lx_q (.int .i64 (7 : Int)) S trivial (by decide) (q_assign rfl) (fun a S => ?_)
        refine lx_nil ?_
        refine thenN ?_
        refine wp_ret ?_
        refine inBlock_ret ?_
        refine then_ret ?_
        obtain rfl := Option.some.inj hm
        have H : Heap w0 [oA (rList (rInt .i64)) (.slice none 0 0) ([] : List Int)] w38 := H.nilList (rInt .i64)
        exact leave4 S rfl rfl rfl rfl rfl ⟨(.slice none 0 0), rfl, H⟩
      · have hm := ite_f hc45 hm
        refine wp_skip ?_
        refine inBlock_norm ?_
        refine thenN ?_
        refine wp_seq ?_
        refine wp_seq ?_
        refine region_plain ?_
        refine lx_q p0 S trivial (by decide) (q_move rfl) (fun a S => ?_)
        refine lx_q (.int .i64 (a0.length : Int)) S trivial (by decide) (q_lenSl rfl (h0).isSl rfl Try.underlying42) (fun a S => ?_)
        refine lx_q (.int .i64 (0 : Int)) S trivial (by decide) (q_move rfl) (fun a S => ?_)
        refine lx_nil ?_
        refine thenN ?_
        obtain ⟨res144, hit145, hk148⟩ := bind_some hm
        obtain ⟨f146, hf147, hit145⟩ := iter_name hit145
        refine block_loop (fun a w => Slots a 118 [(0, p0), (1, p1), (2, (.int .i64 a2))] ∧ Heap w0 [] w ∧ res144 = .inl ()) ?_ ?_
        · rintro a w ⟨S, H, rfl⟩
          have hm := ctl_inl hk148
          refine thenN ?_
          refine wp_seq ?_
          refine region_plain ?_
          refine lx_q (.slice none 0 0) S trivial (by decide) (q_assign rfl) (fun a S => ?_)
          refine lx_nil ?_
          refine thenN ?_
          refine wp_seq ?_
          refine region_plain ?_
          refine lx_q (.int .i64 (-1 : Int)) S trivial (by decide) (q_assign rfl) (fun a S => ?_)
          refine lx_nil ?_
          refine thenN ?_
          refine wp_seq ?_
          refine wp_seq ?_
          refine region_plain ?_
          refine lx_q (.int .i64 a2) S trivial (by decide) (q_move rfl) (fun a S => ?_)
          refine lx_q (.int .i64 a2) S trivial (by decide) (q_assign rfl) (fun a S => ?_)
          refine lx_nil ?_
          refine thenN ?_
          obtain ⟨res263, hit264, hk267⟩ := bind_some hm
          obtain ⟨f265, hf266, hit264⟩ := iter_name hit264
          refine block_loop (fun a w => ∃ (xs260 : List Int) (x262 : Int) (v259 : Value), Slots a 118 [(0, p0), (12, v259), (13, (.int .i64 x262))] ∧ Heap w0 [oA (rList (rInt .i64)) v259 xs260] w ∧ res263 = .inl (xs260, x262)) ?_ ?_
          · rintro a w ⟨xs260, x262, v259, S, H, rfl⟩
            have hm := ctl_inl hk267
            refine thenN ?_
            refine wp_seq ?_
            refine region_plain ?_
            refine lx_q (.int .i64 (9 : Int)) S trivial (by decide) (q_assign rfl) (fun a S => ?_)
            refine lx_nil ?_
            refine thenN ?_
            refine wp_seq ?_
            refine wp_seq ?_
            refine region_plain ?_
            refine lx_q v259 S trivial (by decide) (q_move rfl) (fun a S => ?_)
            refine lx_q (.int .i64 x262) S trivial (by decide) (q_move rfl) (fun a S => ?_)
            obtain ⟨xs268, e269, hm⟩ := bind_some hm
            have hsb := (sub_some e269).1
            refine lx_q (subV v259 (x262).toNat ((xs260.length : Int)).toNat 1) S trivial (by decide) (q_slice (lo := (some (.tmp 99))) (hi := none) (l := x262) (h := (xs260.length : Int)) (size := 1) rfl (H.isSl 0 rfl) Try.underlying29 Try.sizeOf2 rfl rfl hsb.1 hsb.2.1 hsb.2.2) (fun a S => ?_)
            refine lx_q (.int .i64 (xs268.length : Int)) S trivial (by decide) (q_lenSl rfl (((H.rdAt 0 rfl).sub e269)).isSl rfl Try.underlying29) (fun a S => ?_)
            refine lx_q (.int .i64 (0 : Int)) S trivial (by decide) (q_move rfl) (fun a S => ?_)
            refine lx_nil ?_
            refine thenN ?_
            obtain ⟨res319, hit320, hk323⟩ := bind_some hm
            obtain ⟨f321, hf322, hit320⟩ := iter_name hit320
            refine block_loop (fun a w => ∃ (x318 : Int), Slots a 118 [(12, v259), (13, (.int .i64 x262)), (15, (.int .i64 x318))] ∧ Heap w0 [oA (rList (rInt .i64)) v259 xs260] w ∧ res319 = .inl (x318)) ?_ ?_
            · rintro a w ⟨x318, S, H, rfl⟩
              have hm := ctl_inl hk323
              refine thenN ?_
              refine wp_seq ?_
              refine region_plain ?_
              refine lx_q v259 S trivial (by decide) (q_move rfl) (fun a S => ?_)
              refine lx_q (.int .i64 x262) S trivial (by decide) (q_move rfl) (fun a S => ?_)
              refine lx_q (.int .i64 x318) S trivial (by decide) (q_move rfl) (fun a S => ?_)
              refine lx_q (.int .i64 (x318.tmod (2 : Int))) S trivial (by decide) (q_rem rfl rfl (show (2 : Int) ≠ 0 from by decide)) (fun a S => ?_)
              refine lx_q v259 S trivial (by decide) (q_assign rfl) (fun a S => ?_)
              refine lx_q (.int .i64 x262) S trivial (by decide) (q_assign rfl) (fun a S => ?_)
              refine lx_q (.int .i64 (x318.tmod (2 : Int))) S trivial (by decide) (q_assign rfl) (fun a S => ?_)
              refine lx_q (.int .i64 (0 : Int)) S trivial (by decide) (q_assign rfl) (fun a S => ?_)
              refine lx_nil ?_
              refine thenN ?_
              refine wp_ret ?_
              obtain rfl := Option.some.inj hm
              exact leave4 S rfl rfl rfl rfl rfl ⟨v259, rfl, H⟩
            · skip
              refine loop_ghost (fun n a w => ∃ (x293 : Int) (x294 : Int), Slots a 118 [(0, p0), (12, v259), (13, (.int .i64 x262)), (15, (.int .i64 x293)), (100, (subV v259 (x262).toNat ((xs260.length : Int)).toNat 1)), (101, (.int .i64 (xs268.length : Int))), (102, (.int .i64 x294))] ∧ Heap w0 [oA (rList (rInt .i64)) v259 xs260] w ∧ iter f321 n (x293, x294) = some res319) _ ⟨(9 : Int), (0 : Int), S.sub ⟨rfl, rfl, rfl, rfl, rfl, rfl, rfl, trivial⟩, H, hit320⟩ ?_
              rintro n a w ⟨x293, x294, S, H, hit320⟩
              obtain ⟨m324, o325, rfl, hm, hc326⟩ := iter_step hit320
              rw [hf322] at hm
              refine wp_seq ?_
              refine region_plain ?_
              refine lx_q (.bool (decide (x294 < (xs268.length : Int)))) S trivial (by decide) (q_lss rfl rfl) (fun a S => ?_)
              refine lx_nil ?_
              refine thenN ?_
              refine wp_seq ?_
              refine cond_b S rfl (fun hc327 => ?_) (fun hc327 => ?_)
              · have hm := ite_t hc327 hm
                refine wp_skip ?_
                refine thenN ?_
                refine wp_seq ?_
                refine wp_block ?_
                refine wp_seq ?_
                refine region_plain ?_
                obtain ⟨x328, e329, hm⟩ := bind_some hm
                obtain ⟨c330, h331, hat332⟩ := (((H.rdAt 0 rfl).sub e269)).elem (idx_some e329).2
                obtain rfl := h331
                have hlt := lt_of_idx (idx_some e329).2
                refine lx_q (ePtr (subV v259 (x262).toNat ((xs260.length : Int)).toNat 1) (x294.toNat * 1)) S trivial (by decide) (q_indexAddr rfl (((H.rdAt 0 rfl).sub e269)).isSl rfl (idx_some e329).1 hlt Try.underlying29 Try.sizeOf2) (fun a S => ?_)
                refine lx_e (.int .i64 x328) S trivial (by decide) rfl trivial (q_load1 rfl Try.isAgg2 (by rintro _ rfl; exact ((hat332 0 _ rfl).ext (Ext.refl _)))) (fun a S => ?_)
                refine lx_q (.int .i64 x328) S trivial (by decide) (q_assign rfl) (fun a S => ?_)
                refine lx_nil ?_
                refine thenN ?_
                refine region_plain ?_
                refine lx_q (.int .i64 x293) S trivial (by decide) (q_move rfl) (fun a S => ?_)
                refine lx_q p0 S trivial (by decide) (q_move rfl) (fun a S => ?_)
                refine lx_q (.int .i64 x328) S trivial (by decide) (q_move rfl) (fun a S => ?_)
                obtain ⟨x333, e334, hm⟩ := bind_some hm
                obtain ⟨c335, h336, hat337⟩ := (h0).elem (idx_some e334).2
                obtain ⟨c340, c341, rfl, h342, h343⟩ := h336
                obtain rfl := h342
                obtain ⟨c344, c345, rfl, h346, h347⟩ := h343
                obtain rfl := h346
                obtain ⟨v338, rfl, h339⟩ := rd_list h347
                have hlt := lt_of_idx (idx_some e334).2
                refine lx_q (ePtr p0 (x328.toNat * 3)) S trivial (by decide) (q_indexAddr rfl (h0).isSl rfl (idx_some e334).1 hlt Try.underlying42 Try.sizeOf75) (fun a S => ?_)
                refine lx_q (pAdd (ePtr p0 (x328.toNat * 3)) 1) S trivial (by decide) (q_fieldAddr' 1 2 rfl ((hat337 0 _ rfl).isP) Try.underlying75 rfl Try.sizeOf2) (fun a S => ?_)
                refine lx_e (.int .i64 x333.2.1) S trivial (by decide) rfl trivial (q_load1 rfl Try.isAgg2 (by rintro _ rfl; exact (At.of_add (m := 1) (j := 0) ((hat337 1 _ rfl).ext H.ext)))) (fun a S => ?_)
                refine lx_q (.int .i64 (if x333.2.1 < x293 then x333.2.1 else x293)) S trivial (by decide) (q_min rfl rfl) (fun a S => ?_)
                refine lx_q (.int .i64 (if x333.2.1 < x293 then x333.2.1 else x293)) S trivial (by decide) (q_assign rfl) (fun a S => ?_)
                refine lx_nil ?_
                refine inBlock_norm ?_
                refine thenN ?_
                refine region_plain ?_
                refine lx_q (.int .i64 (W (x294 + (1 : Int)))) S trivial (by decide) (q_add rfl rfl) (fun a S => ?_)
                refine lx_q (.int .i64 (W (x294 + (1 : Int)))) S trivial (by decide) (q_move rfl) (fun a S => ?_)
                refine lx_nil ?_
                exact ⟨m324, Nat.lt_succ_self _, (if x333.2.1 < x293 then x333.2.1 else x293), (W (x294 + (1 : Int))), S.sub ⟨rfl, rfl, rfl, rfl, rfl, rfl, rfl, trivial⟩, H, it_cont hm hc326⟩
              · have hm := ite_f hc327 hm
                refine wp_exit ?_
                refine then_exit ?_
                refine then_exit ?_
                refine inBlock_exit ?_
                obtain rfl := it_brk hm hc326
                exact ⟨x293, S.sub ⟨rfl, rfl, rfl, trivial⟩, H, rfl⟩
          · skip
            have H : Heap w0 [oA (rList (rInt .i64)) (.slice none 0 0) ([] : List Int)] w := H.nilList (rInt .i64)
            refine loop_ghost (fun n a w => ∃ (xs203 : List Int) (x205 : Int) (x206 : Int) (v202 : Value), Slots a 118 [(0, p0), (1, p1), (12, v202), (13, (.int .i64 x205)), (14, (.int .i64 x206))] ∧ Heap w0 [oA (rList (rInt .i64)) v202 xs203] w ∧ iter f265 n (xs203, x205, x206) = some res263) _ ⟨[], (-1 : Int), a2, (.slice none 0 0), S.sub ⟨rfl, rfl, rfl, rfl, rfl, trivial⟩, H, hit264⟩ ?_
            rintro n a w ⟨xs203, x205, x206, v202, S, H, hit264⟩
            obtain ⟨m349, o350, rfl, hm, hc351⟩ := iter_step hit264
            rw [hf266] at hm
            refine wp_seq ?_
            refine wp_seq ?_
            refine region_plain ?_
            refine lx_q (.int .i64 x205) S trivial (by decide) (q_move rfl) (fun a S => ?_)
            refine lx_q (.bool (decide (x205 < (0 : Int)))) S trivial (by decide) (q_lss rfl rfl) (fun a S => ?_)
            refine lx_nil ?_
            refine thenN ?_
            refine cond_b S rfl (fun hc352 => ?_) (fun hc352 => ?_)
            · have hm := ite_t hc352 hm
              refine wp_skip ?_
              refine thenN ?_
              refine wp_seq ?_
              refine wp_block ?_
              refine wp_seq ?_
              refine region_plain ?_
              refine lx_q v202 S trivial (by decide) (q_move rfl) (fun a S => ?_)
              refine lx_q (.int .i64 x206) S trivial (by decide) (q_move rfl) (fun a S => ?_)
              refine lx_buildSlice (r := (rInt .i64)) (xs := [x206]) (ps := [(0, [(.int .i64 x206)])]) (cs := [(.int .i64 x206)]) (parts := [(0, .tmp 77)]) S trivial (by decide) rfl (H.put0 (A := eA) rfl) rfl Try.underlying29 Try.sizeOf2 Try.zeroValue2 (by decide) ⟨rfl, rfl, Nat.le_of_ble_eq_true rfl, trivial⟩ (by intro zs hz; exact fill_dense hz ⟨rfl, trivial⟩ rfl rfl) rfl (by decide) (fun w F hA => by cases (show F = [] from hA); exact ⟨_, _, [(.int .i64 x206)], _, rfl, rfl, ⟨rfl, rfl⟩, ⟨rfl, rfl⟩⟩) (fun v353 w354 H => ⟨trivial, fun a S => ?_⟩)
              obtain ⟨x356, e357, hm⟩ := bind_some hm
              obtain ⟨hle, hap⟩ := app_some e357
              replace hap := hap.symm
              subst hap
              have H : Heap w0 [oA (rList (rInt .i64)) v353 [x206], oA (rList (rInt .i64)) v202 xs203] w354 := H.front 0 rfl
              have H : Heap w0 [oA (rList (rInt .i64)) v202 xs203, oA (rList (rInt .i64)) v353 [x206]] w354 := H.front 1 rfl
              refine lx_appendOwn (r := (rInt .i64)) S trivial (by decide) rfl H rfl rfl Try.underlying29 Try.ti2 rfl rfl rfl (by decide) (by decide) hle (fun v358 w359 H => ⟨trivial, fun a S => ?_⟩)
              refine lx_q v358 S trivial (by decide) (q_assign rfl) (fun a S => ?_)
              refine lx_nil ?_
              refine thenN ?_
              refine wp_seq ?_
              refine wp_seq ?_
              refine region_plain ?_
              refine lx_q p1 S trivial (by decide) (q_move rfl) (fun a S => ?_)
              refine lx_q (.int .i64 x206) S trivial (by decide) (q_move rfl) (fun a S => ?_)
              obtain ⟨x361, e362, hm⟩ := bind_some hm
              obtain ⟨c363, h364, hat365⟩ := (h1).elem (idx_some e362).2
              obtain rfl := h364
              have hlt := lt_of_idx (idx_some e362).2
              refine lx_q (ePtr p1 (x206.toNat * 1)) S trivial (by decide) (q_indexAddr rfl (h1).isSl rfl (idx_some e362).1 hlt Try.underlying29 Try.sizeOf2) (fun a S => ?_)
              refine lx_e (.int .i64 x361) S trivial (by decide) rfl trivial (q_load1 rfl Try.isAgg2 (by rintro _ rfl; exact ((hat365 0 _ rfl).ext H.ext))) (fun a S => ?_)
              refine lx_q (.bool (decide (x361 < (0 : Int)))) S trivial (by decide) (q_lss rfl rfl) (fun a S => ?_)
              refine lx_nil ?_
              refine thenN ?_
              refine cond_b S rfl (fun hc366 => ?_) (fun hc366 => ?_)
              · have hm := ite_t hc366 hm
                refine wp_seq ?_
                refine region_drawG (fun w1 => Heap w0 [] w1) (fun i => [].contains i) mixed (by kernel_rfl) (fun w368 he367 => ?_)
                have H := H.later he367
                refine ⟨H.sel [] (by decide), ?_⟩
                refine lx_q v358 S trivial (by decide) (q_move rfl) (fun a S => ?_)
                refine lx_q p0 S trivial (by decide) (q_move rfl) (fun a S => ?_)
                refine lx_q (.int .i64 x206) S trivial (by decide) (q_move rfl) (fun a S => ?_)
                obtain ⟨x369, e370, hm⟩ := bind_some hm
                obtain ⟨c371, h372, hat373⟩ := (h0).elem (idx_some e370).2
                obtain ⟨c376, c377, rfl, h378, h379⟩ := h372
                obtain rfl := h378
                obtain ⟨c380, c381, rfl, h382, h383⟩ := h379
                obtain rfl := h382
                obtain ⟨v374, rfl, h375⟩ := rd_list h383
                have hlt := lt_of_idx (idx_some e370).2
                refine lx_q (ePtr p0 (x206.toNat * 3)) S trivial (by decide) (q_indexAddr rfl (h0).isSl rfl (idx_some e370).1 hlt Try.underlying42 Try.sizeOf75) (fun a S => ?_)
                refine lx_q (pAdd (ePtr p0 (x206.toNat * 3)) 0) S trivial (by decide) (q_fieldAddr' 0 2 rfl ((hat373 0 _ rfl).isP) Try.underlying75 rfl Try.sizeOf2) (fun a S => ?_)
                refine lx_q (.int .i64 x369.1) S trivial (by decide) (q_load1 rfl Try.isAgg2 (fun w1 hC => (At.of_add (m := 0) (j := 0) ((hat373 0 _ rfl).ext hC.ext)))) (fun a S => ?_)
                refine lx_q (.int .i64 (W ((1 : Int) - x369.1))) S trivial (by decide) (q_sub rfl rfl) (fun a S => ?_)
                refine lx_q v358 S trivial (by decide) (q_assign rfl) (fun a S => ?_)
                refine lx_q (.int .i64 (-1 : Int)) S trivial (by decide) (q_assign rfl) (fun a S => ?_)
                refine lx_q (.int .i64 (W ((1 : Int) - x369.1))) S trivial (by decide) (q_assign rfl) (fun a S => ?_)
                refine lx_q (.int .i64 (0 : Int)) S trivial (by decide) (q_assign rfl) (fun a S => ?_)
                refine lx_nil ?_
                refine thenN ?_
                refine wp_ret ?_
                refine then_ret ?_
                refine inBlock_ret ?_
                refine then_ret ?_
                refine then_ret ?_
                refine inBlock_ret ?_
                refine then_ret ?_
                refine then_ret ?_
                obtain rfl := it_brk hm hc351
                have hm := ctl_inr hk267
                obtain rfl := Option.some.inj hm
                exact leave4 S rfl rfl rfl rfl rfl ⟨v358, rfl, H⟩
              · have hm := ite_f hc366 hm
                refine wp_skip ?_
                refine thenN ?_
                refine region_plain ?_
                refine lx_q v358 S trivial (by decide) (q_move rfl) (fun a S => ?_)
                refine lx_q p1 S trivial (by decide) (q_move rfl) (fun a S => ?_)
                refine lx_q (.int .i64 x206) S trivial (by decide) (q_move rfl) (fun a S => ?_)
                obtain ⟨x384, e385, hm⟩ := bind_some hm
                obtain ⟨c386, h387, hat388⟩ := (h1).elem (idx_some e385).2
                obtain rfl := h387
                have hlt := lt_of_idx (idx_some e385).2
                refine lx_q (ePtr p1 (x206.toNat * 1)) S trivial (by decide) (q_indexAddr rfl (h1).isSl rfl (idx_some e385).1 hlt Try.underlying29 Try.sizeOf2) (fun a S => ?_)
                refine lx_e (.int .i64 x384) S trivial (by decide) rfl trivial (q_load1 rfl Try.isAgg2 (by rintro _ rfl; exact ((hat388 0 _ rfl).ext H.ext))) (fun a S => ?_)
                obtain ⟨x391, e392, hm⟩ := bind_some hm
                refine lx_call (xs := [.tmp 92, .tmp 96]) S trivial (by decide) rfl rfl Try.call66 ((slices_Index__int64_int64_ok (H.rdAt 0 rfl)  e392).mono ?_)
                rintro e w389 ⟨rfl, Hc390⟩
                have he393 := Hc390.ext
                have H := H.call0 Hc390
                refine ⟨_, rfl, trivial, fun a S => ?_⟩
                refine lx_q (.int .i64 x391) S trivial (by decide) (q_assign rfl) (fun a S => ?_)
                refine lx_nil ?_
                refine inBlock_norm ?_
                refine thenN ?_
                refine region_plain ?_
                refine lx_q p1 S trivial (by decide) (q_move rfl) (fun a S => ?_)
                refine lx_q (.int .i64 x206) S trivial (by decide) (q_move rfl) (fun a S => ?_)
                obtain ⟨x394, e395, hm⟩ := bind_some hm
                obtain ⟨c396, h397, hat398⟩ := (h1).elem (idx_some e395).2
                obtain rfl := h397
                have hlt := lt_of_idx (idx_some e395).2
                refine lx_q (ePtr p1 (x206.toNat * 1)) S trivial (by decide) (q_indexAddr rfl (h1).isSl rfl (idx_some e395).1 hlt Try.underlying29 Try.sizeOf2) (fun a S => ?_)
                refine lx_e (.int .i64 x394) S trivial (by decide) rfl trivial (q_load1 rfl Try.isAgg2 (by rintro _ rfl; exact ((hat398 0 _ rfl).ext H.ext))) (fun a S => ?_)
                refine lx_q (.int .i64 x394) S trivial (by decide) (q_assign rfl) (fun a S => ?_)
                refine lx_nil ?_
                exact ⟨m349, Nat.lt_succ_self _, (xs203 ++ [x206]), x391, x394, v358, S.sub ⟨rfl, rfl, rfl, rfl, rfl, trivial⟩, H, it_cont hm hc351⟩
            · have hm := ite_f hc352 hm
              refine wp_exit ?_
              refine then_exit ?_
              refine then_exit ?_
              refine inBlock_exit ?_
              obtain rfl := it_brk hm hc351
              exact ⟨xs203, x205, v202, S.sub ⟨rfl, rfl, rfl, trivial⟩, H, rfl⟩
        · skip
          refine loop_ghost (fun n a w => ∃ (x95 : Int), Slots a 118 [(0, p0), (1, p1), (2, (.int .i64 a2)), (34, p0), (35, (.int .i64 (a0.length : Int))), (36, (.int .i64 x95))] ∧ Heap w0 [] w ∧ iter f146 n (x95) = some res144) _ ⟨(0 : Int), S.sub ⟨rfl, rfl, rfl, rfl, rfl, rfl, trivial⟩, H, hit145⟩ ?_
          rintro n a w ⟨x95, S, H, hit145⟩
          obtain ⟨m399, o400, rfl, hm, hc401⟩ := iter_step hit145
          rw [hf147] at hm
          refine wp_seq ?_
          refine region_plain ?_
          refine lx_q (.bool (decide (x95 < (a0.length : Int)))) S trivial (by decide) (q_lss rfl rfl) (fun a S => ?_)
          refine lx_nil ?_
          refine thenN ?_
          refine wp_seq ?_
          refine cond_b S rfl (fun hc402 => ?_) (fun hc402 => ?_)
          · have hm := ite_t hc402 hm
            refine wp_skip ?_
            refine thenN ?_
            refine wp_seq ?_
            refine wp_block ?_
            refine wp_seq ?_
            refine region_plain ?_
            refine lx_q (.int .i64 x95) S trivial (by decide) (q_move rfl) (fun a S => ?_)
            obtain ⟨x403, e404, hm⟩ := bind_some hm
            obtain ⟨c405, h406, hat407⟩ := (h0).elem (idx_some e404).2
            obtain ⟨c410, c411, rfl, h412, h413⟩ := h406
            obtain rfl := h412
            obtain ⟨c414, c415, rfl, h416, h417⟩ := h413
            obtain rfl := h416
            obtain ⟨v408, rfl, h409⟩ := rd_list h417
            have hlt := lt_of_idx (idx_some e404).2
            refine lx_q (ePtr p0 (x95.toNat * 3)) S trivial (by decide) (q_indexAddr rfl (h0).isSl rfl (idx_some e404).1 hlt Try.underlying42 Try.sizeOf75) (fun a S => ?_)
            refine lx_e (.agg #[(.int .i64 x403.1), (.int .i64 x403.2.1), v408]) S trivial (by decide) rfl trivial (q_loadA (cs := [(.int .i64 x403.1), (.int .i64 x403.2.1), v408]) rfl ((hat407 0 _ rfl).isP) Try.isAgg75 Try.sizeOf75 (by rintro _ rfl; exact (fun j u hu => (hat407 j u hu).ext H.ext))) (fun a S => ?_)
            refine lx_alloc S trivial (by decide) rfl H Try.zeroValue75 rfl (fun b418 w419 H => ⟨trivial, fun a S => ?_⟩)
            refine lx_q (.int .i64 x95) S trivial (by decide) (q_assign rfl) (fun a S => ?_)
            refine lx_storeBox (o := 0) (i := 0) (us := [(.int .i64 x403.1), (.int .i64 x403.2.1), v408]) (cs' := [(.int .i64 x403.1), (.int .i64 x403.2.1), v408]) S trivial rfl H rfl rfl rfl rfl Try.sizeOf75 (Nat.le_of_ble_eq_true rfl) (List.forall_mem_cons.2 ⟨rfl, (List.forall_mem_cons.2 ⟨rfl, (List.forall_mem_cons.2 ⟨one_sl (h409).isSl, (fun _ h => nomatch h)⟩)⟩)⟩) rfl (fun w421 H => ⟨trivial, fun a S => ?_⟩)
            change Heap w0 [bA b418 [(.int .i64 x403.1), (.int .i64 x403.2.1), v408] 75] w421 at H
            refine lx_nil ?_
            refine thenN ?_
            refine wp_seq ?_
            refine region_drawG (fun w1 => Heap w0 [bA b418 [(.int .i64 x403.1), (.int .i64 x403.2.1), v408] 75] w1) (fun i => [11].contains i) mixed (by kernel_rfl) (fun w423 he422 => ?_)
            have H := H.later he422
            refine ⟨H.sel [0] (by decide), ?_⟩
            refine lx_q (pAdd (bp b418) 2) S trivial (by decide) (q_fieldAddr' 2 29 rfl (isP_bp _) Try.underlying75 rfl Try.sizeOf29) (fun a S => ?_)
            refine lx_q v408 S trivial (by decide) (q_load1 rfl Try.isAgg29 (fun w1 hC => (At.of_add (m := 2) (j := 0) (boxAt (i := 0) hC rfl (j := 2) rfl)))) (fun a S => ?_)
            refine lx_q (.int .i64 (x403.2.2.length : Int)) S trivial (by decide) (q_lenSl rfl (h409).isSl rfl Try.underlying29) (fun a S => ?_)
            refine lx_q (.bool (decide ((0 : Int) < (x403.2.2.length : Int)))) S trivial (by decide) (q_gtr rfl rfl) (fun a S => ?_)
            refine lx_q (.bool (decide ((0 : Int) < (x403.2.2.length : Int)))) S trivial (by decide) (q_move rfl) (fun a S => ?_)
            obtain ⟨t424, e425, hm⟩ := bind_some hm
            refine lx_cut 9 (fun a w => Slots a 118 [(0, p0), (1, p1), (2, (.int .i64 a2)), (10, (.int .i64 x95)), (11, (bp b418)), (34, p0), (35, (.int .i64 (a0.length : Int))), (36, (.int .i64 x95)), (54, (.bool t424))] ∧ Heap w0 [bA b418 [(.int .i64 x403.1), (.int .i64 x403.2.1), v408] 75] w) ?_ ?_
            · by_cases hc426 : (decide ((0 : Int) < (x403.2.2.length : Int))) = true
              · have hm := ite_t hc426 e425
                refine lx_q (pAdd (bp b418) 2) S (want_b rfl rfl hc426) (by decide) (q_fieldAddr' 2 29 rfl (isP_bp _) Try.underlying75 rfl Try.sizeOf29) (fun a S => ?_)
                refine lx_q v408 S (want_b rfl rfl hc426) (by decide) (q_load1 rfl Try.isAgg29 (fun w1 hC => (At.of_add (m := 2) (j := 0) (boxAt (i := 0) hC rfl (j := 2) rfl)))) (fun a S => ?_)
                refine lx_q p1 S (want_b rfl rfl hc426) (by decide) (q_move rfl) (fun a S => ?_)
                refine lx_q (.int .i64 x95) S (want_b rfl rfl hc426) (by decide) (q_move rfl) (fun a S => ?_)
                obtain ⟨x427, e428, hm⟩ := bind_some hm
                obtain ⟨c429, h430, hat431⟩ := (h1).elem (idx_some e428).2
                obtain rfl := h430
                have hlt := lt_of_idx (idx_some e428).2
                refine lx_q (ePtr p1 (x95.toNat * 1)) S (want_b rfl rfl hc426) (by decide) (q_indexAddr rfl (h1).isSl rfl (idx_some e428).1 hlt Try.underlying29 Try.sizeOf2) (fun a S => ?_)
                refine lx_q (.int .i64 x427) S (want_b rfl rfl hc426) (by decide) (q_load1 rfl Try.isAgg2 (fun w1 hC => ((hat431 0 _ rfl).ext hC.ext))) (fun a S => ?_)
                obtain ⟨x434, e435, hm⟩ := bind_some hm
                refine lx_call (xs := [.tmp 47, .tmp 51]) S (want_b rfl rfl hc426) (by decide) rfl rfl Try.call65 ((slices_Contains__int64_int64_ok (H.arg h409)  e435).mono ?_)
                rintro e w432 ⟨rfl, Hc433⟩
                have he436 := Hc433.ext
                have H := H.call0 Hc433
                refine ⟨_, rfl, H.sel [0] (by decide), fun a S => ?_⟩
                refine lx_q (.bool (!x434)) S (want_b rfl rfl hc426) (by decide) (q_not rfl) (fun a S => ?_)
                refine lx_q (.bool (!x434)) S trivial (by decide) (q_pickT' rfl hc426 rfl) (fun a S => ?_)
                refine lx_nil ?_
                obtain rfl := Option.some.inj hm
                exact ⟨S.sub ⟨rfl, rfl, rfl, rfl, rfl, rfl, rfl, rfl, rfl, trivial⟩, H⟩
              · have hm := ite_f (eq_false_of_ne_true hc426) e425
                have hc426 : (decide ((0 : Int) < (x403.2.2.length : Int))) = false := eq_false_of_ne_true hc426
                refine lx_skip S rfl rfl (isB_ne hc426) (by decide) (fun a S => ?_)
                refine lx_skip S rfl rfl (isB_ne hc426) (by decide) (fun a S => ?_)
                refine lx_skip S rfl rfl (isB_ne hc426) (by decide) (fun a S => ?_)
                refine lx_skip S rfl rfl (isB_ne hc426) (by decide) (fun a S => ?_)
                refine lx_skip S rfl rfl (isB_ne hc426) (by decide) (fun a S => ?_)
                refine lx_skip S rfl rfl (isB_ne hc426) (by decide) (fun a S => ?_)
                refine lx_skip S rfl rfl (isB_ne hc426) (by decide) (fun a S => ?_)
                refine lx_skip S rfl rfl (isB_ne hc426) (by decide) (fun a S => ?_)
                refine lx_q (.bool false) S trivial (by decide) (q_pickF' rfl hc426 rfl) (fun a S => ?_)
                refine lx_nil ?_
                obtain rfl := Option.some.inj hm
                exact ⟨S.sub ⟨rfl, rfl, rfl, rfl, rfl, rfl, rfl, rfl, rfl, trivial⟩, H⟩
            · rintro a w ⟨S, H⟩
              refine lx_q (.bool t424) S trivial (by decide) (q_move rfl) (fun a S => ?_)
              obtain ⟨t437, e438, hm⟩ := bind_some hm
              refine lx_cut 12 (fun a w => Slots a 118 [(0, p0), (1, p1), (2, (.int .i64 a2)), (34, p0), (35, (.int .i64 (a0.length : Int))), (36, (.int .i64 x95)), (67, (.bool t437))] ∧ Heap w0 [] w) ?_ ?_
              · by_cases hc439 : t424 = true
                · have hm := ite_t hc439 e438
                  refine lx_skip S rfl rfl (isB_ne hc439) (by decide) (fun a S => ?_)
                  refine lx_skip S rfl rfl (isB_ne hc439) (by decide) (fun a S => ?_)
                  refine lx_skip S rfl rfl (isB_ne hc439) (by decide) (fun a S => ?_)
                  refine lx_skip S rfl rfl (isB_ne hc439) (by decide) (fun a S => ?_)
                  refine lx_skip S rfl rfl (isB_ne hc439) (by decide) (fun a S => ?_)
                  refine lx_skip S rfl rfl rfl (by decide) (fun a S => ?_)
                  refine lx_skip S rfl rfl rfl (by decide) (fun a S => ?_)
                  refine lx_skip S rfl rfl rfl (by decide) (fun a S => ?_)
                  refine lx_skip S rfl rfl rfl (by decide) (fun a S => ?_)
                  refine lx_skip S rfl rfl rfl (by decide) (fun a S => ?_)
                  refine lx_skip S rfl rfl (isB_ne hc439) (by decide) (fun a S => ?_)
                  refine lx_q (.bool true) S trivial (by decide) (q_pickT' rfl hc439 rfl) (fun a S => ?_)
                  refine lx_nil ?_
                  obtain rfl := Option.some.inj hm
                  have H := H.sel [] (by decide)
                  exact ⟨S.sub ⟨rfl, rfl, rfl, rfl, rfl, rfl, rfl, trivial⟩, H⟩
                · have hm := ite_f (eq_false_of_ne_true hc439) e438
                  have hc439 : t424 = false := eq_false_of_ne_true hc439
                  refine lx_q (pAdd (bp b418) 2) S (want_b rfl rfl hc439) (by decide) (q_fieldAddr' 2 29 rfl (isP_bp _) Try.underlying75 rfl Try.sizeOf29) (fun a S => ?_)
                  refine lx_q v408 S (want_b rfl rfl hc439) (by decide) (q_load1 rfl Try.isAgg29 (fun w1 hC => (At.of_add (m := 2) (j := 0) (boxAt (i := 0) hC rfl (j := 2) rfl)))) (fun a S => ?_)
                  refine lx_q (.int .i64 (x403.2.2.length : Int)) S (want_b rfl rfl hc439) (by decide) (q_lenSl rfl (h409).isSl rfl Try.underlying29) (fun a S => ?_)
                  refine lx_q (.bool ((x403.2.2.length : Int) == (0 : Int))) S (want_b rfl rfl hc439) (by decide) (q_eql rfl rfl) (fun a S => ?_)
                  refine lx_q (.bool ((x403.2.2.length : Int) == (0 : Int))) S (want_b rfl rfl hc439) (by decide) (q_move rfl) (fun a S => ?_)
                  obtain ⟨t440, e441, hm⟩ := bind_some hm
                  refine lx_cut 6 (fun a w => Slots a 118 [(0, p0), (1, p1), (2, (.int .i64 a2)), (34, p0), (35, (.int .i64 (a0.length : Int))), (36, (.int .i64 x95)), (55, (.bool t424)), (66, (.bool t440))] ∧ Heap w0 [] w) ?_ ?_
                  · by_cases hc442 : ((x403.2.2.length : Int) == (0 : Int)) = true
                    · have hm := ite_t hc442 e441
                      refine lx_q p1 S (want_b rfl rfl hc442) (by decide) (q_move rfl) (fun a S => ?_)
                      refine lx_q (.int .i64 x95) S (want_b rfl rfl hc442) (by decide) (q_move rfl) (fun a S => ?_)
                      obtain ⟨x443, e444, hm⟩ := bind_some hm
                      obtain ⟨c445, h446, hat447⟩ := (h1).elem (idx_some e444).2
                      obtain rfl := h446
                      have hlt := lt_of_idx (idx_some e444).2
                      refine lx_q (ePtr p1 (x95.toNat * 1)) S (want_b rfl rfl hc442) (by decide) (q_indexAddr rfl (h1).isSl rfl (idx_some e444).1 hlt Try.underlying29 Try.sizeOf2) (fun a S => ?_)
                      refine lx_q (.int .i64 x443) S (want_b rfl rfl hc442) (by decide) (q_load1 rfl Try.isAgg2 (fun w1 hC => ((hat447 0 _ rfl).ext hC.ext))) (fun a S => ?_)
                      refine lx_q (.bool (x443 != (-1 : Int))) S (want_b rfl rfl hc442) (by decide) (q_neq rfl rfl) (fun a S => ?_)
                      refine lx_q (.bool (x443 != (-1 : Int))) S (want_b rfl rfl hc439) (by decide) (q_pickT' rfl hc442 rfl) (fun a S => ?_)
                      refine lx_nil ?_
                      obtain rfl := Option.some.inj hm
                      have H := H.sel [] (by decide)
                      exact ⟨S.sub ⟨rfl, rfl, rfl, rfl, rfl, rfl, rfl, rfl, trivial⟩, H⟩
                    · have hm := ite_f (eq_false_of_ne_true hc442) e441
                      have hc442 : ((x403.2.2.length : Int) == (0 : Int)) = false := eq_false_of_ne_true hc442
                      refine lx_skip S rfl rfl (isB_ne hc442) (by decide) (fun a S => ?_)
                      refine lx_skip S rfl rfl (isB_ne hc442) (by decide) (fun a S => ?_)
                      refine lx_skip S rfl rfl (isB_ne hc442) (by decide) (fun a S => ?_)
                      refine lx_skip S rfl rfl (isB_ne hc442) (by decide) (fun a S => ?_)
                      refine lx_skip S rfl rfl (isB_ne hc442) (by decide) (fun a S => ?_)
                      refine lx_q (.bool false) S (want_b rfl rfl hc439) (by decide) (q_pickF' rfl hc442 rfl) (fun a S => ?_)
                      refine lx_nil ?_
                      obtain rfl := Option.some.inj hm
                      have H := H.sel [] (by decide)
                      exact ⟨S.sub ⟨rfl, rfl, rfl, rfl, rfl, rfl, rfl, rfl, trivial⟩, H⟩
                  · rintro a w ⟨S, H⟩
                    refine lx_q (.bool t440) S trivial (by decide) (q_pickF' rfl hc439 rfl) (fun a S => ?_)
                    refine lx_nil ?_
                    obtain rfl := Option.some.inj hm
                    exact ⟨S.sub ⟨rfl, rfl, rfl, rfl, rfl, rfl, rfl, trivial⟩, H⟩
              · rintro a w ⟨S, H⟩
                refine lx_nil ?_
                refine thenN ?_
                refine cond_b S rfl (fun hc448 => ?_) (fun hc448 => ?_)
                · have hm := ite_t hc448 hm
                  refine wp_seq ?_
                  refine region_plain ?_
                  refine lx_q (.slice none 0 0) S trivial (by decide) (q_assign rfl) (fun a S => ?_)
                  refine lx_q (.int .i64 (0 : Int)) S trivial (by decide) (q_assign rfl) (fun a S => ?_)
                  refine lx_q (.int .i64 (0 : Int)) S trivial (by decide) (q_assign rfl) (fun a S => ?_)
                  refine lx_q (.int .i64 (7 : Int)) S trivial (by decide) (q_assign rfl) (fun a S => ?_)
                  refine lx_nil ?_
                  refine thenN ?_
                  refine wp_ret ?_
                  refine inBlock_ret ?_
                  refine then_ret ?_
                  refine then_ret ?_
                  refine inBlock_ret ?_
                  refine then_ret ?_
                  refine then_ret ?_
                  obtain rfl := it_brk hm hc401
                  have hm := ctl_inr hk148
                  obtain rfl := Option.some.inj hm
                  have H : Heap w0 [oA (rList (rInt .i64)) (.slice none 0 0) ([] : List Int)] w := H.nilList (rInt .i64)
                  exact leave4 S rfl rfl rfl rfl rfl ⟨(.slice none 0 0), rfl, H⟩
                · have hm := ite_f hc448 hm
                  refine wp_skip ?_
                  refine inBlock_norm ?_
                  refine thenN ?_
                  refine region_plain ?_
                  refine lx_q (.int .i64 (W (x95 + (1 : Int)))) S trivial (by decide) (q_add rfl rfl) (fun a S => ?_)
                  refine lx_q (.int .i64 (W (x95 + (1 : Int)))) S trivial (by decide) (q_move rfl) (fun a S => ?_)
                  refine lx_nil ?_
                  exact ⟨m399, Nat.lt_succ_self _, (W (x95 + (1 : Int))), S.sub ⟨rfl, rfl, rfl, rfl, rfl, rfl, trivial⟩, H, it_cont hm hc401⟩
          · have hm := ite_f hc402 hm
            refine wp_exit ?_
            refine then_exit ?_
            refine then_exit ?_
            refine inBlock_exit ?_
            obtain rfl := it_brk hm hc401
            exact ⟨S.sub ⟨rfl, rfl, rfl, trivial⟩, H, rfl⟩

/-- laws.FnExactPlayGame -/
def laws_FnExactPlayGame_m (fuel : Nat) (a0 : (List Tlaws_Vertex)) (a1 : (List Int)) (a2 : Int) : Option (Bool) :=
  (if (decide ((1048576 : Int) < (a1.length : Int))) = true then some (true) else (laws_szVertexS_m fuel a0 (1048576 : Int)).bind fun x34 => (if (decide (x34 < (0 : Int))) = true then some (true) else (laws_toVertexS_m fuel a0).bind fun x40 => (laws_toInt64S_m fuel a1).bind fun x47 => (spec_PlayGame_m fuel x40 x47 a2).bind fun x54 => (laws_toVertexS_m fuel a0).bind fun x61 => (laws_toInt64S_m fuel a1).bind fun x68 => (impl_PlayGame_m fuel x61 x68 a2).bind fun x75 => (laws_eqInt64S_m fuel x75.1 x54.1).bind fun x82 => (if (!x82) = true then some true else some (x75.2.1 != x54.2.1)).bind fun t85 => (if t85 = true then some true else some (x75.2.2.1 != x54.2.2.1)).bind fun t88 => (if t88 = true then some true else some (x75.2.2.2 != x54.2.2.2)).bind fun t91 => (if t91 = true then some (false) else (laws_toVertexS_m fuel a0).bind fun x97 => (laws_eqVertexS_m fuel x61 x97).bind fun x104 => (if (!x104) = true then some (false) else (laws_toInt64S_m fuel a1).bind fun x110 => (laws_eqInt64S_m fuel x68 x110).bind fun x117 => (if (!x117) = true then some (false) else (laws_markVertexS_m fuel x61 (1 : Int)).bind fun x123 => (laws_markInt64S_m fuel x68 x123.1).bind fun x127 => (if (decide (x127.1 < (0 : Int))) = true then some true else (laws_eqInt64S_m fuel x75.1 x54.1).bind fun x134 => some (!x134)).bind fun t129 => (if t129 = true then some true else some (x75.2.1 != x54.2.1)).bind fun t137 => (if t137 = true then some true else some (x75.2.2.1 != x54.2.2.1)).bind fun t140 => (if t140 = true then some true else some (x75.2.2.2 != x54.2.2.2)).bind fun t143 => (if t143 = true then some (false) else (laws_markInt64S_m fuel x75.1 (1 : Int)).bind fun x149 => (laws_heldInt64S_m fuel x149.2 (1 : Int)).bind fun x153 => (if (decide (x153 < (0 : Int))) = true then some (false) else (if (x153 != x149.1) = true then some (false) else (laws_toVertexS_m fuel a0).bind fun x160 => (laws_toInt64S_m fuel a1).bind fun x167 => (impl_PlayGame_m fuel x160 x167 a2).bind fun x174 => (laws_eqInt64S_m fuel x174.1 x54.1).bind fun x181 => (if (!x181) = true then some true else some (x174.2.1 != x54.2.1)).bind fun t184 => (if t184 = true then some true else some (x174.2.2.1 != x54.2.2.1)).bind fun t187 => (if t187 = true then some true else some (x174.2.2.2 != x54.2.2.2)).bind fun t190 => (if t190 = true then some (false) else (laws_heldInt64S_m fuel x149.2 (1 : Int)).bind fun x196 => (if (decide (x196 < (0 : Int))) = true then some (false) else (if (x196 != x149.1) = true then some (false) else some (true))))))))))))
set_option maxRecDepth 20000 in
theorem laws_FnExactPlayGame_ok {w0 : World} {fuel : Nat} {p0 p1 : Value} {a0 : (List Tlaws_Vertex)} {a1 : (List Int)} {a2 : Int} {r : Bool} (h0 : Rd (rList Rlaws_Vertex) w0 p0 a0) (h1 : Rd (rList (rInt .i64)) w0 p1 a1) (hm : laws_FnExactPlayGame_m fuel a0 a1 a2 = some r) :
    Calls Try.prog 8 #[p0, p1, .int .i64 a2] w0 fun e w => e = .returned (.bool r) ∧ Heap w0 [] w := by
  unfold laws_FnExactPlayGame_m at hm
  have H := Heap.start w0
  refine enter (args := [p0, p1, .int .i64 a2]) Try.func8 rfl 164 rfl (Nat.le_of_ble_eq_true rfl) (fun a S => ?_)
  refine wp_seq ?_
  refine region_plain ?_
  refine lx_q (.bool false) S trivial (by decide) (q_assign rfl) (fun a S => ?_)
  refine lx_nil ?_
  refine thenN ?_
  refine wp_seq ?_
  refine wp_seq ?_
  refine region_plain ?_
  refine lx_q p1 S trivial (by decide) (q_move rfl) (fun a S => ?_)
  refine lx_q (.int .i64 (a1.length : Int)) S trivial (by decide) (q_lenSl rfl (h1).isSl rfl Try.underlying29) (fun a S => ?_)
  refine lx_q (.bool (decide ((1048576 : Int) < (a1.length : Int)))) S trivial (by decide) (q_gtr rfl rfl) (fun a S => ?_)
  refine lx_nil ?_
  refine thenN ?_
  refine cond_b S rfl (fun hc31 => ?_) (fun hc31 => ?_)
  · have hm := ite_t hc31 hm
    refine wp_seq ?_
    refine region_plain ?_
    refine lx_q (.bool true) S trivial (by decide) (q_assign rfl) (fun a S => ?_)
    refine lx_nil ?_
    refine thenN ?_
    refine wp_ret ?_
    refine then_ret ?_
    obtain rfl := Option.some.inj hm
    exact leave1 S rfl rfl ⟨rfl, H⟩
  · have hm := ite_f hc31 hm
    refine wp_skip ?_
    refine thenN ?_
    refine wp_seq ?_
    refine region_plain ?_
    refine lx_q (.int .i64 (1048576 : Int)) S trivial (by decide) (q_assign rfl) (fun a S => ?_)
    refine lx_nil ?_
    refine thenN ?_
    refine wp_seq ?_
    refine region_plain ?_
    refine lx_q p0 S trivial (by decide) (q_move rfl) (fun a S => ?_)
    refine lx_q (.int .i64 (1048576 : Int)) S trivial (by decide) (q_move rfl) (fun a S => ?_)
    obtain ⟨x34, e35, hm⟩ := bind_some hm
    refine lx_call (xs := [.tmp 28, .tmp 29]) S trivial (by decide) rfl rfl Try.call24 ((laws_szVertexS_ok (H.arg h0)  e35).mono ?_)
    rintro e w32 ⟨rfl, Hc33⟩
    have he36 := Hc33.ext
    have H := H.call0 Hc33
    refine ⟨_, rfl, trivial, fun a S => ?_⟩
    refine lx_q (.int .i64 x34) S trivial (by decide) (q_assign rfl) (fun a S => ?_)
    refine lx_nil ?_
    refine thenN ?_
    refine wp_seq ?_
    refine wp_seq ?_
    refine region_plain ?_
    refine lx_q (.int .i64 x34) S trivial (by decide) (q_move rfl) (fun a S => ?_)
    refine lx_q (.bool (decide (x34 < (0 : Int)))) S trivial (by decide) (q_lss rfl rfl) (fun a S => ?_)
    refine lx_nil ?_
    refine thenN ?_
    refine cond_b S rfl (fun hc37 => ?_) (fun hc37 => ?_)
    · have hm := ite_t hc37 hm
      refine wp_seq ?_
      refine region_plain ?_
      refine lx_q (.bool true) S trivial (by decide) (q_assign rfl) (fun a S => ?_)
      refine lx_nil ?_
      refine thenN ?_
      refine wp_ret ?_
      refine then_ret ?_
      obtain rfl := Option.some.inj hm
      exact leave1 S rfl rfl ⟨rfl, H⟩
    · have hm := ite_f hc37 hm
      refine wp_skip ?_
      refine thenN ?_
      refine wp_seq ?_
      refine region_plain ?_
      refine lx_q p0 S trivial (by decide) (q_move rfl) (fun a S => ?_)
      obtain ⟨x40, e41, hm⟩ := bind_some hm
      refine lx_call (xs := [.tmp 34]) S trivial (by decide) rfl rfl Try.call26 ((laws_toVertexS_ok (H.arg h0) e41).mono ?_)
      rintro e w38 ⟨v42, rfl, Hc39⟩
      have he44 := Hc39.ext
      have H := H.call1 Hc39
      refine ⟨_, rfl, trivial, fun a S => ?_⟩
      refine lx_q p1 S trivial (by decide) (q_move rfl) (fun a S => ?_)
      obtain ⟨x47, e48, hm⟩ := bind_some hm
      refine lx_call (xs := [.tmp 36]) S trivial (by decide) rfl rfl Try.call35 ((laws_toInt64S_ok (H.arg h1) e48).mono ?_)
      rintro e w45 ⟨v49, rfl, Hc46⟩
      have he51 := Hc46.ext
      have H := H.call1 Hc46
      refine ⟨_, rfl, trivial, fun a S => ?_⟩
      refine lx_q (.int .i64 a2) S trivial (by decide) (q_move rfl) (fun a S => ?_)
      obtain ⟨x54, e55, hm⟩ := bind_some hm
      refine lx_call (xs := [.tmp 35, .tmp 37, .tmp 38]) S trivial (by decide) rfl rfl Try.call34 ((spec_PlayGame_ok (H.rdAt 1 rfl) (H.rdAt 0 rfl)  e55).mono ?_)
      rintro e w52 ⟨v56, rfl, Hc53⟩
      have he58 := Hc53.ext
      have H := H.call1 Hc53
      refine ⟨_, rfl, trivial, fun a S => ?_⟩
      refine lx_q (.tuple #[v56, (.int .i64 x54.2.1), (.int .i64 x54.2.2.1), (.int .i64 x54.2.2.2)]) S trivial (by decide) (q_move rfl) (fun a S => ?_)
      refine lx_q v56 S trivial (by decide) (q_extract rfl rfl) (fun a S => ?_)
      refine lx_q (.int .i64 x54.2.1) S trivial (by decide) (q_extract rfl rfl) (fun a S => ?_)
      refine lx_q (.int .i64 x54.2.2.1) S trivial (by decide) (q_extract rfl rfl) (fun a S => ?_)
      refine lx_q (.int .i64 x54.2.2.2) S trivial (by decide) (q_extract rfl rfl) (fun a S => ?_)
      refine lx_q v56 S trivial (by decide) (q_assign rfl) (fun a S => ?_)
      refine lx_q (.int .i64 x54.2.1) S trivial (by decide) (q_assign rfl) (fun a S => ?_)
      refine lx_q (.int .i64 x54.2.2.1) S trivial (by decide) (q_assign rfl) (fun a S => ?_)
      refine lx_q (.int .i64 x54.2.2.2) S trivial (by decide) (q_assign rfl) (fun a S => ?_)
      refine lx_nil ?_
      refine thenN ?_
      refine wp_seq ?_
      refine region_plain ?_
      refine lx_q p0 S trivial (by decide) (q_move rfl) (fun a S => ?_)
      obtain ⟨x61, e62, hm⟩ := bind_some hm
      refine lx_call (xs := [.tmp 44]) S trivial (by decide) rfl rfl Try.call26 ((laws_toVertexS_ok (H.arg h0) e62).mono ?_)
      rintro e w59 ⟨v63, rfl, Hc60⟩
      have he65 := Hc60.ext
      have H := H.call1 Hc60
      refine ⟨_, rfl, trivial, fun a S => ?_⟩
      refine lx_q v63 S trivial (by decide) (q_assign rfl) (fun a S => ?_)
      refine lx_nil ?_
      refine thenN ?_
      refine wp_seq ?_
      refine region_plain ?_
      refine lx_q p1 S trivial (by decide) (q_move rfl) (fun a S => ?_)
      obtain ⟨x68, e69, hm⟩ := bind_some hm
      refine lx_call (xs := [.tmp 46]) S trivial (by decide) rfl rfl Try.call35 ((laws_toInt64S_ok (H.arg h1) e69).mono ?_)
      rintro e w66 ⟨v70, rfl, Hc67⟩
      have he72 := Hc67.ext
      have H := H.call1 Hc67
      refine ⟨_, rfl, trivial, fun a S => ?_⟩
      refine lx_q v70 S trivial (by decide) (q_assign rfl) (fun a S => ?_)
      refine lx_nil ?_
      refine thenN ?_
      refine wp_seq ?_
      refine region_plain ?_
      refine lx_q v63 S trivial (by decide) (q_move rfl) (fun a S => ?_)
      refine lx_q v70 S trivial (by decide) (q_move rfl) (fun a S => ?_)
      refine lx_q (.int .i64 a2) S trivial (by decide) (q_move rfl) (fun a S => ?_)
      obtain ⟨x75, e76, hm⟩ := bind_some hm
      refine lx_call (xs := [.tmp 49, .tmp 50, .tmp 51]) S trivial (by decide) rfl rfl Try.call36 ((impl_PlayGame_ok (H.rdAt 1 rfl) (H.rdAt 0 rfl)  e76).mono ?_)
      rintro e w73 ⟨v77, rfl, Hc74⟩
      have he79 := Hc74.ext
      have H := H.call1 Hc74
      refine ⟨_, rfl, trivial, fun a S => ?_⟩
      refine lx_q (.tuple #[v77, (.int .i64 x75.2.1), (.int .i64 x75.2.2.1), (.int .i64 x75.2.2.2)]) S trivial (by decide) (q_move rfl) (fun a S => ?_)
      refine lx_q v77 S trivial (by decide) (q_extract rfl rfl) (fun a S => ?_)
      refine lx_q (.int .i64 x75.2.1) S trivial (by decide) (q_extract rfl rfl) (fun a S => ?_)
      refine lx_q (.int .i64 x75.2.2.1) S trivial (by decide) (q_extract rfl rfl) (fun a S => ?_)
      refine lx_q (.int .i64 x75.2.2.2) S trivial (by decide) (q_extract rfl rfl) (fun a S => ?_)
      refine lx_q v77 S trivial (by decide) (q_assign rfl) (fun a S => ?_)
      refine lx_q (.int .i64 x75.2.1) S trivial (by decide) (q_assign rfl) (fun a S => ?_)
      refine lx_q (.int .i64 x75.2.2.1) S trivial (by decide) (q_assign rfl) (fun a S => ?_)
      refine lx_q (.int .i64 x75.2.2.2) S trivial (by decide) (q_assign rfl) (fun a S => ?_)
      refine lx_nil ?_
      refine thenN ?_
      refine wp_seq ?_
      refine wp_seq ?_
      refine region_plain ?_
      refine lx_q v77 S trivial (by decide) (q_move rfl) (fun a S => ?_)
      refine lx_q v56 S trivial (by decide) (q_move rfl) (fun a S => ?_)
      obtain ⟨x82, e83, hm⟩ := bind_some hm
      refine lx_call (xs := [.tmp 57, .tmp 58]) S trivial (by decide) rfl rfl Try.call16 ((laws_eqInt64S_ok (H.rdAt 0 rfl) (H.rdAt 3 rfl) e83).mono ?_)
      rintro e w80 ⟨rfl, Hc81⟩
      have he84 := Hc81.ext
      have H := H.call0 Hc81
      refine ⟨_, rfl, trivial, fun a S => ?_⟩
      refine lx_q (.bool (!x82)) S trivial (by decide) (q_not rfl) (fun a S => ?_)
      refine lx_q (.bool (!x82)) S trivial (by decide) (q_move rfl) (fun a S => ?_)
      obtain ⟨t85, e86, hm⟩ := bind_some hm
      refine lx_cut 4 (fun a w => Slots a 164 [(0, p0), (1, p1), (2, (.int .i64 a2)), (8, v56), (9, (.int .i64 x54.2.1)), (10, (.int .i64 x54.2.2.1)), (11, (.int .i64 x54.2.2.2)), (12, v63), (13, v70), (14, v77), (15, (.int .i64 x75.2.1)), (16, (.int .i64 x75.2.2.1)), (17, (.int .i64 x75.2.2.2)), (65, (.bool t85))] ∧ Heap w0 [oA (rList (rInt .i64)) v77 x75.1, oA (rList (rInt .i64)) v70 x68, oA (rList Rimpl_Vertex) v63 x61, oA (rList (rInt .i64)) v56 x54.1] w) ?_ ?_
      · by_cases hc87 : (!x82) = true
        · have hm := ite_t hc87 e86
          refine lx_skip S rfl rfl (isB_ne hc87) (by decide) (fun a S => ?_)
          refine lx_skip S rfl rfl (isB_ne hc87) (by decide) (fun a S => ?_)
          refine lx_skip S rfl rfl (isB_ne hc87) (by decide) (fun a S => ?_)
          refine lx_q (.bool true) S trivial (by decide) (q_pickT' rfl hc87 rfl) (fun a S => ?_)
          refine lx_nil ?_
          obtain rfl := Option.some.inj hm
          have H := H.sel [0, 1, 2, 3] (by decide)
          exact ⟨S.sub ⟨rfl, rfl, rfl, rfl, rfl, rfl, rfl, rfl, rfl, rfl, rfl, rfl, rfl, rfl, trivial⟩, H⟩
        · have hm := ite_f (eq_false_of_ne_true hc87) e86
          have hc87 : (!x82) = false := eq_false_of_ne_true hc87
          refine lx_q (.int .i64 x75.2.1) S (want_b rfl rfl hc87) (by decide) (q_move rfl) (fun a S => ?_)
          refine lx_q (.int .i64 x54.2.1) S (want_b rfl rfl hc87) (by decide) (q_move rfl) (fun a S => ?_)
          refine lx_q (.bool (x75.2.1 != x54.2.1)) S (want_b rfl rfl hc87) (by decide) (q_neq rfl rfl) (fun a S => ?_)
          refine lx_q (.bool (x75.2.1 != x54.2.1)) S trivial (by decide) (q_pickF' rfl hc87 rfl) (fun a S => ?_)
          refine lx_nil ?_
          obtain rfl := Option.some.inj hm
          have H := H.sel [0, 1, 2, 3] (by decide)
          exact ⟨S.sub ⟨rfl, rfl, rfl, rfl, rfl, rfl, rfl, rfl, rfl, rfl, rfl, rfl, rfl, rfl, trivial⟩, H⟩
      · rintro a w ⟨S, H⟩
        refine lx_q (.bool t85) S trivial (by decide) (q_move rfl) (fun a S => ?_)
        obtain ⟨t88, e89, hm⟩ := bind_some hm
        refine lx_cut 4 (fun a w => Slots a 164 [(0, p0), (1, p1), (2, (.int .i64 a2)), (8, v56), (9, (.int .i64 x54.2.1)), (10, (.int .i64 x54.2.2.1)), (11, (.int .i64 x54.2.2.2)), (12, v63), (13, v70), (14, v77), (15, (.int .i64 x75.2.1)), (16, (.int .i64 x75.2.2.1)), (17, (.int .i64 x75.2.2.2)), (70, (.bool t88))] ∧ Heap w0 [oA (rList (rInt .i64)) v77 x75.1, oA (rList (rInt .i64)) v70 x68, oA (rList Rimpl_Vertex) v63 x61, oA (rList (rInt .i64)) v56 x54.1] w) ?_ ?_
        · by_cases hc90 : t85 = true
          · have hm := ite_t hc90 e89
            refine lx_skip S rfl rfl (isB_ne hc90) (by decide) (fun a S => ?_)
            refine lx_skip S rfl rfl (isB_ne hc90) (by decide) (fun a S => ?_)
            refine lx_skip S rfl rfl (isB_ne hc90) (by decide) (fun a S => ?_)
            refine lx_q (.bool true) S trivial (by decide) (q_pickT' rfl hc90 rfl) (fun a S => ?_)
            refine lx_nil ?_
            obtain rfl := Option.some.inj hm
            exact ⟨S.sub ⟨rfl, rfl, rfl, rfl, rfl, rfl, rfl, rfl, rfl, rfl, rfl, rfl, rfl, rfl, trivial⟩, H⟩
          · have hm := ite_f (eq_false_of_ne_true hc90) e89
            have hc90 : t85 = false := eq_false_of_ne_true hc90
            refine lx_q (.int .i64 x75.2.2.1) S (want_b rfl rfl hc90) (by decide) (q_move rfl) (fun a S => ?_)
            refine lx_q (.int .i64 x54.2.2.1) S (want_b rfl rfl hc90) (by decide) (q_move rfl) (fun a S => ?_)
            refine lx_q (.bool (x75.2.2.1 != x54.2.2.1)) S (want_b rfl rfl hc90) (by decide) (q_neq rfl rfl) (fun a S => ?_)
            refine lx_q (.bool (x75.2.2.1 != x54.2.2.1)) S trivial (by decide) (q_pickF' rfl hc90 rfl) (fun a S => ?_)
            refine lx_nil ?_
            obtain rfl := Option.some.inj hm
            exact ⟨S.sub ⟨rfl, rfl, rfl, rfl, rfl, rfl, rfl, rfl, rfl, rfl, rfl, rfl, rfl, rfl, trivial⟩, H⟩
        · rintro a w ⟨S, H⟩
          refine lx_q (.bool t88) S trivial (by decide) (q_move rfl) (fun a S => ?_)
          obtain ⟨t91, e92, hm⟩ := bind_some hm
          refine lx_cut 4 (fun a w => Slots a 164 [(0, p0), (1, p1), (2, (.int .i64 a2)), (8, v56), (9, (.int .i64 x54.2.1)), (10, (.int .i64 x54.2.2.1)), (11, (.int .i64 x54.2.2.2)), (12, v63), (13, v70), (14, v77), (15, (.int .i64 x75.2.1)), (16, (.int .i64 x75.2.2.1)), (17, (.int .i64 x75.2.2.2)), (75, (.bool t91))] ∧ Heap w0 [oA (rList (rInt .i64)) v77 x75.1, oA (rList (rInt .i64)) v70 x68, oA (rList Rimpl_Vertex) v63 x61, oA (rList (rInt .i64)) v56 x54.1] w) ?_ ?_
          · by_cases hc93 : t88 = true
            · have hm := ite_t hc93 e92
              refine lx_skip S rfl rfl (isB_ne hc93) (by decide) (fun a S => ?_)
              refine lx_skip S rfl rfl (isB_ne hc93) (by decide) (fun a S => ?_)
              refine lx_skip S rfl rfl (isB_ne hc93) (by decide) (fun a S => ?_)
              refine lx_q (.bool true) S trivial (by decide) (q_pickT' rfl hc93 rfl) (fun a S => ?_)
              refine lx_nil ?_
              obtain rfl := Option.some.inj hm
              exact ⟨S.sub ⟨rfl, rfl, rfl, rfl, rfl, rfl, rfl, rfl, rfl, rfl, rfl, rfl, rfl, rfl, trivial⟩, H⟩
            · have hm := ite_f (eq_false_of_ne_true hc93) e92
              have hc93 : t88 = false := eq_false_of_ne_true hc93
              refine lx_q (.int .i64 x75.2.2.2) S (want_b rfl rfl hc93) (by decide) (q_move rfl) (fun a S => ?_)
              refine lx_q (.int .i64 x54.2.2.2) S (want_b rfl rfl hc93) (by decide) (q_move rfl) (fun a S => ?_)
              refine lx_q (.bool (x75.2.2.2 != x54.2.2.2)) S (want_b rfl rfl hc93) (by decide) (q_neq rfl rfl) (fun a S => ?_)
              refine lx_q (.bool (x75.2.2.2 != x54.2.2.2)) S trivial (by decide) (q_pickF' rfl hc93 rfl) (fun a S => ?_)
              refine lx_nil ?_
              obtain rfl := Option.some.inj hm
              exact ⟨S.sub ⟨rfl, rfl, rfl, rfl, rfl, rfl, rfl, rfl, rfl, rfl, rfl, rfl, rfl, rfl, trivial⟩, H⟩
          · rintro a w ⟨S, H⟩
            refine lx_nil ?_
            refine thenN ?_
            refine cond_b S rfl (fun hc94 => ?_) (fun hc94 => ?_)
            · have hm := ite_t hc94 hm
              refine wp_seq ?_
              refine region_plain ?_
              refine lx_q (.bool false) S trivial (by decide) (q_assign rfl) (fun a S => ?_)
              refine lx_nil ?_
              refine thenN ?_
              refine wp_ret ?_
              refine then_ret ?_
              obtain rfl := Option.some.inj hm
              have H : Heap w0 [] w := H.sel [] (by decide)
              exact leave1 S rfl rfl ⟨rfl, H⟩
            · have hm := ite_f hc94 hm
              refine wp_skip ?_
              refine thenN ?_
              refine wp_seq ?_
              refine wp_seq ?_
              refine region_plain ?_
              refine lx_q v63 S trivial (by decide) (q_move rfl) (fun a S => ?_)
              refine lx_q p0 S trivial (by decide) (q_move rfl) (fun a S => ?_)
              obtain ⟨x97, e98, hm⟩ := bind_some hm
              refine lx_call (xs := [.tmp 77]) S trivial (by decide) rfl rfl Try.call26 ((laws_toVertexS_ok (H.arg h0) e98).mono ?_)
              rintro e w95 ⟨v99, rfl, Hc96⟩
              have he101 := Hc96.ext
              have H := H.call1 Hc96
              refine ⟨_, rfl, trivial, fun a S => ?_⟩
              obtain ⟨x104, e105, hm⟩ := bind_some hm
              refine lx_call (xs := [.tmp 76, .tmp 78]) S trivial (by decide) rfl rfl Try.call28 ((laws_eqVertexS_ok (H.rdAt 3 rfl) (H.rdAt 0 rfl) e105).mono ?_)
              rintro e w102 ⟨rfl, Hc103⟩
              have he106 := Hc103.ext
              have H := H.call0 Hc103
              refine ⟨_, rfl, trivial, fun a S => ?_⟩
              refine lx_q (.bool (!x104)) S trivial (by decide) (q_not rfl) (fun a S => ?_)
              refine lx_nil ?_
              refine thenN ?_
              refine cond_b S rfl (fun hc107 => ?_) (fun hc107 => ?_)
              · have hm := ite_t hc107 hm
                refine wp_seq ?_
                refine region_plain ?_
                refine lx_q (.bool false) S trivial (by decide) (q_assign rfl) (fun a S => ?_)
                refine lx_nil ?_
                refine thenN ?_
                refine wp_ret ?_
                refine then_ret ?_
                obtain rfl := Option.some.inj hm
                have H : Heap w0 [] w102 := H.sel [] (by decide)
                exact leave1 S rfl rfl ⟨rfl, H⟩
              · have hm := ite_f hc107 hm
                refine wp_skip ?_
                refine thenN ?_
                refine wp_seq ?_
                refine wp_seq ?_
                refine region_plain ?_
                refine lx_q v70 S trivial (by decide) (q_move rfl) (fun a S => ?_)
                refine lx_q p1 S trivial (by decide) (q_move rfl) (fun a S => ?_)
                obtain ⟨x110, e111, hm⟩ := bind_some hm
                refine lx_call (xs := [.tmp 82]) S trivial (by decide) rfl rfl Try.call35 ((laws_toInt64S_ok (H.arg h1) e111).mono ?_)
                rintro e w108 ⟨v112, rfl, Hc109⟩
                have he114 := Hc109.ext
                have H := H.call1 Hc109
                refine ⟨_, rfl, trivial, fun a S => ?_⟩
                obtain ⟨x117, e118, hm⟩ := bind_some hm
                refine lx_call (xs := [.tmp 81, .tmp 83]) S trivial (by decide) rfl rfl Try.call16 ((laws_eqInt64S_ok (H.rdAt 3 rfl) (H.rdAt 0 rfl) e118).mono ?_)
                rintro e w115 ⟨rfl, Hc116⟩
                have he119 := Hc116.ext
                have H := H.call0 Hc116
                refine ⟨_, rfl, trivial, fun a S => ?_⟩
                refine lx_q (.bool (!x117)) S trivial (by decide) (q_not rfl) (fun a S => ?_)
                refine lx_nil ?_
                refine thenN ?_
                refine cond_b S rfl (fun hc120 => ?_) (fun hc120 => ?_)
                · have hm := ite_t hc120 hm
                  refine wp_seq ?_
                  refine region_plain ?_
                  refine lx_q (.bool false) S trivial (by decide) (q_assign rfl) (fun a S => ?_)
                  refine lx_nil ?_
                  refine thenN ?_
                  refine wp_ret ?_
                  refine then_ret ?_
                  obtain rfl := Option.some.inj hm
                  have H : Heap w0 [] w115 := H.sel [] (by decide)
                  exact leave1 S rfl rfl ⟨rfl, H⟩
                · have hm := ite_f hc120 hm
                  refine wp_skip ?_
                  refine thenN ?_
                  refine wp_seq ?_
                  refine region_plain ?_
                  refine lx_q (.int .i64 (1 : Int)) S trivial (by decide) (q_assign rfl) (fun a S => ?_)
                  refine lx_nil ?_
                  refine thenN ?_
                  refine wp_seq ?_
                  refine region_plain ?_
                  refine lx_q v63 S trivial (by decide) (q_move rfl) (fun a S => ?_)
                  refine lx_q (.int .i64 (1 : Int)) S trivial (by decide) (q_move rfl) (fun a S => ?_)
                  obtain ⟨x123, e124, hm⟩ := bind_some hm
                  have H : Heap w0 [oA (rList Rimpl_Vertex) v63 x61, oA (rList (rInt .i64)) v112 x110, oA (rList Rimpl_Vertex) v99 x97, oA (rList (rInt .i64)) v77 x75.1, oA (rList (rInt .i64)) v70 x68, oA (rList (rInt .i64)) v56 x54.1] w115 := H.front 4 rfl
                  refine lx_call (xs := [.tmp 86, .tmp 87]) S trivial (by decide) rfl rfl Try.call29 ((laws_markVertexS_ok H e124).mono ?_)
                  rintro e w121 ⟨rfl, H⟩
                  refine ⟨_, rfl, trivial, fun a S => ?_⟩
                  refine lx_q (.int .i64 x123.1) S trivial (by decide) (q_assign rfl) (fun a S => ?_)
                  refine lx_nil ?_
                  refine thenN ?_
                  refine wp_seq ?_
                  refine region_plain ?_
                  refine lx_q v70 S trivial (by decide) (q_move rfl) (fun a S => ?_)
                  refine lx_q (.int .i64 x123.1) S trivial (by decide) (q_move rfl) (fun a S => ?_)
                  obtain ⟨x127, e128, hm⟩ := bind_some hm
                  have H : Heap w0 [oA (rList (rInt .i64)) v70 x68, oA (rList Rimpl_Vertex) v63 x123.2, oA (rList (rInt .i64)) v112 x110, oA (rList Rimpl_Vertex) v99 x97, oA (rList (rInt .i64)) v77 x75.1, oA (rList (rInt .i64)) v56 x54.1] w121 := H.front 4 rfl
                  refine lx_call (xs := [.tmp 89, .tmp 90]) S trivial (by decide) rfl rfl Try.call18 ((laws_markInt64S_ok H e128).mono ?_)
                  rintro e w125 ⟨rfl, H⟩
                  refine ⟨_, rfl, trivial, fun a S => ?_⟩
                  refine lx_q (.int .i64 x127.1) S trivial (by decide) (q_assign rfl) (fun a S => ?_)
                  refine lx_nil ?_
                  refine thenN ?_
                  refine wp_seq ?_
                  refine wp_seq ?_
                  refine region_plain ?_
                  refine lx_q (.int .i64 x127.1) S trivial (by decide) (q_move rfl) (fun a S => ?_)
                  refine lx_q (.bool (decide (x127.1 < (0 : Int)))) S trivial (by decide) (q_lss rfl rfl) (fun a S => ?_)
                  refine lx_q (.bool (decide (x127.1 < (0 : Int)))) S trivial (by decide) (q_move rfl) (fun a S => ?_)
                  obtain ⟨t129, e130, hm⟩ := bind_some hm
                  refine lx_cut 5 (fun a w => Slots a 164 [(0, p0), (1, p1), (2, (.int .i64 a2)), (8, v56), (9, (.int .i64 x54.2.1)), (10, (.int .i64 x54.2.2.1)), (11, (.int .i64 x54.2.2.2)), (14, v77), (15, (.int .i64 x75.2.1)), (16, (.int .i64 x75.2.2.1)), (17, (.int .i64 x75.2.2.2)), (99, (.bool t129))] ∧ Heap w0 [oA (rList (rInt .i64)) v77 x75.1, oA (rList (rInt .i64)) v56 x54.1] w) ?_ ?_
                  · by_cases hc131 : (decide (x127.1 < (0 : Int))) = true
                    · have hm := ite_t hc131 e130
                      refine lx_skip S rfl rfl (isB_ne hc131) (by decide) (fun a S => ?_)
                      refine lx_skip S rfl rfl (isB_ne hc131) (by decide) (fun a S => ?_)
                      refine lx_skip S rfl rfl (isB_ne hc131) (by decide) (fun a S => ?_)
                      refine lx_skip S rfl rfl (isB_ne hc131) (by decide) (fun a S => ?_)
                      refine lx_q (.bool true) S trivial (by decide) (q_pickT' rfl hc131 rfl) (fun a S => ?_)
                      refine lx_nil ?_
                      obtain rfl := Option.some.inj hm
                      have H := H.sel [4, 5] (by decide)
                      exact ⟨S.sub ⟨rfl, rfl, rfl, rfl, rfl, rfl, rfl, rfl, rfl, rfl, rfl, rfl, trivial⟩, H⟩
                    · have hm := ite_f (eq_false_of_ne_true hc131) e130
                      have hc131 : (decide (x127.1 < (0 : Int))) = false := eq_false_of_ne_true hc131
                      refine lx_q v77 S (want_b rfl rfl hc131) (by decide) (q_move rfl) (fun a S => ?_)
                      refine lx_q v56 S (want_b rfl rfl hc131) (by decide) (q_move rfl) (fun a S => ?_)
                      obtain ⟨x134, e135, hm⟩ := bind_some hm
                      refine lx_call (xs := [.tmp 95, .tmp 96]) S (want_b rfl rfl hc131) (by decide) rfl rfl Try.call16 ((laws_eqInt64S_ok (H.rdAt 4 rfl) (H.rdAt 5 rfl) e135).mono ?_)
                      rintro e w132 ⟨rfl, Hc133⟩
                      have he136 := Hc133.ext
                      have H := H.call0 Hc133
                      refine ⟨_, rfl, trivial, fun a S => ?_⟩
                      refine lx_q (.bool (!x134)) S (want_b rfl rfl hc131) (by decide) (q_not rfl) (fun a S => ?_)
                      refine lx_q (.bool (!x134)) S trivial (by decide) (q_pickF' rfl hc131 rfl) (fun a S => ?_)
                      refine lx_nil ?_
                      obtain rfl := Option.some.inj hm
                      have H := H.sel [4, 5] (by decide)
                      exact ⟨S.sub ⟨rfl, rfl, rfl, rfl, rfl, rfl, rfl, rfl, rfl, rfl, rfl, rfl, trivial⟩, H⟩
                  · rintro a w ⟨S, H⟩
                    refine lx_q (.bool t129) S trivial (by decide) (q_move rfl) (fun a S => ?_)
                    obtain ⟨t137, e138, hm⟩ := bind_some hm
                    refine lx_cut 4 (fun a w => Slots a 164 [(0, p0), (1, p1), (2, (.int .i64 a2)), (8, v56), (9, (.int .i64 x54.2.1)), (10, (.int .i64 x54.2.2.1)), (11, (.int .i64 x54.2.2.2)), (14, v77), (16, (.int .i64 x75.2.2.1)), (17, (.int .i64 x75.2.2.2)), (104, (.bool t137))] ∧ Heap w0 [oA (rList (rInt .i64)) v77 x75.1, oA (rList (rInt .i64)) v56 x54.1] w) ?_ ?_
                    · by_cases hc139 : t129 = true
                      · have hm := ite_t hc139 e138
                        refine lx_skip S rfl rfl (isB_ne hc139) (by decide) (fun a S => ?_)
                        refine lx_skip S rfl rfl (isB_ne hc139) (by decide) (fun a S => ?_)
                        refine lx_skip S rfl rfl (isB_ne hc139) (by decide) (fun a S => ?_)
                        refine lx_q (.bool true) S trivial (by decide) (q_pickT' rfl hc139 rfl) (fun a S => ?_)
                        refine lx_nil ?_
                        obtain rfl := Option.some.inj hm
                        exact ⟨S.sub ⟨rfl, rfl, rfl, rfl, rfl, rfl, rfl, rfl, rfl, rfl, rfl, trivial⟩, H⟩
                      · have hm := ite_f (eq_false_of_ne_true hc139) e138
                        have hc139 : t129 = false := eq_false_of_ne_true hc139
                        refine lx_q (.int .i64 x75.2.1) S (want_b rfl rfl hc139) (by decide) (q_move rfl) (fun a S => ?_)
                        refine lx_q (.int .i64 x54.2.1) S (want_b rfl rfl hc139) (by decide) (q_move rfl) (fun a S => ?_)
                        refine lx_q (.bool (x75.2.1 != x54.2.1)) S (want_b rfl rfl hc139) (by decide) (q_neq rfl rfl) (fun a S => ?_)
                        refine lx_q (.bool (x75.2.1 != x54.2.1)) S trivial (by decide) (q_pickF' rfl hc139 rfl) (fun a S => ?_)
                        refine lx_nil ?_
                        obtain rfl := Option.some.inj hm
                        exact ⟨S.sub ⟨rfl, rfl, rfl, rfl, rfl, rfl, rfl, rfl, rfl, rfl, rfl, trivial⟩, H⟩
                    · rintro a w ⟨S, H⟩
                      refine lx_q (.bool t137) S trivial (by decide) (q_move rfl) (fun a S => ?_)
                      obtain ⟨t140, e141, hm⟩ := bind_some hm
                      refine lx_cut 4 (fun a w => Slots a 164 [(0, p0), (1, p1), (2, (.int .i64 a2)), (8, v56), (9, (.int .i64 x54.2.1)), (10, (.int .i64 x54.2.2.1)), (11, (.int .i64 x54.2.2.2)), (14, v77), (17, (.int .i64 x75.2.2.2)), (109, (.bool t140))] ∧ Heap w0 [oA (rList (rInt .i64)) v77 x75.1, oA (rList (rInt .i64)) v56 x54.1] w) ?_ ?_
                      · by_cases hc142 : t137 = true
                        · have hm := ite_t hc142 e141
                          refine lx_skip S rfl rfl (isB_ne hc142) (by decide) (fun a S => ?_)
                          refine lx_skip S rfl rfl (isB_ne hc142) (by decide) (fun a S => ?_)
                          refine lx_skip S rfl rfl (isB_ne hc142) (by decide) (fun a S => ?_)
                          refine lx_q (.bool true) S trivial (by decide) (q_pickT' rfl hc142 rfl) (fun a S => ?_)
                          refine lx_nil ?_
                          obtain rfl := Option.some.inj hm
                          exact ⟨S.sub ⟨rfl, rfl, rfl, rfl, rfl, rfl, rfl, rfl, rfl, rfl, trivial⟩, H⟩
                        · have hm := ite_f (eq_false_of_ne_true hc142) e141
                          have hc142 : t137 = false := eq_false_of_ne_true hc142
                          refine lx_q (.int .i64 x75.2.2.1) S (want_b rfl rfl hc142) (by decide) (q_move rfl) (fun a S => ?_)
                          refine lx_q (.int .i64 x54.2.2.1) S (want_b rfl rfl hc142) (by decide) (q_move rfl) (fun a S => ?_)
                          refine lx_q (.bool (x75.2.2.1 != x54.2.2.1)) S (want_b rfl rfl hc142) (by decide) (q_neq rfl rfl) (fun a S => ?_)
                          refine lx_q (.bool (x75.2.2.1 != x54.2.2.1)) S trivial (by decide) (q_pickF' rfl hc142 rfl) (fun a S => ?_)
                          refine lx_nil ?_
                          obtain rfl := Option.some.inj hm
                          exact ⟨S.sub ⟨rfl, rfl, rfl, rfl, rfl, rfl, rfl, rfl, rfl, rfl, trivial⟩, H⟩
                      · rintro a w ⟨S, H⟩
                        refine lx_q (.bool t140) S trivial (by decide) (q_move rfl) (fun a S => ?_)
                        obtain ⟨t143, e144, hm⟩ := bind_some hm
                        refine lx_cut 4 (fun a w => Slots a 164 [(0, p0), (1, p1), (2, (.int .i64 a2)), (8, v56), (9, (.int .i64 x54.2.1)), (10, (.int .i64 x54.2.2.1)), (11, (.int .i64 x54.2.2.2)), (14, v77), (114, (.bool t143))] ∧ Heap w0 [oA (rList (rInt .i64)) v77 x75.1, oA (rList (rInt .i64)) v56 x54.1] w) ?_ ?_
                        · by_cases hc145 : t140 = true
                          · have hm := ite_t hc145 e144
                            refine lx_skip S rfl rfl (isB_ne hc145) (by decide) (fun a S => ?_)
                            refine lx_skip S rfl rfl (isB_ne hc145) (by decide) (fun a S => ?_)
                            refine lx_skip S rfl rfl (isB_ne hc145) (by decide) (fun a S => ?_)
                            refine lx_q (.bool true) S trivial (by decide) (q_pickT' rfl hc145 rfl) (fun a S => ?_)
                            refine lx_nil ?_
                            obtain rfl := Option.some.inj hm
                            exact ⟨S.sub ⟨rfl, rfl, rfl, rfl, rfl, rfl, rfl, rfl, rfl, trivial⟩, H⟩
                          · have hm := ite_f (eq_false_of_ne_true hc145) e144
                            have hc145 : t140 = false := eq_false_of_ne_true hc145
                            refine lx_q (.int .i64 x75.2.2.2) S (want_b rfl rfl hc145) (by decide) (q_move rfl) (fun a S => ?_)
                            refine lx_q (.int .i64 x54.2.2.2) S (want_b rfl rfl hc145) (by decide) (q_move rfl) (fun a S => ?_)
                            refine lx_q (.bool (x75.2.2.2 != x54.2.2.2)) S (want_b rfl rfl hc145) (by decide) (q_neq rfl rfl) (fun a S => ?_)
                            refine lx_q (.bool (x75.2.2.2 != x54.2.2.2)) S trivial (by decide) (q_pickF' rfl hc145 rfl) (fun a S => ?_)
                            refine lx_nil ?_
                            obtain rfl := Option.some.inj hm
                            exact ⟨S.sub ⟨rfl, rfl, rfl, rfl, rfl, rfl, rfl, rfl, rfl, trivial⟩, H⟩
                        · rintro a w ⟨S, H⟩
                          refine lx_nil ?_
                          refine thenN ?_
                          refine cond_b S rfl (fun hc146 => ?_) (fun hc146 => ?_)
                          · have hm := ite_t hc146 hm
                            refine wp_seq ?_
                            refine region_plain ?_
                            refine lx_q (.bool false) S trivial (by decide) (q_assign rfl) (fun a S => ?_)
                            refine lx_nil ?_
                            refine thenN ?_
                            refine wp_ret ?_
                            refine then_ret ?_
                            obtain rfl := Option.some.inj hm
                            have H : Heap w0 [] w := H.sel [] (by decide)
                            exact leave1 S rfl rfl ⟨rfl, H⟩
                          · have hm := ite_f hc146 hm
                            refine wp_skip ?_
                            refine thenN ?_
                            refine wp_seq ?_
                            refine region_plain ?_
                            refine lx_q (.int .i64 (1 : Int)) S trivial (by decide) (q_assign rfl) (fun a S => ?_)
                            refine lx_nil ?_
                            refine thenN ?_
                            refine wp_seq ?_
                            refine region_plain ?_
                            refine lx_q v77 S trivial (by decide) (q_move rfl) (fun a S => ?_)
                            refine lx_q (.int .i64 (1 : Int)) S trivial (by decide) (q_move rfl) (fun a S => ?_)
                            obtain ⟨x149, e150, hm⟩ := bind_some hm
                            refine lx_call (xs := [.tmp 115, .tmp 116]) S trivial (by decide) rfl rfl Try.call18 ((laws_markInt64S_ok H e150).mono ?_)
                            rintro e w147 ⟨rfl, H⟩
                            refine ⟨_, rfl, trivial, fun a S => ?_⟩
                            refine lx_q (.int .i64 x149.1) S trivial (by decide) (q_assign rfl) (fun a S => ?_)
                            refine lx_nil ?_
                            refine thenN ?_
                            refine wp_seq ?_
                            refine region_plain ?_
                            refine lx_q (.int .i64 (1 : Int)) S trivial (by decide) (q_assign rfl) (fun a S => ?_)
                            refine lx_nil ?_
                            refine thenN ?_
                            refine wp_seq ?_
                            refine region_plain ?_
                            refine lx_q v77 S trivial (by decide) (q_move rfl) (fun a S => ?_)
                            refine lx_q (.int .i64 (1 : Int)) S trivial (by decide) (q_move rfl) (fun a S => ?_)
                            obtain ⟨x153, e154, hm⟩ := bind_some hm
                            refine lx_call (xs := [.tmp 118, .tmp 119]) S trivial (by decide) rfl rfl Try.call19 ((laws_heldInt64S_ok (H.rdAt 0 rfl)  e154).mono ?_)
                            rintro e w151 ⟨rfl, Hc152⟩
                            have he155 := Hc152.ext
                            have H := H.call0 Hc152
                            refine ⟨_, rfl, trivial, fun a S => ?_⟩
                            refine lx_q (.int .i64 x153) S trivial (by decide) (q_assign rfl) (fun a S => ?_)
                            refine lx_nil ?_
                            refine thenN ?_
                            refine wp_seq ?_
                            refine wp_seq ?_
                            refine region_plain ?_
                            refine lx_q (.int .i64 x153) S trivial (by decide) (q_move rfl) (fun a S => ?_)
                            refine lx_q (.bool (decide (x153 < (0 : Int)))) S trivial (by decide) (q_lss rfl rfl) (fun a S => ?_)
                            refine lx_nil ?_
                            refine thenN ?_
                            refine cond_b S rfl (fun hc156 => ?_) (fun hc156 => ?_)
                            · have hm := ite_t hc156 hm
                              refine wp_seq ?_
                              refine region_plain ?_
                              refine lx_q (.bool false) S trivial (by decide) (q_assign rfl) (fun a S => ?_)
                              refine lx_nil ?_
                              refine thenN ?_
                              refine wp_ret ?_
                              refine then_ret ?_
                              obtain rfl := Option.some.inj hm
                              have H : Heap w0 [] w151 := H.sel [] (by decide)
                              exact leave1 S rfl rfl ⟨rfl, H⟩
                            · have hm := ite_f hc156 hm
                              refine wp_skip ?_
                              refine thenN ?_
                              refine wp_seq ?_
                              refine wp_seq ?_
                              refine region_plain ?_
                              refine lx_q (.int .i64 x153) S trivial (by decide) (q_move rfl) (fun a S => ?_)
                              refine lx_q (.int .i64 x149.1) S trivial (by decide) (q_move rfl) (fun a S => ?_)
                              refine lx_q (.bool (x153 != x149.1)) S trivial (by decide) (q_neq rfl rfl) (fun a S => ?_)
                              refine lx_nil ?_
                              refine thenN ?_
                              refine cond_b S rfl (fun hc157 => ?_) (fun hc157 => ?_)
                              · have hm := ite_t hc157 hm
                                refine wp_seq ?_
                                refine region_plain ?_
                                refine lx_q (.bool false) S trivial (by decide) (q_assign rfl) (fun a S => ?_)
                                refine lx_nil ?_
                                refine thenN ?_
                                refine wp_ret ?_
                                refine then_ret ?_
                                obtain rfl := Option.some.inj hm
                                have H : Heap w0 [] w151 := H.sel [] (by decide)
                                exact leave1 S rfl rfl ⟨rfl, H⟩
                              · have hm := ite_f hc157 hm
                                refine wp_skip ?_
                                refine thenN ?_
                                refine wp_seq ?_
                                refine region_plain ?_
                                refine lx_q p0 S trivial (by decide) (q_move rfl) (fun a S => ?_)
                                obtain ⟨x160, e161, hm⟩ := bind_some hm
                                refine lx_call (xs := [.tmp 127]) S trivial (by decide) rfl rfl Try.call26 ((laws_toVertexS_ok (H.arg h0) e161).mono ?_)
                                rintro e w158 ⟨v162, rfl, Hc159⟩
                                have he164 := Hc159.ext
                                have H := H.call1 Hc159
                                refine ⟨_, rfl, trivial, fun a S => ?_⟩
                                refine lx_q p1 S trivial (by decide) (q_move rfl) (fun a S => ?_)
                                obtain ⟨x167, e168, hm⟩ := bind_some hm
                                refine lx_call (xs := [.tmp 129]) S trivial (by decide) rfl rfl Try.call35 ((laws_toInt64S_ok (H.arg h1) e168).mono ?_)
                                rintro e w165 ⟨v169, rfl, Hc166⟩
                                have he171 := Hc166.ext
                                have H := H.call1 Hc166
                                refine ⟨_, rfl, trivial, fun a S => ?_⟩
                                refine lx_q (.int .i64 a2) S trivial (by decide) (q_move rfl) (fun a S => ?_)
                                obtain ⟨x174, e175, hm⟩ := bind_some hm
                                refine lx_call (xs := [.tmp 128, .tmp 130, .tmp 131]) S trivial (by decide) rfl rfl Try.call36 ((impl_PlayGame_ok (H.rdAt 1 rfl) (H.rdAt 0 rfl)  e175).mono ?_)
                                rintro e w172 ⟨v176, rfl, Hc173⟩
                                have he178 := Hc173.ext
                                have H := H.call1 Hc173
                                refine ⟨_, rfl, trivial, fun a S => ?_⟩
                                refine lx_q (.tuple #[v176, (.int .i64 x174.2.1), (.int .i64 x174.2.2.1), (.int .i64 x174.2.2.2)]) S trivial (by decide) (q_move rfl) (fun a S => ?_)
                                refine lx_q v176 S trivial (by decide) (q_extract rfl rfl) (fun a S => ?_)
                                refine lx_q (.int .i64 x174.2.1) S trivial (by decide) (q_extract rfl rfl) (fun a S => ?_)
                                refine lx_q (.int .i64 x174.2.2.1) S trivial (by decide) (q_extract rfl rfl) (fun a S => ?_)
                                refine lx_q (.int .i64 x174.2.2.2) S trivial (by decide) (q_extract rfl rfl) (fun a S => ?_)
                                refine lx_q v176 S trivial (by decide) (q_assign rfl) (fun a S => ?_)
                                refine lx_q (.int .i64 x174.2.1) S trivial (by decide) (q_assign rfl) (fun a S => ?_)
                                refine lx_q (.int .i64 x174.2.2.1) S trivial (by decide) (q_assign rfl) (fun a S => ?_)
                                refine lx_q (.int .i64 x174.2.2.2) S trivial (by decide) (q_assign rfl) (fun a S => ?_)
                                refine lx_nil ?_
                                refine thenN ?_
                                refine wp_seq ?_
                                refine wp_seq ?_
                                refine region_plain ?_
                                refine lx_q v176 S trivial (by decide) (q_move rfl) (fun a S => ?_)
                                refine lx_q v56 S trivial (by decide) (q_move rfl) (fun a S => ?_)
                                obtain ⟨x181, e182, hm⟩ := bind_some hm
                                refine lx_call (xs := [.tmp 137, .tmp 138]) S trivial (by decide) rfl rfl Try.call16 ((laws_eqInt64S_ok (H.rdAt 0 rfl) (H.rdAt 4 rfl) e182).mono ?_)
                                rintro e w179 ⟨rfl, Hc180⟩
                                have he183 := Hc180.ext
                                have H := H.call0 Hc180
                                refine ⟨_, rfl, trivial, fun a S => ?_⟩
                                refine lx_q (.bool (!x181)) S trivial (by decide) (q_not rfl) (fun a S => ?_)
                                refine lx_q (.bool (!x181)) S trivial (by decide) (q_move rfl) (fun a S => ?_)
                                obtain ⟨t184, e185, hm⟩ := bind_some hm
                                refine lx_cut 4 (fun a w => Slots a 164 [(10, (.int .i64 x54.2.2.1)), (11, (.int .i64 x54.2.2.2)), (14, v77), (19, (.int .i64 x149.1)), (23, (.int .i64 x174.2.2.1)), (24, (.int .i64 x174.2.2.2)), (145, (.bool t184))] ∧ Heap w0 [oA (rList (rInt .i64)) v77 x149.2] w) ?_ ?_
                                · by_cases hc186 : (!x181) = true
                                  · have hm := ite_t hc186 e185
                                    refine lx_skip S rfl rfl (isB_ne hc186) (by decide) (fun a S => ?_)
                                    refine lx_skip S rfl rfl (isB_ne hc186) (by decide) (fun a S => ?_)
                                    refine lx_skip S rfl rfl (isB_ne hc186) (by decide) (fun a S => ?_)
                                    refine lx_q (.bool true) S trivial (by decide) (q_pickT' rfl hc186 rfl) (fun a S => ?_)
                                    refine lx_nil ?_
                                    obtain rfl := Option.some.inj hm
                                    have H := H.sel [3] (by decide)
                                    exact ⟨S.sub ⟨rfl, rfl, rfl, rfl, rfl, rfl, rfl, trivial⟩, H⟩
                                  · have hm := ite_f (eq_false_of_ne_true hc186) e185
                                    have hc186 : (!x181) = false := eq_false_of_ne_true hc186
                                    refine lx_q (.int .i64 x174.2.1) S (want_b rfl rfl hc186) (by decide) (q_move rfl) (fun a S => ?_)
                                    refine lx_q (.int .i64 x54.2.1) S (want_b rfl rfl hc186) (by decide) (q_move rfl) (fun a S => ?_)
                                    refine lx_q (.bool (x174.2.1 != x54.2.1)) S (want_b rfl rfl hc186) (by decide) (q_neq rfl rfl) (fun a S => ?_)
                                    refine lx_q (.bool (x174.2.1 != x54.2.1)) S trivial (by decide) (q_pickF' rfl hc186 rfl) (fun a S => ?_)
                                    refine lx_nil ?_
                                    obtain rfl := Option.some.inj hm
                                    have H := H.sel [3] (by decide)
                                    exact ⟨S.sub ⟨rfl, rfl, rfl, rfl, rfl, rfl, rfl, trivial⟩, H⟩
                                · rintro a w ⟨S, H⟩
                                  refine lx_q (.bool t184) S trivial (by decide) (q_move rfl) (fun a S => ?_)
                                  obtain ⟨t187, e188, hm⟩ := bind_some hm
                                  refine lx_cut 4 (fun a w => Slots a 164 [(11, (.int .i64 x54.2.2.2)), (14, v77), (19, (.int .i64 x149.1)), (24, (.int .i64 x174.2.2.2)), (150, (.bool t187))] ∧ Heap w0 [oA (rList (rInt .i64)) v77 x149.2] w) ?_ ?_
                                  · by_cases hc189 : t184 = true
                                    · have hm := ite_t hc189 e188
                                      refine lx_skip S rfl rfl (isB_ne hc189) (by decide) (fun a S => ?_)
                                      refine lx_skip S rfl rfl (isB_ne hc189) (by decide) (fun a S => ?_)
                                      refine lx_skip S rfl rfl (isB_ne hc189) (by decide) (fun a S => ?_)
                                      refine lx_q (.bool true) S trivial (by decide) (q_pickT' rfl hc189 rfl) (fun a S => ?_)
                                      refine lx_nil ?_
                                      obtain rfl := Option.some.inj hm
                                      exact ⟨S.sub ⟨rfl, rfl, rfl, rfl, rfl, trivial⟩, H⟩
                                    · have hm := ite_f (eq_false_of_ne_true hc189) e188
                                      have hc189 : t184 = false := eq_false_of_ne_true hc189
                                      refine lx_q (.int .i64 x174.2.2.1) S (want_b rfl rfl hc189) (by decide) (q_move rfl) (fun a S => ?_)
                                      refine lx_q (.int .i64 x54.2.2.1) S (want_b rfl rfl hc189) (by decide) (q_move rfl) (fun a S => ?_)
                                      refine lx_q (.bool (x174.2.2.1 != x54.2.2.1)) S (want_b rfl rfl hc189) (by decide) (q_neq rfl rfl) (fun a S => ?_)
                                      refine lx_q (.bool (x174.2.2.1 != x54.2.2.1)) S trivial (by decide) (q_pickF' rfl hc189 rfl) (fun a S => ?_)
                                      refine lx_nil ?_
                                      obtain rfl := Option.some.inj hm
                                      exact ⟨S.sub ⟨rfl, rfl, rfl, rfl, rfl, trivial⟩, H⟩
                                  · rintro a w ⟨S, H⟩
                                    refine lx_q (.bool t187) S trivial (by decide) (q_move rfl) (fun a S => ?_)
                                    obtain ⟨t190, e191, hm⟩ := bind_some hm
                                    refine lx_cut 4 (fun a w => Slots a 164 [(14, v77), (19, (.int .i64 x149.1)), (155, (.bool t190))] ∧ Heap w0 [oA (rList (rInt .i64)) v77 x149.2] w) ?_ ?_
                                    · by_cases hc192 : t187 = true
                                      · have hm := ite_t hc192 e191
                                        refine lx_skip S rfl rfl (isB_ne hc192) (by decide) (fun a S => ?_)
                                        refine lx_skip S rfl rfl (isB_ne hc192) (by decide) (fun a S => ?_)
                                        refine lx_skip S rfl rfl (isB_ne hc192) (by decide) (fun a S => ?_)
                                        refine lx_q (.bool true) S trivial (by decide) (q_pickT' rfl hc192 rfl) (fun a S => ?_)
                                        refine lx_nil ?_
                                        obtain rfl := Option.some.inj hm
                                        exact ⟨S.sub ⟨rfl, rfl, rfl, trivial⟩, H⟩
                                      · have hm := ite_f (eq_false_of_ne_true hc192) e191
                                        have hc192 : t187 = false := eq_false_of_ne_true hc192
                                        refine lx_q (.int .i64 x174.2.2.2) S (want_b rfl rfl hc192) (by decide) (q_move rfl) (fun a S => ?_)
                                        refine lx_q (.int .i64 x54.2.2.2) S (want_b rfl rfl hc192) (by decide) (q_move rfl) (fun a S => ?_)
                                        refine lx_q (.bool (x174.2.2.2 != x54.2.2.2)) S (want_b rfl rfl hc192) (by decide) (q_neq rfl rfl) (fun a S => ?_)
                                        refine lx_q (.bool (x174.2.2.2 != x54.2.2.2)) S trivial (by decide) (q_pickF' rfl hc192 rfl) (fun a S => ?_)
                                        refine lx_nil ?_
                                        obtain rfl := Option.some.inj hm
                                        exact ⟨S.sub ⟨rfl, rfl, rfl, trivial⟩, H⟩
                                    · rintro a w ⟨S, H⟩
                                      refine lx_nil ?_
                                      refine thenN ?_
                                      refine cond_b S rfl (fun hc193 => ?_) (fun hc193 => ?_)
                                      · have hm := ite_t hc193 hm
                                        refine wp_seq ?_
                                        refine region_plain ?_
                                        refine lx_q (.bool false) S trivial (by decide) (q_assign rfl) (fun a S => ?_)
                                        refine lx_nil ?_
                                        refine thenN ?_
                                        refine wp_ret ?_
                                        refine then_ret ?_
                                        obtain rfl := Option.some.inj hm
                                        have H : Heap w0 [] w := H.sel [] (by decide)
                                        exact leave1 S rfl rfl ⟨rfl, H⟩
                                      · have hm := ite_f hc193 hm
                                        refine wp_skip ?_
                                        refine thenN ?_
                                        refine wp_seq ?_
                                        refine region_plain ?_
                                        refine lx_q (.int .i64 (1 : Int)) S trivial (by decide) (q_assign rfl) (fun a S => ?_)
                                        refine lx_nil ?_
                                        refine thenN ?_
                                        refine wp_seq ?_
                                        refine region_plain ?_
                                        refine lx_q v77 S trivial (by decide) (q_move rfl) (fun a S => ?_)
                                        refine lx_q (.int .i64 (1 : Int)) S trivial (by decide) (q_move rfl) (fun a S => ?_)
                                        obtain ⟨x196, e197, hm⟩ := bind_some hm
                                        refine lx_call (xs := [.tmp 156, .tmp 157]) S trivial (by decide) rfl rfl Try.call19 ((laws_heldInt64S_ok (H.rdAt 0 rfl)  e197).mono ?_)
                                        rintro e w194 ⟨rfl, Hc195⟩
                                        have he198 := Hc195.ext
                                        have H := H.call0 Hc195
                                        refine ⟨_, rfl, trivial, fun a S => ?_⟩
                                        refine lx_q (.int .i64 x196) S trivial (by decide) (q_assign rfl) (fun a S => ?_)
                                        refine lx_nil ?_
                                        refine thenN ?_
                                        refine wp_seq ?_
                                        refine wp_seq ?_
                                        refine region_plain ?_
                                        refine lx_q (.int .i64 x196) S trivial (by decide) (q_move rfl) (fun a S => ?_)
                                        refine lx_q (.bool (decide (x196 < (0 : Int)))) S trivial (by decide) (q_lss rfl rfl) (fun a S => ?_)
                                        refine lx_nil ?_
                                        refine thenN ?_
                                        refine cond_b S rfl (fun hc199 => ?_) (fun hc199 => ?_)
                                        · have hm := ite_t hc199 hm
                                          refine wp_seq ?_
                                          refine region_plain ?_
                                          refine lx_q (.bool false) S trivial (by decide) (q_assign rfl) (fun a S => ?_)
                                          refine lx_nil ?_
                                          refine thenN ?_
                                          refine wp_ret ?_
                                          refine then_ret ?_
                                          obtain rfl := Option.some.inj hm
                                          have H : Heap w0 [] w194 := H.sel [] (by decide)
                                          exact leave1 S rfl rfl ⟨rfl, H⟩
                                        · have hm := ite_f hc199 hm
                                          refine wp_skip ?_
                                          refine thenN ?_
                                          refine wp_seq ?_
                                          refine wp_seq ?_
                                          refine region_plain ?_
                                          refine lx_q (.int .i64 x196) S trivial (by decide) (q_move rfl) (fun a S => ?_)
                                          refine lx_q (.int .i64 x149.1) S trivial (by decide) (q_move rfl) (fun a S => ?_)
                                          refine lx_q (.bool (x196 != x149.1)) S trivial (by decide) (q_neq rfl rfl) (fun a S => ?_)
                                          refine lx_nil ?_
                                          refine thenN ?_
                                          refine cond_b S rfl (fun hc200 => ?_) (fun hc200 => ?_)
                                          · have hm := ite_t hc200 hm
                                            refine wp_seq ?_
                                            refine region_plain ?_
                                            refine lx_q (.bool false) S trivial (by decide) (q_assign rfl) (fun a S => ?_)
                                            refine lx_nil ?_
                                            refine thenN ?_
                                            refine wp_ret ?_
                                            refine then_ret ?_
                                            obtain rfl := Option.some.inj hm
                                            have H : Heap w0 [] w194 := H.sel [] (by decide)
                                            exact leave1 S rfl rfl ⟨rfl, H⟩
                                          · have hm := ite_f hc200 hm
                                            refine wp_skip ?_
                                            refine thenN ?_
                                            refine wp_seq ?_
                                            refine region_plain ?_
                                            refine lx_q (.bool true) S trivial (by decide) (q_assign rfl) (fun a S => ?_)
                                            refine lx_nil ?_
                                            refine thenN ?_
                                            refine wp_ret ?_
                                            obtain rfl := Option.some.inj hm
                                            have H : Heap w0 [] w194 := H.sel [] (by decide)
                                            exact leave1 S rfl rfl ⟨rfl, H⟩
end Go.Proofs.Ytlnibadkmdmelaa
