/- The models of some functions and their walks (printed by a program of this repo). -/
import Derived.Test.YtecknjdlbmmmiaaF0
import Derived.Test.YtecknjdlbmmmiaaF1
import Derived.Test.YtecknjdlbmmmiaaF6
import Derived.Test.YtecknjdlbmmmiaaGxT
namespace Go.Proofs.Ytecknjdlbmmmiaa
open Go.RowKit Go.Gx

/-- spec.l01Compare -/
def spec_l01Compare_m (fuel : Nat) (a0 : (List Int)) (a1 : (List Int)) : Option (Int) :=
  (iter (fun (s : (Int)) => (match s with | (x62) => (if (decide (x62 < (a0.length : Int))) = true then some (decide (x62 < (a1.length : Int))) else some false).bind fun t104 => (if t104 = true then (idx a0 x62).bind fun x110 => (idx a1 x62).bind fun x115 => (if (decide (x110 < x115)) = true then some (.inr (.inr (-1 : Int))) else (idx a0 x62).bind fun x123 => (idx a1 x62).bind fun x128 => (if (decide (x128 < x123)) = true then some (.inr (.inr (1 : Int))) else some (.inl ((W (x62 + (1 : Int))))))) else some (.inr (.inl ()))) : Option (((Int)) ⊕ ((Unit) ⊕ (Int))))) fuel ((0 : Int))).bind fun res94 => ctl (β := Unit) (ρ := Int) (τ := Int) res94 (fun _ => (if (decide ((a0.length : Int) < (a1.length : Int))) = true then some ((-1 : Int)) else (if (decide ((a1.length : Int) < (a0.length : Int))) = true then some ((1 : Int)) else some ((0 : Int))))) (fun q => some (q))
set_option maxRecDepth 20000 in
theorem spec_l01Compare_ok {w0 : World} {fuel : Nat} {p0 p1 : Value} {a0 : (List Int)} {a1 : (List Int)} {r : Int} (h0 : Rd (rList (rInt .i64)) w0 p0 a0) (h1 : Rd (rList (rInt .i64)) w0 p1 a1) (hm : spec_l01Compare_m fuel a0 a1 = some r) :
    Calls Try.prog 145 #[p0, p1] w0 fun e w => e = .returned (.int .i64 r) ∧ Heap w0 [] w := by
  unfold spec_l01Compare_m at hm
  have H := Heap.start w0
  refine enter (args := [p0, p1]) Try.func145 rfl 46 rfl (Nat.le_of_ble_eq_true rfl) (fun a S => ?_)
  refine wp_seq ?_
  refine region_plain ?_
  refine lx_q (.int .i64 (0 : Int)) S trivial (by decide) (q_assign rfl) (fun a S => ?_)
  refine lx_nil ?_
  refine thenN ?_
  refine wp_seq ?_
  refine wp_seq ?_
  refine region_plain ?_
  refine lx_q (.int .i64 (0 : Int)) S trivial (by decide) (q_assign rfl) (fun a S => ?_)
  refine lx_nil ?_
  refine thenN ?_
  obtain ⟨res94, hit95, hk98⟩ := bind_some hm
  obtain ⟨f96, hf97, hit95⟩ := iter_name hit95
  refine block_loop (fun a w => Slots a 46 [(0, p0), (1, p1)] ∧ Heap w0 [] w ∧ res94 = .inl ()) ?_ ?_
  · rintro a w ⟨S, H, rfl⟩
    have hm := ctl_inl hk98
    refine thenN ?_
    refine wp_seq ?_
    refine wp_seq ?_
    refine region_plain ?_
    refine lx_q p0 S trivial (by decide) (q_move rfl) (fun a S => ?_)
    refine lx_q (.int .i64 (a0.length : Int)) S trivial (by decide) (q_lenSl rfl (h0).isSl rfl Try.underlying23) (fun a S => ?_)
    refine lx_q p1 S trivial (by decide) (q_move rfl) (fun a S => ?_)
    refine lx_q (.int .i64 (a1.length : Int)) S trivial (by decide) (q_lenSl rfl (h1).isSl rfl Try.underlying23) (fun a S => ?_)
    refine lx_q (.bool (decide ((a0.length : Int) < (a1.length : Int)))) S trivial (by decide) (q_lss rfl rfl) (fun a S => ?_)
    refine lx_nil ?_
    refine thenN ?_
    refine cond_b S rfl (fun hc99 => ?_) (fun hc99 => ?_)
    · have hm := ite_t hc99 hm
      refine wp_seq ?_
      refine region_plain ?_
      refine lx_q (.int .i64 (-1 : Int)) S trivial (by decide) (q_assign rfl) (fun a S => ?_)
      refine lx_nil ?_
      refine thenN ?_
      refine wp_ret ?_
      refine then_ret ?_
      obtain rfl := Option.some.inj hm
      exact leave1 S rfl rfl ⟨rfl, H⟩
    · have hm := ite_f hc99 hm
      refine wp_skip ?_
      refine thenN ?_
      refine wp_seq ?_
      refine wp_seq ?_
      refine region_plain ?_
      refine lx_q p0 S trivial (by decide) (q_move rfl) (fun a S => ?_)
      refine lx_q (.int .i64 (a0.length : Int)) S trivial (by decide) (q_lenSl rfl (h0).isSl rfl Try.underlying23) (fun a S => ?_)
      refine lx_q p1 S trivial (by decide) (q_move rfl) (fun a S => ?_)
      refine lx_q (.int .i64 (a1.length : Int)) S trivial (by decide) (q_lenSl rfl (h1).isSl rfl Try.underlying23) (fun a S => ?_)
      refine lx_q (.bool (decide ((a1.length : Int) < (a0.length : Int)))) S trivial (by decide) (q_gtr rfl rfl) (fun a S => ?_)
      refine lx_nil ?_
      refine thenN ?_
      refine cond_b S rfl (fun hc100 => ?_) (fun hc100 => ?_)
      · have hm := ite_t hc100 hm
        refine wp_seq ?_
        refine region_plain ?_
        refine lx_q (.int .i64 (1 : Int)) S trivial (by decide) (q_assign rfl) (fun a S => ?_)
        refine lx_nil ?_
        refine thenN ?_
        refine wp_ret ?_
        refine then_ret ?_
        obtain rfl := Option.some.inj hm
        exact leave1 S rfl rfl ⟨rfl, H⟩
      · have hm := ite_f hc100 hm
        refine wp_skip ?_
        refine thenN ?_
        refine wp_seq ?_
        refine region_plain ?_
        refine lx_q (.int .i64 (0 : Int)) S trivial (by decide) (q_assign rfl) (fun a S => ?_)
        refine lx_nil ?_
        refine thenN ?_
        refine wp_ret ?_
        obtain rfl := Option.some.inj hm
        exact leave1 S rfl rfl ⟨rfl, H⟩
  · skip
    refine loop_ghost (fun n a w => ∃ (x62 : Int), Slots a 46 [(0, p0), (1, p1), (5, (.int .i64 x62))] ∧ Heap w0 [] w ∧ iter f96 n (x62) = some res94) _ ⟨(0 : Int), S.sub ⟨rfl, rfl, rfl, trivial⟩, H, hit95⟩ ?_
    rintro n a w ⟨x62, S, H, hit95⟩
    obtain ⟨m101, o102, rfl, hm, hc103⟩ := iter_step hit95
    rw [hf97] at hm
    refine wp_seq ?_
    refine wp_seq ?_
    refine region_plain ?_
    refine lx_q (.int .i64 x62) S trivial (by decide) (q_move rfl) (fun a S => ?_)
    refine lx_q p0 S trivial (by decide) (q_move rfl) (fun a S => ?_)
    refine lx_q (.int .i64 (a0.length : Int)) S trivial (by decide) (q_lenSl rfl (h0).isSl rfl Try.underlying23) (fun a S => ?_)
    refine lx_q (.bool (decide (x62 < (a0.length : Int)))) S trivial (by decide) (q_lss rfl rfl) (fun a S => ?_)
    refine lx_q (.bool (decide (x62 < (a0.length : Int)))) S trivial (by decide) (q_move rfl) (fun a S => ?_)
    obtain ⟨t104, e105, hm⟩ := bind_some hm
    refine lx_cut 5 (fun a w => Slots a 46 [(0, p0), (1, p1), (5, (.int .i64 x62)), (15, (.bool t104))] ∧ Heap w0 [] w) ?_ ?_
    · by_cases hc106 : (decide (x62 < (a0.length : Int))) = true
      · have hm := ite_t hc106 e105
        refine lx_q (.int .i64 x62) S (want_b rfl rfl hc106) (by decide) (q_move rfl) (fun a S => ?_)
        refine lx_q p1 S (want_b rfl rfl hc106) (by decide) (q_move rfl) (fun a S => ?_)
        refine lx_q (.int .i64 (a1.length : Int)) S (want_b rfl rfl hc106) (by decide) (q_lenSl rfl (h1).isSl rfl Try.underlying23) (fun a S => ?_)
        refine lx_q (.bool (decide (x62 < (a1.length : Int)))) S (want_b rfl rfl hc106) (by decide) (q_lss rfl rfl) (fun a S => ?_)
        refine lx_q (.bool (decide (x62 < (a1.length : Int)))) S trivial (by decide) (q_pickT' rfl hc106 rfl) (fun a S => ?_)
        refine lx_nil ?_
        obtain rfl := Option.some.inj hm
        exact ⟨S.sub ⟨rfl, rfl, rfl, rfl, trivial⟩, H⟩
      · have hm := ite_f (eq_false_of_ne_true hc106) e105
        have hc106 : (decide (x62 < (a0.length : Int))) = false := eq_false_of_ne_true hc106
        refine lx_skip S rfl rfl (isB_ne hc106) (by decide) (fun a S => ?_)
        refine lx_skip S rfl rfl (isB_ne hc106) (by decide) (fun a S => ?_)
        refine lx_skip S rfl rfl (isB_ne hc106) (by decide) (fun a S => ?_)
        refine lx_skip S rfl rfl (isB_ne hc106) (by decide) (fun a S => ?_)
        refine lx_q (.bool false) S trivial (by decide) (q_pickF' rfl hc106 rfl) (fun a S => ?_)
        refine lx_nil ?_
        obtain rfl := Option.some.inj hm
        exact ⟨S.sub ⟨rfl, rfl, rfl, rfl, trivial⟩, H⟩
    · rintro a w ⟨S, H⟩
      refine lx_nil ?_
      refine thenN ?_
      refine cond_b S rfl (fun hc107 => ?_) (fun hc107 => ?_)
      · have hm := ite_t hc107 hm
        refine wp_skip ?_
        refine thenN ?_
        refine wp_seq ?_
        refine wp_block ?_
        refine wp_seq ?_
        refine wp_seq ?_
        refine region_drawG (fun w1 => Heap w0 [] w1) (fun i => [].contains i) mixed (by kernel_rfl) (fun w109 he108 => ?_)
        have H := H.later he108
        refine ⟨H.sel [] (by decide), ?_⟩
        refine lx_q p0 S trivial (by decide) (q_move rfl) (fun a S => ?_)
        refine lx_q (.int .i64 x62) S trivial (by decide) (q_move rfl) (fun a S => ?_)
        obtain ⟨x110, e111, hm⟩ := bind_some hm
        obtain ⟨c112, h113, hat114⟩ := (h0).elem (idx_some e111).2
        obtain rfl := h113
        have hlt := lt_of_idx (idx_some e111).2
        refine lx_q (ePtr p0 (x62.toNat * 1)) S trivial (by decide) (q_indexAddr rfl (h0).isSl rfl (idx_some e111).1 hlt Try.underlying23 Try.sizeOf2) (fun a S => ?_)
        refine lx_q (.int .i64 x110) S trivial (by decide) (q_load1 rfl Try.isAgg2 (fun w1 hC => ((hat114 0 _ rfl).ext hC.ext))) (fun a S => ?_)
        refine lx_q p1 S trivial (by decide) (q_move rfl) (fun a S => ?_)
        refine lx_q (.int .i64 x62) S trivial (by decide) (q_move rfl) (fun a S => ?_)
        obtain ⟨x115, e116, hm⟩ := bind_some hm
        obtain ⟨c117, h118, hat119⟩ := (h1).elem (idx_some e116).2
        obtain rfl := h118
        have hlt := lt_of_idx (idx_some e116).2
        refine lx_q (ePtr p1 (x62.toNat * 1)) S trivial (by decide) (q_indexAddr rfl (h1).isSl rfl (idx_some e116).1 hlt Try.underlying23 Try.sizeOf2) (fun a S => ?_)
        refine lx_q (.int .i64 x115) S trivial (by decide) (q_load1 rfl Try.isAgg2 (fun w1 hC => ((hat119 0 _ rfl).ext hC.ext))) (fun a S => ?_)
        refine lx_q (.bool (decide (x110 < x115))) S trivial (by decide) (q_lss rfl rfl) (fun a S => ?_)
        refine lx_nil ?_
        refine thenN ?_
        refine cond_b S rfl (fun hc120 => ?_) (fun hc120 => ?_)
        · have hm := ite_t hc120 hm
          refine wp_seq ?_
          refine region_plain ?_
          refine lx_q (.int .i64 (-1 : Int)) S trivial (by decide) (q_assign rfl) (fun a S => ?_)
          refine lx_nil ?_
          refine thenN ?_
          refine wp_ret ?_
          refine then_ret ?_
          refine inBlock_ret ?_
          refine then_ret ?_
          refine then_ret ?_
          refine inBlock_ret ?_
          refine then_ret ?_
          refine then_ret ?_
          obtain rfl := it_brk hm hc103
          have hm := ctl_inr hk98
          obtain rfl := Option.some.inj hm
          exact leave1 S rfl rfl ⟨rfl, H⟩
        · have hm := ite_f hc120 hm
          refine wp_skip ?_
          refine thenN ?_
          refine wp_seq ?_
          refine region_drawG (fun w1 => Heap w0 [] w1) (fun i => [].contains i) mixed (by kernel_rfl) (fun w122 he121 => ?_)
          have H := H.later he121
          refine ⟨H.sel [] (by decide), ?_⟩
          refine lx_q p0 S trivial (by decide) (q_move rfl) (fun a S => ?_)
          refine lx_q (.int .i64 x62) S trivial (by decide) (q_move rfl) (fun a S => ?_)
          obtain ⟨x123, e124, hm⟩ := bind_some hm
          obtain ⟨c125, h126, hat127⟩ := (h0).elem (idx_some e124).2
          obtain rfl := h126
          have hlt := lt_of_idx (idx_some e124).2
          refine lx_q (ePtr p0 (x62.toNat * 1)) S trivial (by decide) (q_indexAddr rfl (h0).isSl rfl (idx_some e124).1 hlt Try.underlying23 Try.sizeOf2) (fun a S => ?_)
          refine lx_q (.int .i64 x123) S trivial (by decide) (q_load1 rfl Try.isAgg2 (fun w1 hC => ((hat127 0 _ rfl).ext hC.ext))) (fun a S => ?_)
          refine lx_q p1 S trivial (by decide) (q_move rfl) (fun a S => ?_)
          refine lx_q (.int .i64 x62) S trivial (by decide) (q_move rfl) (fun a S => ?_)
          obtain ⟨x128, e129, hm⟩ := bind_some hm
          obtain ⟨c130, h131, hat132⟩ := (h1).elem (idx_some e129).2
          obtain rfl := h131
          have hlt := lt_of_idx (idx_some e129).2
          refine lx_q (ePtr p1 (x62.toNat * 1)) S trivial (by decide) (q_indexAddr rfl (h1).isSl rfl (idx_some e129).1 hlt Try.underlying23 Try.sizeOf2) (fun a S => ?_)
          refine lx_q (.int .i64 x128) S trivial (by decide) (q_load1 rfl Try.isAgg2 (fun w1 hC => ((hat132 0 _ rfl).ext hC.ext))) (fun a S => ?_)
          refine lx_q (.bool (decide (x128 < x123))) S trivial (by decide) (q_gtr rfl rfl) (fun a S => ?_)
          refine lx_nil ?_
          refine thenN ?_
          refine cond_b S rfl (fun hc133 => ?_) (fun hc133 => ?_)
          · have hm := ite_t hc133 hm
            refine wp_seq ?_
            refine region_plain ?_
            refine lx_q (.int .i64 (1 : Int)) S trivial (by decide) (q_assign rfl) (fun a S => ?_)
            refine lx_nil ?_
            refine thenN ?_
            refine wp_ret ?_
            refine inBlock_ret ?_
            refine then_ret ?_
            refine then_ret ?_
            refine inBlock_ret ?_
            refine then_ret ?_
            refine then_ret ?_
            obtain rfl := it_brk hm hc103
            have hm := ctl_inr hk98
            obtain rfl := Option.some.inj hm
            exact leave1 S rfl rfl ⟨rfl, H⟩
          · have hm := ite_f hc133 hm
            refine wp_skip ?_
            refine inBlock_norm ?_
            refine thenN ?_
            refine region_plain ?_
            refine lx_q (.int .i64 x62) S trivial (by decide) (q_move rfl) (fun a S => ?_)
            refine lx_q (.int .i64 (W (x62 + (1 : Int)))) S trivial (by decide) (q_add rfl rfl) (fun a S => ?_)
            refine lx_q (.int .i64 (W (x62 + (1 : Int)))) S trivial (by decide) (q_assign rfl) (fun a S => ?_)
            refine lx_nil ?_
            exact ⟨m101, Nat.lt_succ_self _, (W (x62 + (1 : Int))), S.sub ⟨rfl, rfl, rfl, trivial⟩, H, it_cont hm hc103⟩
      · have hm := ite_f hc107 hm
        refine wp_exit ?_
        refine then_exit ?_
        refine then_exit ?_
        refine inBlock_exit ?_
        obtain rfl := it_brk hm hc103
        exact ⟨S.sub ⟨rfl, rfl, trivial⟩, H, rfl⟩

/-- spec.l23Enough -/
def spec_l23Enough_m (fuel : Nat) (a0 : (List Int)) (a1 : (List Int)) (a2 : Int) (a3 : Int) : Option (Bool) :=
  (if ((a0.length : Int) == (0 : Int)) = true then some (true) else (if ((a1.length : Int) == (0 : Int)) = true then some (false) else (spec_l23Places_m fuel a2 a3).bind fun x35 => (sub a0 (0 : Int) x35).bind fun xs40 => (sub a1 (0 : Int) x35).bind fun xs42 => (spec_l01Compare_m fuel xs40 xs42).bind fun x46 => (if (decide ((0 : Int) < x46)) = true then some true else (if (x46 == (0 : Int)) = true then (spec_l23Bad_m fuel a2 a3).bind fun x57 => some (decide (x57 < (0 : Int))) else some false).bind fun t52 => some t52).bind fun t49 => some (t49)))
set_option maxRecDepth 20000 in
theorem spec_l23Enough_ok {w0 : World} {fuel : Nat} {p0 p1 : Value} {a0 : (List Int)} {a1 : (List Int)} {a2 : Int} {a3 : Int} {r : Bool} (h0 : Rd (rList (rInt .i64)) w0 p0 a0) (h1 : Rd (rList (rInt .i64)) w0 p1 a1) (hm : spec_l23Enough_m fuel a0 a1 a2 a3 = some r) :
    Calls Try.prog 125 #[p0, p1, .int .i64 a2, .int .i64 a3] w0 fun e w => e = .returned (.bool r) ∧ Heap w0 [] w := by
  unfold spec_l23Enough_m at hm
  have H := Heap.start w0
  refine enter (args := [p0, p1, .int .i64 a2, .int .i64 a3]) Try.func125 rfl 39 rfl (Nat.le_of_ble_eq_true rfl) (fun a S => ?_)
  refine wp_seq ?_
  refine region_plain ?_
  refine lx_q (.bool false) S trivial (by decide) (q_assign rfl) (fun a S => ?_)
  refine lx_nil ?_
  refine thenN ?_
  refine wp_seq ?_
  refine wp_seq ?_
  refine region_plain ?_
  refine lx_q p0 S trivial (by decide) (q_move rfl) (fun a S => ?_)
  refine lx_q (.int .i64 (a0.length : Int)) S trivial (by decide) (q_lenSl rfl (h0).isSl rfl Try.underlying23) (fun a S => ?_)
  refine lx_q (.bool ((a0.length : Int) == (0 : Int))) S trivial (by decide) (q_eql rfl rfl) (fun a S => ?_)
  refine lx_nil ?_
  refine thenN ?_
  refine cond_b S rfl (fun hc31 => ?_) (fun hc31 => ?_)
  · have hm := ite_t hc31 hm
    refine wp_seq ?_
    refine region_plain ?_
    refine lx_q (.bool true) S trivial (by decide) (q_assign rfl) (fun a S => ?_)
    refine lx_nil ?_
    refine thenN ?_
    refine wp_ret ?_
    refine then_ret ?_
    obtain rfl := Option.some.inj hm
    exact leave1 S rfl rfl ⟨rfl, H⟩
  · have hm := ite_f hc31 hm
    refine wp_skip ?_
    refine thenN ?_
    refine wp_seq ?_
    refine wp_seq ?_
    refine region_plain ?_
    refine lx_q p1 S trivial (by decide) (q_move rfl) (fun a S => ?_)
    refine lx_q (.int .i64 (a1.length : Int)) S trivial (by decide) (q_lenSl rfl (h1).isSl rfl Try.underlying23) (fun a S => ?_)
    refine lx_q (.bool ((a1.length : Int) == (0 : Int))) S trivial (by decide) (q_eql rfl rfl) (fun a S => ?_)
    refine lx_nil ?_
    refine thenN ?_
    refine cond_b S rfl (fun hc32 => ?_) (fun hc32 => ?_)
    · have hm := ite_t hc32 hm
      refine wp_seq ?_
      refine region_plain ?_
      refine lx_q (.bool false) S trivial (by decide) (q_assign rfl) (fun a S => ?_)
      refine lx_nil ?_
      refine thenN ?_
      refine wp_ret ?_
      refine then_ret ?_
      obtain rfl := Option.some.inj hm
      exact leave1 S rfl rfl ⟨rfl, H⟩
    · have hm := ite_f hc32 hm
      refine wp_skip ?_
      refine thenN ?_
      refine wp_seq ?_
      refine region_plain ?_
      refine lx_q (.int .i64 a2) S trivial (by decide) (q_move rfl) (fun a S => ?_)
      refine lx_q (.int .i64 a3) S trivial (by decide) (q_move rfl) (fun a S => ?_)
      obtain ⟨x35, e36, hm⟩ := bind_some hm
      refine lx_call (xs := [.tmp 17, .tmp 18]) S trivial (by decide) rfl rfl Try.call144 ((spec_l23Places_ok   e36).mono ?_)
      rintro e w33 ⟨rfl, Hc34⟩
      have he37 := Hc34.ext
      have H := H.call0 Hc34
      refine ⟨_, rfl, trivial, fun a S => ?_⟩
      refine lx_q (.int .i64 x35) S trivial (by decide) (q_assign rfl) (fun a S => ?_)
      refine lx_nil ?_
      refine thenN ?_
      refine wp_seq ?_
      refine region_drawG (fun w1 => Heap w0 [] w1) (fun i => [6].contains i) mixed (by kernel_rfl) (fun w39 he38 => ?_)
      have H := H.later he38
      refine ⟨H.sel [] (by decide), ?_⟩
      refine lx_q p0 S trivial (by decide) (q_move rfl) (fun a S => ?_)
      refine lx_q (.int .i64 x35) S trivial (by decide) (q_move rfl) (fun a S => ?_)
      obtain ⟨xs40, e41, hm⟩ := bind_some hm
      have hsb := (sub_some e41).1
      refine lx_q (subV p0 ((0 : Int)).toNat (x35).toNat 1) S trivial (by decide) (q_slice (lo := none) (hi := (some (.tmp 21))) (l := (0 : Int)) (h := x35) (size := 1) rfl (h0).isSl Try.underlying23 Try.sizeOf2 rfl rfl hsb.1 hsb.2.1 hsb.2.2) (fun a S => ?_)
      refine lx_q p1 S trivial (by decide) (q_move rfl) (fun a S => ?_)
      refine lx_q (.int .i64 x35) S trivial (by decide) (q_move rfl) (fun a S => ?_)
      obtain ⟨xs42, e43, hm⟩ := bind_some hm
      have hsb := (sub_some e43).1
      refine lx_q (subV p1 ((0 : Int)).toNat (x35).toNat 1) S trivial (by decide) (q_slice (lo := none) (hi := (some (.tmp 24))) (l := (0 : Int)) (h := x35) (size := 1) rfl (h1).isSl Try.underlying23 Try.sizeOf2 rfl rfl hsb.1 hsb.2.1 hsb.2.2) (fun a S => ?_)
      obtain ⟨x46, e47, hm⟩ := bind_some hm
      refine lx_call (xs := [.tmp 22, .tmp 25]) S trivial (by decide) rfl rfl Try.call145 ((spec_l01Compare_ok (H.arg (h0.sub e41)) (H.arg (h1.sub e43)) e47).mono ?_)
      rintro e w44 ⟨rfl, Hc45⟩
      have he48 := Hc45.ext
      have H := H.call0 Hc45
      refine ⟨_, rfl, H.sel [] (by decide), fun a S => ?_⟩
      refine lx_q (.int .i64 x46) S trivial (by decide) (q_assign rfl) (fun a S => ?_)
      refine lx_nil ?_
      refine thenN ?_
      refine wp_seq ?_
      refine region_plain ?_
      refine lx_q (.int .i64 x46) S trivial (by decide) (q_move rfl) (fun a S => ?_)
      refine lx_q (.bool (decide ((0 : Int) < x46))) S trivial (by decide) (q_gtr rfl rfl) (fun a S => ?_)
      refine lx_q (.bool (decide ((0 : Int) < x46))) S trivial (by decide) (q_move rfl) (fun a S => ?_)
      obtain ⟨t49, e50, hm⟩ := bind_some hm
      refine lx_cut 9 (fun a w => Slots a 39 [(38, (.bool t49))] ∧ Heap w0 [] w) ?_ ?_
      · by_cases hc51 : (decide ((0 : Int) < x46)) = true
        · have hm := ite_t hc51 e50
          refine lx_skip S rfl rfl (isB_ne hc51) (by decide) (fun a S => ?_)
          refine lx_skip S rfl rfl (isB_ne hc51) (by decide) (fun a S => ?_)
          refine lx_skip S rfl rfl (isB_ne hc51) (by decide) (fun a S => ?_)
          refine lx_skip S rfl rfl rfl (by decide) (fun a S => ?_)
          refine lx_skip S rfl rfl rfl (by decide) (fun a S => ?_)
          refine lx_skip S rfl rfl rfl (by decide) (fun a S => ?_)
          refine lx_skip S rfl rfl rfl (by decide) (fun a S => ?_)
          refine lx_skip S rfl rfl (isB_ne hc51) (by decide) (fun a S => ?_)
          refine lx_q (.bool true) S trivial (by decide) (q_pickT' rfl hc51 rfl) (fun a S => ?_)
          refine lx_nil ?_
          obtain rfl := Option.some.inj hm
          exact ⟨S.sub ⟨rfl, trivial⟩, H⟩
        · have hm := ite_f (eq_false_of_ne_true hc51) e50
          have hc51 : (decide ((0 : Int) < x46)) = false := eq_false_of_ne_true hc51
          refine lx_q (.int .i64 x46) S (want_b rfl rfl hc51) (by decide) (q_move rfl) (fun a S => ?_)
          refine lx_q (.bool (x46 == (0 : Int))) S (want_b rfl rfl hc51) (by decide) (q_eql rfl rfl) (fun a S => ?_)
          refine lx_q (.bool (x46 == (0 : Int))) S (want_b rfl rfl hc51) (by decide) (q_move rfl) (fun a S => ?_)
          obtain ⟨t52, e53, hm⟩ := bind_some hm
          refine lx_cut 5 (fun a w => Slots a 39 [(29, (.bool (decide ((0 : Int) < x46)))), (37, (.bool t52))] ∧ Heap w0 [] w) ?_ ?_
          · by_cases hc54 : (x46 == (0 : Int)) = true
            · have hm := ite_t hc54 e53
              refine lx_q (.int .i64 a2) S (want_b rfl rfl hc54) (by decide) (q_move rfl) (fun a S => ?_)
              refine lx_q (.int .i64 a3) S (want_b rfl rfl hc54) (by decide) (q_move rfl) (fun a S => ?_)
              obtain ⟨x57, e58, hm⟩ := bind_some hm
              refine lx_call (xs := [.tmp 33, .tmp 34]) S (want_b rfl rfl hc54) (by decide) rfl rfl Try.call124 ((spec_l23Bad_ok   e58).mono ?_)
              rintro e w55 ⟨rfl, Hc56⟩
              have he59 := Hc56.ext
              have H := H.call0 Hc56
              refine ⟨_, rfl, trivial, fun a S => ?_⟩
              refine lx_q (.bool (decide (x57 < (0 : Int)))) S (want_b rfl rfl hc54) (by decide) (q_lss rfl rfl) (fun a S => ?_)
              refine lx_q (.bool (decide (x57 < (0 : Int)))) S (want_b rfl rfl hc51) (by decide) (q_pickT' rfl hc54 rfl) (fun a S => ?_)
              refine lx_nil ?_
              obtain rfl := Option.some.inj hm
              exact ⟨S.sub ⟨rfl, rfl, trivial⟩, H⟩
            · have hm := ite_f (eq_false_of_ne_true hc54) e53
              have hc54 : (x46 == (0 : Int)) = false := eq_false_of_ne_true hc54
              refine lx_skip S rfl rfl (isB_ne hc54) (by decide) (fun a S => ?_)
              refine lx_skip S rfl rfl (isB_ne hc54) (by decide) (fun a S => ?_)
              refine lx_skip S rfl rfl (isB_ne hc54) (by decide) (fun a S => ?_)
              refine lx_skip S rfl rfl (isB_ne hc54) (by decide) (fun a S => ?_)
              refine lx_q (.bool false) S (want_b rfl rfl hc51) (by decide) (q_pickF' rfl hc54 rfl) (fun a S => ?_)
              refine lx_nil ?_
              obtain rfl := Option.some.inj hm
              exact ⟨S.sub ⟨rfl, rfl, trivial⟩, H⟩
          · rintro a w ⟨S, H⟩
            refine lx_q (.bool t52) S trivial (by decide) (q_pickF' rfl hc51 rfl) (fun a S => ?_)
            refine lx_nil ?_
            obtain rfl := Option.some.inj hm
            exact ⟨S.sub ⟨rfl, trivial⟩, H⟩
      · rintro a w ⟨S, H⟩
        refine lx_q (.bool t49) S trivial (by decide) (q_assign rfl) (fun a S => ?_)
        refine lx_nil ?_
        refine thenN ?_
        refine wp_ret ?_
        obtain rfl := Option.some.inj hm
        exact leave1 S rfl rfl ⟨rfl, H⟩

/-- spec.l23Right -/
def spec_l23Right_m (fuel : Nat) (a0 : (List Timpl_Vertex)) (a1 : Int) (a2 : (List (List Int))) (a3 : Int) : Option (Bool) :=
  (idx a2 a3).bind fun x31 => (if ((x31.length : Int) == (0 : Int)) = true then some (true) else (iter (fun (s : (Bool) × (Int)) => (match s with | (x135, x136) => (idx a0 a3).bind fun x260 => (if (decide (x136 < (x260.2.2.length : Int))) = true then (idx a2 a3).bind fun x278 => (idx a0 a3).bind fun x285 => (idx x285.2.2 x136).bind fun x300 => (idx a2 x300).bind fun x305 => (idx a0 a3).bind fun x312 => (spec_l23Enough_m fuel x278 x305 a1 x312.2.1).bind fun x329 => (idx a0 a3).bind fun x332 => (if (x332.1 != a1) = true then some (!x329) else some false).bind fun t347 => (if t347 = true then some (.inr (.inr false)) else (if x135 = true then some true else some x329).bind fun t351 => some (.inl (t351, (W (x136 + (1 : Int)))))) else some (.inr (.inl (x135)))) : Option (((Bool) × (Int)) ⊕ ((Bool) ⊕ (Bool))))) fuel (false, (0 : Int))).bind fun res234 => ctl (β := Bool) (ρ := Bool) (τ := Bool) res234 (fun (x233) => (if x233 = true then some true else (idx a0 a3).bind fun x242 => some (x242.1 != a1)).bind fun t239 => some (t239)) (fun q => some (q)))
set_option maxRecDepth 20000 in
theorem spec_l23Right_ok {w0 : World} {fuel : Nat} {p0 p2 : Value} {a0 : (List Timpl_Vertex)} {a1 : Int} {a2 : (List (List Int))} {a3 : Int} {r : Bool} (h0 : Rd (rList Rimpl_Vertex) w0 p0 a0) (h2 : Rd (rList (rList (rInt .i64))) w0 p2 a2) (hm : spec_l23Right_m fuel a0 a1 a2 a3 = some r) :
    Calls Try.prog 80 #[p0, .int .i64 a1, p2, .int .i64 a3] w0 fun e w => e = .returned (.bool r) ∧ Heap w0 [] w := by
  unfold spec_l23Right_m at hm
  have H := Heap.start w0
  refine enter (args := [p0, .int .i64 a1, p2, .int .i64 a3]) Try.func80 rfl 75 rfl (Nat.le_of_ble_eq_true rfl) (fun a S => ?_)
  refine wp_seq ?_
  refine region_plain ?_
  refine lx_q (.bool false) S trivial (by decide) (q_assign rfl) (fun a S => ?_)
  refine lx_nil ?_
  refine thenN ?_
  refine wp_seq ?_
  refine wp_seq ?_
  refine region_plain ?_
  refine lx_q p2 S trivial (by decide) (q_move rfl) (fun a S => ?_)
  refine lx_q (.int .i64 a3) S trivial (by decide) (q_move rfl) (fun a S => ?_)
  obtain ⟨x31, e32, hm⟩ := bind_some hm
  obtain ⟨c33, h34, hat35⟩ := (h2).elem (idx_some e32).2
  obtain ⟨v36, rfl, h37⟩ := rd_list h34
  have hlt := lt_of_idx (idx_some e32).2
  refine lx_q (ePtr p2 (a3.toNat * 1)) S trivial (by decide) (q_indexAddr rfl (h2).isSl rfl (idx_some e32).1 hlt Try.underlying45 Try.sizeOf23) (fun a S => ?_)
  refine lx_e v36 S trivial (by decide) rfl trivial (q_load1 rfl Try.isAgg23 (by rintro _ rfl; exact ((hat35 0 _ rfl).ext H.ext))) (fun a S => ?_)
  refine lx_q (.int .i64 (x31.length : Int)) S trivial (by decide) (q_lenSl rfl (h37).isSl rfl Try.underlying23) (fun a S => ?_)
  refine lx_q (.bool ((x31.length : Int) == (0 : Int))) S trivial (by decide) (q_eql rfl rfl) (fun a S => ?_)
  refine lx_nil ?_
  refine thenN ?_
  refine cond_b S rfl (fun hc38 => ?_) (fun hc38 => ?_)
  · have hm := ite_t hc38 hm
    refine wp_seq ?_
    refine region_plain ?_
    refine lx_q (.bool true) S trivial (by decide) (q_assign rfl) (fun a S => ?_)
    refine lx_nil ?_
    refine thenN ?_
    refine wp_ret ?_
    refine then_ret ?_
    obtain rfl := Option.some.inj hm
    exact leave1 S rfl rfl ⟨rfl, H⟩
  · have hm := ite_f hc38 hm
    refine wp_skip ?_
    refine thenN ?_
    refine wp_seq ?_
    refine region_plain ?_
    refine lx_q (.bool false) S trivial (by decide) (q_assign rfl) (fun a S => ?_)
    refine lx_nil ?_
    refine thenN ?_
    refine wp_seq ?_
    refine wp_seq ?_
    refine region_plain ?_
    refine lx_q (.int .i64 (0 : Int)) S trivial (by decide) (q_assign rfl) (fun a S => ?_)
    refine lx_nil ?_
    refine thenN ?_
    obtain ⟨res234, hit235, hk238⟩ := bind_some hm
    obtain ⟨f236, hf237, hit235⟩ := iter_name hit235
    refine block_loop (fun a w => ∃ (x233 : Bool), Slots a 75 [(0, p0), (1, (.int .i64 a1)), (3, (.int .i64 a3)), (9, (.bool x233))] ∧ Heap w0 [] w ∧ res234 = .inl (x233)) ?_ ?_
    · rintro a w ⟨x233, S, H, rfl⟩
      have hm := ctl_inl hk238
      refine thenN ?_
      refine wp_seq ?_
      refine region_plain ?_
      refine lx_q (.bool x233) S trivial (by decide) (q_move rfl) (fun a S => ?_)
      refine lx_q (.bool x233) S trivial (by decide) (q_move rfl) (fun a S => ?_)
      obtain ⟨t239, e240, hm⟩ := bind_some hm
      refine lx_cut 8 (fun a w => Slots a 75 [(74, (.bool t239))] ∧ Heap w0 [] w) ?_ ?_
      · by_cases hc241 : x233 = true
        · have hm := ite_t hc241 e240
          refine lx_skip S rfl rfl (isB_ne hc241) (by decide) (fun a S => ?_)
          refine lx_skip S rfl rfl (isB_ne hc241) (by decide) (fun a S => ?_)
          refine lx_skip S rfl rfl (isB_ne hc241) (by decide) (fun a S => ?_)
          refine lx_skip S rfl rfl (isB_ne hc241) (by decide) (fun a S => ?_)
          refine lx_skip S rfl rfl (isB_ne hc241) (by decide) (fun a S => ?_)
          refine lx_skip S rfl rfl (isB_ne hc241) (by decide) (fun a S => ?_)
          refine lx_skip S rfl rfl (isB_ne hc241) (by decide) (fun a S => ?_)
          refine lx_q (.bool true) S trivial (by decide) (q_pickT' rfl hc241 rfl) (fun a S => ?_)
          refine lx_nil ?_
          obtain rfl := Option.some.inj hm
          exact ⟨S.sub ⟨rfl, trivial⟩, H⟩
        · have hm := ite_f (eq_false_of_ne_true hc241) e240
          have hc241 : x233 = false := eq_false_of_ne_true hc241
          refine lx_q p0 S (want_b rfl rfl hc241) (by decide) (q_move rfl) (fun a S => ?_)
          refine lx_q (.int .i64 a3) S (want_b rfl rfl hc241) (by decide) (q_move rfl) (fun a S => ?_)
          obtain ⟨x242, e243, hm⟩ := bind_some hm
          obtain ⟨c244, h245, hat246⟩ := (h0).elem (idx_some e243).2
          obtain ⟨c249, c250, rfl, h251, h252⟩ := h245
          obtain rfl := h251
          obtain ⟨c253, c254, rfl, h255, h256⟩ := h252
          obtain rfl := h255
          obtain ⟨v247, rfl, h248⟩ := rd_list h256
          have hlt := lt_of_idx (idx_some e243).2
          refine lx_q (ePtr p0 (a3.toNat * 3)) S (want_b rfl rfl hc241) (by decide) (q_indexAddr rfl (h0).isSl rfl (idx_some e243).1 hlt Try.underlying26 Try.sizeOf71) (fun a S => ?_)
          refine lx_q (pAdd (ePtr p0 (a3.toNat * 3)) 0) S (want_b rfl rfl hc241) (by decide) (q_fieldAddr' 0 2 rfl ((hat246 0 _ rfl).isP) Try.underlying71 rfl Try.sizeOf2) (fun a S => ?_)
          refine lx_e (.int .i64 x242.1) S (want_b rfl rfl hc241) (by decide) rfl trivial (q_load1 rfl Try.isAgg2 (by rintro _ rfl; exact (At.of_add (m := 0) (j := 0) ((hat246 0 _ rfl).ext H.ext)))) (fun a S => ?_)
          refine lx_q (.int .i64 a1) S (want_b rfl rfl hc241) (by decide) (q_move rfl) (fun a S => ?_)
          refine lx_q (.bool (x242.1 != a1)) S (want_b rfl rfl hc241) (by decide) (q_neq rfl rfl) (fun a S => ?_)
          refine lx_q (.bool (x242.1 != a1)) S trivial (by decide) (q_pickF' rfl hc241 rfl) (fun a S => ?_)
          refine lx_nil ?_
          obtain rfl := Option.some.inj hm
          exact ⟨S.sub ⟨rfl, trivial⟩, H⟩
      · rintro a w ⟨S, H⟩
        refine lx_q (.bool t239) S trivial (by decide) (q_assign rfl) (fun a S => ?_)
        refine lx_nil ?_
        refine thenN ?_
        refine wp_ret ?_
        obtain rfl := Option.some.inj hm
        exact leave1 S rfl rfl ⟨rfl, H⟩
    · skip
      refine loop_ghost (fun n a w => ∃ (x135 : Bool) (x136 : Int), Slots a 75 [(0, p0), (1, (.int .i64 a1)), (2, p2), (3, (.int .i64 a3)), (9, (.bool x135)), (10, (.int .i64 x136))] ∧ Heap w0 [] w ∧ iter f236 n (x135, x136) = some res234) _ ⟨false, (0 : Int), S.sub ⟨rfl, rfl, rfl, rfl, rfl, rfl, trivial⟩, H, hit235⟩ ?_
      rintro n a w ⟨x135, x136, S, H, hit235⟩
      obtain ⟨m257, o258, rfl, hm, hc259⟩ := iter_step hit235
      rw [hf237] at hm
      refine wp_seq ?_
      refine wp_seq ?_
      refine region_plain ?_
      refine lx_q (.int .i64 x136) S trivial (by decide) (q_move rfl) (fun a S => ?_)
      refine lx_q p0 S trivial (by decide) (q_move rfl) (fun a S => ?_)
      refine lx_q (.int .i64 a3) S trivial (by decide) (q_move rfl) (fun a S => ?_)
      obtain ⟨x260, e261, hm⟩ := bind_some hm
      obtain ⟨c262, h263, hat264⟩ := (h0).elem (idx_some e261).2
      obtain ⟨c267, c268, rfl, h269, h270⟩ := h263
      obtain rfl := h269
      obtain ⟨c271, c272, rfl, h273, h274⟩ := h270
      obtain rfl := h273
      obtain ⟨v265, rfl, h266⟩ := rd_list h274
      have hlt := lt_of_idx (idx_some e261).2
      refine lx_q (ePtr p0 (a3.toNat * 3)) S trivial (by decide) (q_indexAddr rfl (h0).isSl rfl (idx_some e261).1 hlt Try.underlying26 Try.sizeOf71) (fun a S => ?_)
      refine lx_q (pAdd (ePtr p0 (a3.toNat * 3)) 2) S trivial (by decide) (q_fieldAddr' 2 23 rfl ((hat264 0 _ rfl).isP) Try.underlying71 rfl Try.sizeOf23) (fun a S => ?_)
      refine lx_e v265 S trivial (by decide) rfl trivial (q_load1 rfl Try.isAgg23 (by rintro _ rfl; exact (At.of_add (m := 2) (j := 0) ((hat264 2 _ rfl).ext H.ext)))) (fun a S => ?_)
      refine lx_q (.int .i64 (x260.2.2.length : Int)) S trivial (by decide) (q_lenSl rfl (h266).isSl rfl Try.underlying23) (fun a S => ?_)
      refine lx_q (.bool (decide (x136 < (x260.2.2.length : Int)))) S trivial (by decide) (q_lss rfl rfl) (fun a S => ?_)
      refine lx_nil ?_
      refine thenN ?_
      refine cond_b S rfl (fun hc275 => ?_) (fun hc275 => ?_)
      · have hm := ite_t hc275 hm
        refine wp_skip ?_
        refine thenN ?_
        refine wp_seq ?_
        refine wp_block ?_
        refine wp_seq ?_
        refine region_drawG (fun w1 => Heap w0 [] w1) (fun i => [21].contains i) mixed (by kernel_rfl) (fun w277 he276 => ?_)
        have H := H.later he276
        refine ⟨H.sel [] (by decide), ?_⟩
        refine lx_q p2 S trivial (by decide) (q_move rfl) (fun a S => ?_)
        refine lx_q (.int .i64 a3) S trivial (by decide) (q_move rfl) (fun a S => ?_)
        obtain ⟨x278, e279, hm⟩ := bind_some hm
        obtain ⟨c280, h281, hat282⟩ := (h2).elem (idx_some e279).2
        obtain ⟨v283, rfl, h284⟩ := rd_list h281
        have hlt := lt_of_idx (idx_some e279).2
        refine lx_q (ePtr p2 (a3.toNat * 1)) S trivial (by decide) (q_indexAddr rfl (h2).isSl rfl (idx_some e279).1 hlt Try.underlying45 Try.sizeOf23) (fun a S => ?_)
        refine lx_q v283 S trivial (by decide) (q_load1 rfl Try.isAgg23 (fun w1 hC => ((hat282 0 _ rfl).ext hC.ext))) (fun a S => ?_)
        refine lx_q p2 S trivial (by decide) (q_move rfl) (fun a S => ?_)
        refine lx_q p0 S trivial (by decide) (q_move rfl) (fun a S => ?_)
        refine lx_q (.int .i64 a3) S trivial (by decide) (q_move rfl) (fun a S => ?_)
        obtain ⟨x285, e286, hm⟩ := bind_some hm
        obtain ⟨c287, h288, hat289⟩ := (h0).elem (idx_some e286).2
        obtain ⟨c292, c293, rfl, h294, h295⟩ := h288
        obtain rfl := h294
        obtain ⟨c296, c297, rfl, h298, h299⟩ := h295
        obtain rfl := h298
        obtain ⟨v290, rfl, h291⟩ := rd_list h299
        have hlt := lt_of_idx (idx_some e286).2
        refine lx_q (ePtr p0 (a3.toNat * 3)) S trivial (by decide) (q_indexAddr rfl (h0).isSl rfl (idx_some e286).1 hlt Try.underlying26 Try.sizeOf71) (fun a S => ?_)
        refine lx_q (pAdd (ePtr p0 (a3.toNat * 3)) 2) S trivial (by decide) (q_fieldAddr' 2 23 rfl ((hat289 0 _ rfl).isP) Try.underlying71 rfl Try.sizeOf23) (fun a S => ?_)
        refine lx_q v290 S trivial (by decide) (q_load1 rfl Try.isAgg23 (fun w1 hC => (At.of_add (m := 2) (j := 0) ((hat289 2 _ rfl).ext hC.ext)))) (fun a S => ?_)
        refine lx_q (.int .i64 x136) S trivial (by decide) (q_move rfl) (fun a S => ?_)
        obtain ⟨x300, e301, hm⟩ := bind_some hm
        obtain ⟨c302, h303, hat304⟩ := (h291).elem (idx_some e301).2
        obtain rfl := h303
        have hlt := lt_of_idx (idx_some e301).2
        refine lx_q (ePtr v290 (x136.toNat * 1)) S trivial (by decide) (q_indexAddr rfl (h291).isSl rfl (idx_some e301).1 hlt Try.underlying23 Try.sizeOf2) (fun a S => ?_)
        refine lx_q (.int .i64 x300) S trivial (by decide) (q_load1 rfl Try.isAgg2 (fun w1 hC => ((hat304 0 _ rfl).ext hC.ext))) (fun a S => ?_)
        obtain ⟨x305, e306, hm⟩ := bind_some hm
        obtain ⟨c307, h308, hat309⟩ := (h2).elem (idx_some e306).2
        obtain ⟨v310, rfl, h311⟩ := rd_list h308
        have hlt := lt_of_idx (idx_some e306).2
        refine lx_q (ePtr p2 (x300.toNat * 1)) S trivial (by decide) (q_indexAddr rfl (h2).isSl rfl (idx_some e306).1 hlt Try.underlying45 Try.sizeOf23) (fun a S => ?_)
        refine lx_q v310 S trivial (by decide) (q_load1 rfl Try.isAgg23 (fun w1 hC => ((hat309 0 _ rfl).ext hC.ext))) (fun a S => ?_)
        refine lx_q (.int .i64 a1) S trivial (by decide) (q_move rfl) (fun a S => ?_)
        refine lx_q p0 S trivial (by decide) (q_move rfl) (fun a S => ?_)
        refine lx_q (.int .i64 a3) S trivial (by decide) (q_move rfl) (fun a S => ?_)
        obtain ⟨x312, e313, hm⟩ := bind_some hm
        obtain ⟨c314, h315, hat316⟩ := (h0).elem (idx_some e313).2
        obtain ⟨c319, c320, rfl, h321, h322⟩ := h315
        obtain rfl := h321
        obtain ⟨c323, c324, rfl, h325, h326⟩ := h322
        obtain rfl := h325
        obtain ⟨v317, rfl, h318⟩ := rd_list h326
        have hlt := lt_of_idx (idx_some e313).2
        refine lx_q (ePtr p0 (a3.toNat * 3)) S trivial (by decide) (q_indexAddr rfl (h0).isSl rfl (idx_some e313).1 hlt Try.underlying26 Try.sizeOf71) (fun a S => ?_)
        refine lx_q (pAdd (ePtr p0 (a3.toNat * 3)) 1) S trivial (by decide) (q_fieldAddr' 1 2 rfl ((hat316 0 _ rfl).isP) Try.underlying71 rfl Try.sizeOf2) (fun a S => ?_)
        refine lx_q (.int .i64 x312.2.1) S trivial (by decide) (q_load1 rfl Try.isAgg2 (fun w1 hC => (At.of_add (m := 1) (j := 0) ((hat316 1 _ rfl).ext hC.ext)))) (fun a S => ?_)
        obtain ⟨x329, e330, hm⟩ := bind_some hm
        refine lx_call (xs := [.tmp 31, .tmp 42, .tmp 43, .tmp 48]) S trivial (by decide) rfl rfl Try.call125 ((spec_l23Enough_ok (H.arg h284) (H.arg h311)   e330).mono ?_)
        rintro e w327 ⟨rfl, Hc328⟩
        have he331 := Hc328.ext
        have H := H.call0 Hc328
        refine ⟨_, rfl, H.sel [] (by decide), fun a S => ?_⟩
        refine lx_q (.bool x329) S trivial (by decide) (q_assign rfl) (fun a S => ?_)
        refine lx_nil ?_
        refine thenN ?_
        refine wp_seq ?_
        refine wp_seq ?_
        refine region_plain ?_
        refine lx_q p0 S trivial (by decide) (q_move rfl) (fun a S => ?_)
        refine lx_q (.int .i64 a3) S trivial (by decide) (q_move rfl) (fun a S => ?_)
        obtain ⟨x332, e333, hm⟩ := bind_some hm
        obtain ⟨c334, h335, hat336⟩ := (h0).elem (idx_some e333).2
        obtain ⟨c339, c340, rfl, h341, h342⟩ := h335
        obtain rfl := h341
        obtain ⟨c343, c344, rfl, h345, h346⟩ := h342
        obtain rfl := h345
        obtain ⟨v337, rfl, h338⟩ := rd_list h346
        have hlt := lt_of_idx (idx_some e333).2
        refine lx_q (ePtr p0 (a3.toNat * 3)) S trivial (by decide) (q_indexAddr rfl (h0).isSl rfl (idx_some e333).1 hlt Try.underlying26 Try.sizeOf71) (fun a S => ?_)
        refine lx_q (pAdd (ePtr p0 (a3.toNat * 3)) 0) S trivial (by decide) (q_fieldAddr' 0 2 rfl ((hat336 0 _ rfl).isP) Try.underlying71 rfl Try.sizeOf2) (fun a S => ?_)
        refine lx_e (.int .i64 x332.1) S trivial (by decide) rfl trivial (q_load1 rfl Try.isAgg2 (by rintro _ rfl; exact (At.of_add (m := 0) (j := 0) ((hat336 0 _ rfl).ext H.ext)))) (fun a S => ?_)
        refine lx_q (.int .i64 a1) S trivial (by decide) (q_move rfl) (fun a S => ?_)
        refine lx_q (.bool (x332.1 != a1)) S trivial (by decide) (q_neq rfl rfl) (fun a S => ?_)
        refine lx_q (.bool (x332.1 != a1)) S trivial (by decide) (q_move rfl) (fun a S => ?_)
        obtain ⟨t347, e348, hm⟩ := bind_some hm
        refine lx_cut 3 (fun a w => Slots a 75 [(0, p0), (1, (.int .i64 a1)), (2, p2), (3, (.int .i64 a3)), (9, (.bool x135)), (10, (.int .i64 x136)), (11, (.bool x329)), (60, (.bool t347))] ∧ Heap w0 [] w) ?_ ?_
        · by_cases hc349 : (x332.1 != a1) = true
          · have hm := ite_t hc349 e348
            refine lx_q (.bool x329) S (want_b rfl rfl hc349) (by decide) (q_move rfl) (fun a S => ?_)
            refine lx_q (.bool (!x329)) S (want_b rfl rfl hc349) (by decide) (q_not rfl) (fun a S => ?_)
            refine lx_q (.bool (!x329)) S trivial (by decide) (q_pickT' rfl hc349 rfl) (fun a S => ?_)
            refine lx_nil ?_
            obtain rfl := Option.some.inj hm
            exact ⟨S.sub ⟨rfl, rfl, rfl, rfl, rfl, rfl, rfl, rfl, trivial⟩, H⟩
          · have hm := ite_f (eq_false_of_ne_true hc349) e348
            have hc349 : (x332.1 != a1) = false := eq_false_of_ne_true hc349
            refine lx_skip S rfl rfl (isB_ne hc349) (by decide) (fun a S => ?_)
            refine lx_skip S rfl rfl (isB_ne hc349) (by decide) (fun a S => ?_)
            refine lx_q (.bool false) S trivial (by decide) (q_pickF' rfl hc349 rfl) (fun a S => ?_)
            refine lx_nil ?_
            obtain rfl := Option.some.inj hm
            exact ⟨S.sub ⟨rfl, rfl, rfl, rfl, rfl, rfl, rfl, rfl, trivial⟩, H⟩
        · rintro a w ⟨S, H⟩
          refine lx_nil ?_
          refine thenN ?_
          refine cond_b S rfl (fun hc350 => ?_) (fun hc350 => ?_)
          · have hm := ite_t hc350 hm
            refine wp_seq ?_
            refine region_plain ?_
            refine lx_q (.bool false) S trivial (by decide) (q_assign rfl) (fun a S => ?_)
            refine lx_nil ?_
            refine thenN ?_
            refine wp_ret ?_
            refine then_ret ?_
            refine inBlock_ret ?_
            refine then_ret ?_
            refine then_ret ?_
            refine inBlock_ret ?_
            refine then_ret ?_
            refine then_ret ?_
            obtain rfl := it_brk hm hc259
            have hm := ctl_inr hk238
            obtain rfl := Option.some.inj hm
            exact leave1 S rfl rfl ⟨rfl, H⟩
          · have hm := ite_f hc350 hm
            refine wp_skip ?_
            refine thenN ?_
            refine region_plain ?_
            refine lx_q (.bool x135) S trivial (by decide) (q_move rfl) (fun a S => ?_)
            refine lx_q (.bool x135) S trivial (by decide) (q_move rfl) (fun a S => ?_)
            obtain ⟨t351, e352, hm⟩ := bind_some hm
            refine lx_cut 2 (fun a w => Slots a 75 [(0, p0), (1, (.int .i64 a1)), (2, p2), (3, (.int .i64 a3)), (10, (.int .i64 x136)), (64, (.bool t351))] ∧ Heap w0 [] w) ?_ ?_
            · by_cases hc353 : x135 = true
              · have hm := ite_t hc353 e352
                refine lx_skip S rfl rfl (isB_ne hc353) (by decide) (fun a S => ?_)
                refine lx_q (.bool true) S trivial (by decide) (q_pickT' rfl hc353 rfl) (fun a S => ?_)
                refine lx_nil ?_
                obtain rfl := Option.some.inj hm
                exact ⟨S.sub ⟨rfl, rfl, rfl, rfl, rfl, rfl, trivial⟩, H⟩
              · have hm := ite_f (eq_false_of_ne_true hc353) e352
                have hc353 : x135 = false := eq_false_of_ne_true hc353
                refine lx_q (.bool x329) S (want_b rfl rfl hc353) (by decide) (q_move rfl) (fun a S => ?_)
                refine lx_q (.bool x329) S trivial (by decide) (q_pickF' rfl hc353 rfl) (fun a S => ?_)
                refine lx_nil ?_
                obtain rfl := Option.some.inj hm
                exact ⟨S.sub ⟨rfl, rfl, rfl, rfl, rfl, rfl, trivial⟩, H⟩
            · rintro a w ⟨S, H⟩
              refine lx_q (.bool t351) S trivial (by decide) (q_assign rfl) (fun a S => ?_)
              refine lx_nil ?_
              refine inBlock_norm ?_
              refine thenN ?_
              refine region_plain ?_
              refine lx_q (.int .i64 x136) S trivial (by decide) (q_move rfl) (fun a S => ?_)
              refine lx_q (.int .i64 (W (x136 + (1 : Int)))) S trivial (by decide) (q_add rfl rfl) (fun a S => ?_)
              refine lx_q (.int .i64 (W (x136 + (1 : Int)))) S trivial (by decide) (q_assign rfl) (fun a S => ?_)
              refine lx_nil ?_
              exact ⟨m257, Nat.lt_succ_self _, t351, (W (x136 + (1 : Int))), S.sub ⟨rfl, rfl, rfl, rfl, rfl, rfl, trivial⟩, H, it_cont hm hc259⟩
      · have hm := ite_f hc275 hm
        refine wp_exit ?_
        refine then_exit ?_
        refine then_exit ?_
        refine inBlock_exit ?_
        obtain rfl := it_brk hm hc259
        exact ⟨x135, S.sub ⟨rfl, rfl, rfl, rfl, trivial⟩, H, rfl⟩

/-- spec.IsMeasure -/
def spec_IsMeasure_m (fuel : Nat) (a0 : (List Timpl_Vertex)) (a1 : Int) (a2 : (List (List Int))) : Option (Bool) :=
  (spec_l23Is_m fuel a0).bind fun x33 => (if (!x33) = true then some true else (spec_l00In_m fuel a1 (0 : Int) (1 : Int)).bind fun x41 => some (!x41)).bind fun t36 => (if t36 = true then some true else some ((a2.length : Int) != (a0.length : Int))).bind fun t44 => (if t44 = true then some (false) else (spec_l23Tops_m fuel a0 a1).bind fun x50 => (iter (fun (s : (Int)) => (match s with | (x155) => (if (decide (x155 < (a2.length : Int))) = true then join (κ := Option (((Int)) ⊕ ((Unit) ⊕ (Bool)))) (some (.inl ((W (x155 + (1 : Int)))))) (fun K297 => (idx a2 x155).bind fun x299 => (if ((x299.length : Int) == (0 : Int)) = true then K297 else (idx a2 x155).bind fun x307 => (if ((x307.length : Int) != (5 : Int)) = true then some (.inr (.inr false)) else (iter (fun (s : (Int)) => (match s with | (x339) => (if (decide (x339 < (5 : Int))) = true then (idx a2 x155).bind fun x375 => (idx x375 x339).bind fun x382 => (idx x50 x339).bind fun x387 => (spec_l00In_m fuel x382 (0 : Int) x387).bind fun x391 => (if (!x391) = true then some (.inr (.inr false)) else some (.inl ((W (x339 + (1 : Int)))))) else some (.inr (.inl ()))) : Option (((Int)) ⊕ ((Unit) ⊕ (Bool))))) fuel ((0 : Int))).bind fun res364 => ctl (β := Unit) (ρ := Bool) (τ := (((Int)) ⊕ ((Unit) ⊕ (Bool)))) res364 (fun _ => K297) (fun q => some (.inr (.inr q)))))) else some (.inr (.inl ()))) : Option (((Int)) ⊕ ((Unit) ⊕ (Bool))))) fuel ((0 : Int))).bind fun res256 => ctl (β := Unit) (ρ := Bool) (τ := Bool) res256 (fun _ => (iter (fun (s : (Int)) => (match s with | (x269) => (if (decide (x269 < (a2.length : Int))) = true then (spec_l23Right_m fuel a0 a1 a2 x269).bind fun x289 => (if (!x289) = true then some (.inr (.inr false)) else some (.inl ((W (x269 + (1 : Int)))))) else some (.inr (.inl ()))) : Option (((Int)) ⊕ ((Unit) ⊕ (Bool))))) fuel ((0 : Int))).bind fun res278 => ctl (β := Unit) (ρ := Bool) (τ := Bool) res278 (fun _ => some (true)) (fun q => some (q))) (fun q => some (q)))
set_option maxRecDepth 20000 in
theorem spec_IsMeasure_ok {w0 : World} {fuel : Nat} {p0 p2 : Value} {a0 : (List Timpl_Vertex)} {a1 : Int} {a2 : (List (List Int))} {r : Bool} (h0 : Rd (rList Rimpl_Vertex) w0 p0 a0) (h2 : Rd (rList (rList (rInt .i64))) w0 p2 a2) (hm : spec_IsMeasure_m fuel a0 a1 a2 = some r) :
    Calls Try.prog 33 #[p0, .int .i64 a1, p2] w0 fun e w => e = .returned (.bool r) ∧ Heap w0 [] w := by
  unfold spec_IsMeasure_m at hm
  have H := Heap.start w0
  refine enter (args := [p0, .int .i64 a1, p2]) Try.func33 rfl 76 rfl (Nat.le_of_ble_eq_true rfl) (fun a S => ?_)
  refine wp_seq ?_
  refine region_plain ?_
  refine lx_q (.bool false) S trivial (by decide) (q_assign rfl) (fun a S => ?_)
  refine lx_nil ?_
  refine thenN ?_
  refine wp_seq ?_
  refine wp_seq ?_
  refine region_plain ?_
  refine lx_q p0 S trivial (by decide) (q_move rfl) (fun a S => ?_)
  obtain ⟨x33, e34, hm⟩ := bind_some hm
  refine lx_call (xs := [.tmp 11]) S trivial (by decide) rfl rfl Try.call53 ((spec_l23Is_ok (H.arg h0) e34).mono ?_)
  rintro e w31 ⟨rfl, Hc32⟩
  have he35 := Hc32.ext
  have H := H.call0 Hc32
  refine ⟨_, rfl, trivial, fun a S => ?_⟩
  refine lx_q (.bool (!x33)) S trivial (by decide) (q_not rfl) (fun a S => ?_)
  refine lx_q (.bool (!x33)) S trivial (by decide) (q_move rfl) (fun a S => ?_)
  obtain ⟨t36, e37, hm⟩ := bind_some hm
  refine lx_cut 4 (fun a w => Slots a 76 [(0, p0), (1, (.int .i64 a1)), (2, p2), (18, (.bool t36))] ∧ Heap w0 [] w) ?_ ?_
  · by_cases hc38 : (!x33) = true
    · have hm := ite_t hc38 e37
      refine lx_skip S rfl rfl (isB_ne hc38) (by decide) (fun a S => ?_)
      refine lx_skip S rfl rfl (isB_ne hc38) (by decide) (fun a S => ?_)
      refine lx_skip S rfl rfl (isB_ne hc38) (by decide) (fun a S => ?_)
      refine lx_q (.bool true) S trivial (by decide) (q_pickT' rfl hc38 rfl) (fun a S => ?_)
      refine lx_nil ?_
      obtain rfl := Option.some.inj hm
      exact ⟨S.sub ⟨rfl, rfl, rfl, rfl, trivial⟩, H⟩
    · have hm := ite_f (eq_false_of_ne_true hc38) e37
      have hc38 : (!x33) = false := eq_false_of_ne_true hc38
      refine lx_q (.int .i64 a1) S (want_b rfl rfl hc38) (by decide) (q_move rfl) (fun a S => ?_)
      obtain ⟨x41, e42, hm⟩ := bind_some hm
      refine lx_call (xs := [.tmp 15, .const (.int .i64 (0)), .const (.int .i64 (1))]) S (want_b rfl rfl hc38) (by decide) rfl rfl Try.call54 ((spec_l00In_ok    e42).mono ?_)
      rintro e w39 ⟨rfl, Hc40⟩
      have he43 := Hc40.ext
      have H := H.call0 Hc40
      refine ⟨_, rfl, trivial, fun a S => ?_⟩
      refine lx_q (.bool (!x41)) S (want_b rfl rfl hc38) (by decide) (q_not rfl) (fun a S => ?_)
      refine lx_q (.bool (!x41)) S trivial (by decide) (q_pickF' rfl hc38 rfl) (fun a S => ?_)
      refine lx_nil ?_
      obtain rfl := Option.some.inj hm
      exact ⟨S.sub ⟨rfl, rfl, rfl, rfl, trivial⟩, H⟩
  · rintro a w ⟨S, H⟩
    refine lx_q (.bool t36) S trivial (by decide) (q_move rfl) (fun a S => ?_)
    obtain ⟨t44, e45, hm⟩ := bind_some hm
    refine lx_cut 6 (fun a w => Slots a 76 [(0, p0), (1, (.int .i64 a1)), (2, p2), (25, (.bool t44))] ∧ Heap w0 [] w) ?_ ?_
    · by_cases hc46 : t36 = true
      · have hm := ite_t hc46 e45
        refine lx_skip S rfl rfl (isB_ne hc46) (by decide) (fun a S => ?_)
        refine lx_skip S rfl rfl (isB_ne hc46) (by decide) (fun a S => ?_)
        refine lx_skip S rfl rfl (isB_ne hc46) (by decide) (fun a S => ?_)
        refine lx_skip S rfl rfl (isB_ne hc46) (by decide) (fun a S => ?_)
        refine lx_skip S rfl rfl (isB_ne hc46) (by decide) (fun a S => ?_)
        refine lx_q (.bool true) S trivial (by decide) (q_pickT' rfl hc46 rfl) (fun a S => ?_)
        refine lx_nil ?_
        obtain rfl := Option.some.inj hm
        exact ⟨S.sub ⟨rfl, rfl, rfl, rfl, trivial⟩, H⟩
      · have hm := ite_f (eq_false_of_ne_true hc46) e45
        have hc46 : t36 = false := eq_false_of_ne_true hc46
        refine lx_q p2 S (want_b rfl rfl hc46) (by decide) (q_move rfl) (fun a S => ?_)
        refine lx_q (.int .i64 (a2.length : Int)) S (want_b rfl rfl hc46) (by decide) (q_lenSl rfl (h2).isSl rfl Try.underlying45) (fun a S => ?_)
        refine lx_q p0 S (want_b rfl rfl hc46) (by decide) (q_move rfl) (fun a S => ?_)
        refine lx_q (.int .i64 (a0.length : Int)) S (want_b rfl rfl hc46) (by decide) (q_lenSl rfl (h0).isSl rfl Try.underlying26) (fun a S => ?_)
        refine lx_q (.bool ((a2.length : Int) != (a0.length : Int))) S (want_b rfl rfl hc46) (by decide) (q_neq rfl rfl) (fun a S => ?_)
        refine lx_q (.bool ((a2.length : Int) != (a0.length : Int))) S trivial (by decide) (q_pickF' rfl hc46 rfl) (fun a S => ?_)
        refine lx_nil ?_
        obtain rfl := Option.some.inj hm
        exact ⟨S.sub ⟨rfl, rfl, rfl, rfl, trivial⟩, H⟩
    · rintro a w ⟨S, H⟩
      refine lx_nil ?_
      refine thenN ?_
      refine cond_b S rfl (fun hc47 => ?_) (fun hc47 => ?_)
      · have hm := ite_t hc47 hm
        refine wp_seq ?_
        refine region_plain ?_
        refine lx_q (.bool false) S trivial (by decide) (q_assign rfl) (fun a S => ?_)
        refine lx_nil ?_
        refine thenN ?_
        refine wp_ret ?_
        refine then_ret ?_
        obtain rfl := Option.some.inj hm
        exact leave1 S rfl rfl ⟨rfl, H⟩
      · have hm := ite_f hc47 hm
        refine wp_skip ?_
        refine thenN ?_
        refine wp_seq ?_
        refine region_plain ?_
        refine lx_q p0 S trivial (by decide) (q_move rfl) (fun a S => ?_)
        refine lx_q (.int .i64 a1) S trivial (by decide) (q_move rfl) (fun a S => ?_)
        obtain ⟨x50, e51, hm⟩ := bind_some hm
        refine lx_call (xs := [.tmp 26, .tmp 27]) S trivial (by decide) rfl rfl Try.call79 ((spec_l23Tops_ok (H.arg h0)  e51).mono ?_)
        rintro e w48 ⟨v52, rfl, Hc49⟩
        have he54 := Hc49.ext
        have H := H.call1 Hc49
        refine ⟨_, rfl, trivial, fun a S => ?_⟩
        refine lx_q v52 S trivial (by decide) (q_assign rfl) (fun a S => ?_)
        refine lx_nil ?_
        refine thenN ?_
        refine wp_seq ?_
        refine wp_seq ?_
        refine region_plain ?_
        refine lx_q (.int .i64 (0 : Int)) S trivial (by decide) (q_assign rfl) (fun a S => ?_)
        refine lx_nil ?_
        refine thenN ?_
        obtain ⟨res256, hit257, hk260⟩ := bind_some hm
        obtain ⟨f258, hf259, hit257⟩ := iter_name hit257
        refine block_loop (fun a w => Slots a 76 [(0, p0), (1, (.int .i64 a1)), (2, p2)] ∧ Heap w0 [] w ∧ res256 = .inl ()) ?_ ?_
        · rintro a w ⟨S, H, rfl⟩
          have hm := ctl_inl hk260
          refine thenN ?_
          refine wp_seq ?_
          refine wp_seq ?_
          refine region_plain ?_
          refine lx_q (.int .i64 (0 : Int)) S trivial (by decide) (q_assign rfl) (fun a S => ?_)
          refine lx_nil ?_
          refine thenN ?_
          obtain ⟨res278, hit279, hk282⟩ := bind_some hm
          obtain ⟨f280, hf281, hit279⟩ := iter_name hit279
          refine block_loop (fun a w => Slots a 76 [] ∧ Heap w0 [] w ∧ res278 = .inl ()) ?_ ?_
          · rintro a w ⟨S, H, rfl⟩
            have hm := ctl_inl hk282
            refine thenN ?_
            refine wp_seq ?_
            refine region_plain ?_
            refine lx_q (.bool true) S trivial (by decide) (q_assign rfl) (fun a S => ?_)
            refine lx_nil ?_
            refine thenN ?_
            refine wp_ret ?_
            obtain rfl := Option.some.inj hm
            exact leave1 S rfl rfl ⟨rfl, H⟩
          · skip
            refine loop_ghost (fun n a w => ∃ (x269 : Int), Slots a 76 [(0, p0), (1, (.int .i64 a1)), (2, p2), (10, (.int .i64 x269))] ∧ Heap w0 [] w ∧ iter f280 n (x269) = some res278) _ ⟨(0 : Int), S.sub ⟨rfl, rfl, rfl, rfl, trivial⟩, H, hit279⟩ ?_
            rintro n a w ⟨x269, S, H, hit279⟩
            obtain ⟨m283, o284, rfl, hm, hc285⟩ := iter_step hit279
            rw [hf281] at hm
            refine wp_seq ?_
            refine wp_seq ?_
            refine region_plain ?_
            refine lx_q (.int .i64 x269) S trivial (by decide) (q_move rfl) (fun a S => ?_)
            refine lx_q p2 S trivial (by decide) (q_move rfl) (fun a S => ?_)
            refine lx_q (.int .i64 (a2.length : Int)) S trivial (by decide) (q_lenSl rfl (h2).isSl rfl Try.underlying45) (fun a S => ?_)
            refine lx_q (.bool (decide (x269 < (a2.length : Int)))) S trivial (by decide) (q_lss rfl rfl) (fun a S => ?_)
            refine lx_nil ?_
            refine thenN ?_
            refine cond_b S rfl (fun hc286 => ?_) (fun hc286 => ?_)
            · have hm := ite_t hc286 hm
              refine wp_skip ?_
              refine thenN ?_
              refine wp_seq ?_
              refine wp_block ?_
              refine wp_seq ?_
              refine region_plain ?_
              refine lx_q p0 S trivial (by decide) (q_move rfl) (fun a S => ?_)
              refine lx_q (.int .i64 a1) S trivial (by decide) (q_move rfl) (fun a S => ?_)
              refine lx_q p2 S trivial (by decide) (q_move rfl) (fun a S => ?_)
              refine lx_q (.int .i64 x269) S trivial (by decide) (q_move rfl) (fun a S => ?_)
              obtain ⟨x289, e290, hm⟩ := bind_some hm
              refine lx_call (xs := [.tmp 70, .tmp 71, .tmp 72, .tmp 73]) S trivial (by decide) rfl rfl Try.call80 ((spec_l23Right_ok (H.arg h0)  (H.arg h2)  e290).mono ?_)
              rintro e w287 ⟨rfl, Hc288⟩
              have he291 := Hc288.ext
              have H := H.call0 Hc288
              refine ⟨_, rfl, trivial, fun a S => ?_⟩
              refine lx_q (.bool (!x289)) S trivial (by decide) (q_not rfl) (fun a S => ?_)
              refine lx_nil ?_
              refine thenN ?_
              refine cond_b S rfl (fun hc292 => ?_) (fun hc292 => ?_)
              · have hm := ite_t hc292 hm
                refine wp_seq ?_
                refine region_plain ?_
                refine lx_q (.bool false) S trivial (by decide) (q_assign rfl) (fun a S => ?_)
                refine lx_nil ?_
                refine thenN ?_
                refine wp_ret ?_
                refine inBlock_ret ?_
                refine then_ret ?_
                refine then_ret ?_
                refine inBlock_ret ?_
                refine then_ret ?_
                refine then_ret ?_
                obtain rfl := it_brk hm hc285
                have hm := ctl_inr hk282
                obtain rfl := Option.some.inj hm
                exact leave1 S rfl rfl ⟨rfl, H⟩
              · have hm := ite_f hc292 hm
                refine wp_skip ?_
                refine inBlock_norm ?_
                refine thenN ?_
                refine region_plain ?_
                refine lx_q (.int .i64 x269) S trivial (by decide) (q_move rfl) (fun a S => ?_)
                refine lx_q (.int .i64 (W (x269 + (1 : Int)))) S trivial (by decide) (q_add rfl rfl) (fun a S => ?_)
                refine lx_q (.int .i64 (W (x269 + (1 : Int)))) S trivial (by decide) (q_assign rfl) (fun a S => ?_)
                refine lx_nil ?_
                exact ⟨m283, Nat.lt_succ_self _, (W (x269 + (1 : Int))), S.sub ⟨rfl, rfl, rfl, rfl, trivial⟩, H, it_cont hm hc285⟩
            · have hm := ite_f hc286 hm
              refine wp_exit ?_
              refine then_exit ?_
              refine then_exit ?_
              refine inBlock_exit ?_
              obtain rfl := it_brk hm hc285
              exact ⟨S.sub trivial, H, rfl⟩
        · skip
          refine loop_ghost (fun n a w => ∃ (x155 : Int), Slots a 76 [(0, p0), (1, (.int .i64 a1)), (2, p2), (7, v52), (8, (.int .i64 x155))] ∧ Heap w0 [oA (rList (rInt .i64)) v52 x50] w ∧ iter f258 n (x155) = some res256) _ ⟨(0 : Int), S.sub ⟨rfl, rfl, rfl, rfl, rfl, trivial⟩, H, hit257⟩ ?_
          rintro n a w ⟨x155, S, H, hit257⟩
          obtain ⟨m293, o294, rfl, hm, hc295⟩ := iter_step hit257
          rw [hf259] at hm
          refine wp_seq ?_
          refine wp_seq ?_
          refine region_plain ?_
          refine lx_q (.int .i64 x155) S trivial (by decide) (q_move rfl) (fun a S => ?_)
          refine lx_q p2 S trivial (by decide) (q_move rfl) (fun a S => ?_)
          refine lx_q (.int .i64 (a2.length : Int)) S trivial (by decide) (q_lenSl rfl (h2).isSl rfl Try.underlying45) (fun a S => ?_)
          refine lx_q (.bool (decide (x155 < (a2.length : Int)))) S trivial (by decide) (q_lss rfl rfl) (fun a S => ?_)
          refine lx_nil ?_
          refine thenN ?_
          refine cond_b S rfl (fun hc296 => ?_) (fun hc296 => ?_)
          · have hm := ite_t hc296 hm
            refine wp_skip ?_
            refine thenN ?_
            obtain ⟨K297, hK298, hm⟩ := join_elim hm
            refine seq_cut (fun a w => Slots a 76 [(0, p0), (1, (.int .i64 a1)), (2, p2), (7, v52), (8, (.int .i64 x155))] ∧ Heap w0 [oA (rList (rInt .i64)) v52 x50] w ∧ K297 = some o294) ?_ ?_
            · rintro a w ⟨S, H, hm⟩
              subst hK298
              refine region_plain ?_
              refine lx_q (.int .i64 x155) S trivial (by decide) (q_move rfl) (fun a S => ?_)
              refine lx_q (.int .i64 (W (x155 + (1 : Int)))) S trivial (by decide) (q_add rfl rfl) (fun a S => ?_)
              refine lx_q (.int .i64 (W (x155 + (1 : Int)))) S trivial (by decide) (q_assign rfl) (fun a S => ?_)
              refine lx_nil ?_
              exact ⟨m293, Nat.lt_succ_self _, (W (x155 + (1 : Int))), S.sub ⟨rfl, rfl, rfl, rfl, rfl, trivial⟩, H, it_cont hm hc295⟩
            · skip
              refine wp_block ?_
              refine wp_seq ?_
              refine wp_seq ?_
              refine region_plain ?_
              refine lx_q p2 S trivial (by decide) (q_move rfl) (fun a S => ?_)
              refine lx_q (.int .i64 x155) S trivial (by decide) (q_move rfl) (fun a S => ?_)
              obtain ⟨x299, e300, hm⟩ := bind_some hm
              obtain ⟨c301, h302, hat303⟩ := (h2).elem (idx_some e300).2
              obtain ⟨v304, rfl, h305⟩ := rd_list h302
              have hlt := lt_of_idx (idx_some e300).2
              refine lx_q (ePtr p2 (x155.toNat * 1)) S trivial (by decide) (q_indexAddr rfl (h2).isSl rfl (idx_some e300).1 hlt Try.underlying45 Try.sizeOf23) (fun a S => ?_)
              refine lx_e v304 S trivial (by decide) rfl trivial (q_load1 rfl Try.isAgg23 (by rintro _ rfl; exact ((hat303 0 _ rfl).ext H.ext))) (fun a S => ?_)
              refine lx_q (.int .i64 (x299.length : Int)) S trivial (by decide) (q_lenSl rfl (h305).isSl rfl Try.underlying23) (fun a S => ?_)
              refine lx_q (.bool ((x299.length : Int) == (0 : Int))) S trivial (by decide) (q_eql rfl rfl) (fun a S => ?_)
              refine lx_nil ?_
              refine thenN ?_
              refine cond_b S rfl (fun hc306 => ?_) (fun hc306 => ?_)
              · have hm := ite_t hc306 hm
                refine wp_exit ?_
                refine then_exit ?_
                refine inBlock_exit ?_
                exact ⟨S.sub ⟨rfl, rfl, rfl, rfl, rfl, trivial⟩, H, hm⟩
              · have hm := ite_f hc306 hm
                refine wp_skip ?_
                refine thenN ?_
                refine wp_seq ?_
                refine wp_seq ?_
                refine region_plain ?_
                refine lx_q p2 S trivial (by decide) (q_move rfl) (fun a S => ?_)
                refine lx_q (.int .i64 x155) S trivial (by decide) (q_move rfl) (fun a S => ?_)
                obtain ⟨x307, e308, hm⟩ := bind_some hm
                obtain ⟨c309, h310, hat311⟩ := (h2).elem (idx_some e308).2
                obtain ⟨v312, rfl, h313⟩ := rd_list h310
                have hlt := lt_of_idx (idx_some e308).2
                refine lx_q (ePtr p2 (x155.toNat * 1)) S trivial (by decide) (q_indexAddr rfl (h2).isSl rfl (idx_some e308).1 hlt Try.underlying45 Try.sizeOf23) (fun a S => ?_)
                refine lx_e v312 S trivial (by decide) rfl trivial (q_load1 rfl Try.isAgg23 (by rintro _ rfl; exact ((hat311 0 _ rfl).ext H.ext))) (fun a S => ?_)
                refine lx_q (.int .i64 (x307.length : Int)) S trivial (by decide) (q_lenSl rfl (h313).isSl rfl Try.underlying23) (fun a S => ?_)
                refine lx_q (.bool ((x307.length : Int) != (5 : Int))) S trivial (by decide) (q_neq rfl rfl) (fun a S => ?_)
                refine lx_nil ?_
                refine thenN ?_
                refine cond_b S rfl (fun hc314 => ?_) (fun hc314 => ?_)
                · have hm := ite_t hc314 hm
                  refine wp_seq ?_
                  refine region_plain ?_
                  refine lx_q (.bool false) S trivial (by decide) (q_assign rfl) (fun a S => ?_)
                  refine lx_nil ?_
                  refine thenN ?_
                  refine wp_ret ?_
                  refine then_ret ?_
                  refine inBlock_ret ?_
                  refine then_ret ?_
                  refine then_ret ?_
                  refine inBlock_ret ?_
                  refine then_ret ?_
                  refine then_ret ?_
                  obtain rfl := it_brk hm hc295
                  have hm := ctl_inr hk260
                  obtain rfl := Option.some.inj hm
                  have H : Heap w0 [] w := H.sel [] (by decide)
                  exact leave1 S rfl rfl ⟨rfl, H⟩
                · have hm := ite_f hc314 hm
                  refine wp_skip ?_
                  refine thenN ?_
                  refine wp_seq ?_
                  refine region_plain ?_
                  refine lx_q (.int .i64 (0 : Int)) S trivial (by decide) (q_assign rfl) (fun a S => ?_)
                  refine lx_nil ?_
                  refine thenN ?_
                  obtain ⟨res364, hit365, hk368⟩ := bind_some hm
                  obtain ⟨f366, hf367, hit365⟩ := iter_name hit365
                  refine block_loop (fun a w => Slots a 76 [(0, p0), (1, (.int .i64 a1)), (2, p2), (7, v52), (8, (.int .i64 x155))] ∧ Heap w0 [oA (rList (rInt .i64)) v52 x50] w ∧ res364 = .inl ()) ?_ ?_
                  · rintro a w ⟨S, H, rfl⟩
                    have hm := ctl_inl hk368
                    refine inBlock_norm ?_
                    exact ⟨S.sub ⟨rfl, rfl, rfl, rfl, rfl, trivial⟩, H, hm⟩
                  · skip
                    refine loop_ghost (fun n a w => ∃ (x339 : Int), Slots a 76 [(0, p0), (1, (.int .i64 a1)), (2, p2), (7, v52), (8, (.int .i64 x155)), (9, (.int .i64 x339))] ∧ Heap w0 [oA (rList (rInt .i64)) v52 x50] w ∧ iter f366 n (x339) = some res364) _ ⟨(0 : Int), S.sub ⟨rfl, rfl, rfl, rfl, rfl, rfl, trivial⟩, H, hit365⟩ ?_
                    rintro n a w ⟨x339, S, H, hit365⟩
                    obtain ⟨m369, o370, rfl, hm, hc371⟩ := iter_step hit365
                    rw [hf367] at hm
                    refine wp_seq ?_
                    refine wp_seq ?_
                    refine region_plain ?_
                    refine lx_q (.int .i64 x339) S trivial (by decide) (q_move rfl) (fun a S => ?_)
                    refine lx_q (.bool (decide (x339 < (5 : Int)))) S trivial (by decide) (q_lss rfl rfl) (fun a S => ?_)
                    refine lx_nil ?_
                    refine thenN ?_
                    refine cond_b S rfl (fun hc372 => ?_) (fun hc372 => ?_)
                    · have hm := ite_t hc372 hm
                      refine wp_skip ?_
                      refine thenN ?_
                      refine wp_seq ?_
                      refine wp_block ?_
                      refine wp_seq ?_
                      refine region_drawG (fun w1 => Heap w0 [oA (rList (rInt .i64)) v52 x50] w1) (fun i => [11].contains i) mixed (by kernel_rfl) (fun w374 he373 => ?_)
                      have H := H.later he373
                      refine ⟨H.sel [0] (by decide), ?_⟩
                      refine lx_q p2 S trivial (by decide) (q_move rfl) (fun a S => ?_)
                      refine lx_q (.int .i64 x155) S trivial (by decide) (q_move rfl) (fun a S => ?_)
                      obtain ⟨x375, e376, hm⟩ := bind_some hm
                      obtain ⟨c377, h378, hat379⟩ := (h2).elem (idx_some e376).2
                      obtain ⟨v380, rfl, h381⟩ := rd_list h378
                      have hlt := lt_of_idx (idx_some e376).2
                      refine lx_q (ePtr p2 (x155.toNat * 1)) S trivial (by decide) (q_indexAddr rfl (h2).isSl rfl (idx_some e376).1 hlt Try.underlying45 Try.sizeOf23) (fun a S => ?_)
                      refine lx_q v380 S trivial (by decide) (q_load1 rfl Try.isAgg23 (fun w1 hC => ((hat379 0 _ rfl).ext hC.ext))) (fun a S => ?_)
                      refine lx_q (.int .i64 x339) S trivial (by decide) (q_move rfl) (fun a S => ?_)
                      obtain ⟨x382, e383, hm⟩ := bind_some hm
                      obtain ⟨c384, h385, hat386⟩ := (h381).elem (idx_some e383).2
                      obtain rfl := h385
                      have hlt := lt_of_idx (idx_some e383).2
                      refine lx_q (ePtr v380 (x339.toNat * 1)) S trivial (by decide) (q_indexAddr rfl (h381).isSl rfl (idx_some e383).1 hlt Try.underlying23 Try.sizeOf2) (fun a S => ?_)
                      refine lx_q (.int .i64 x382) S trivial (by decide) (q_load1 rfl Try.isAgg2 (fun w1 hC => ((hat386 0 _ rfl).ext hC.ext))) (fun a S => ?_)
                      refine lx_q v52 S trivial (by decide) (q_move rfl) (fun a S => ?_)
                      refine lx_q (.int .i64 x339) S trivial (by decide) (q_move rfl) (fun a S => ?_)
                      obtain ⟨x387, e388, hm⟩ := bind_some hm
                      have hlt := lt_of_idx (idx_some e388).2
                      refine lx_q (ePtr v52 (x339.toNat * 1)) S trivial (by decide) (q_indexAddr rfl (H.isSl 0 rfl) rfl (idx_some e388).1 hlt Try.underlying23 Try.sizeOf2) (fun a S => ?_)
                      refine lx_q (.int .i64 x387) S trivial (by decide) (q_load1 rfl Try.isAgg2 (fun w1 hC => ((hC.rdAt 0 rfl).elemAt (j := 0) (idx_some e388).2 (by intro B w cs h; obtain rfl := h; rfl)))) (fun a S => ?_)
                      obtain ⟨x391, e392, hm⟩ := bind_some hm
                      refine lx_call (xs := [.tmp 57, .const (.int .i64 (0)), .tmp 61]) S trivial (by decide) rfl rfl Try.call54 ((spec_l00In_ok    e392).mono ?_)
                      rintro e w389 ⟨rfl, Hc390⟩
                      have he393 := Hc390.ext
                      have H := H.call0 Hc390
                      refine ⟨_, rfl, H.sel [0] (by decide), fun a S => ?_⟩
                      refine lx_q (.bool (!x391)) S trivial (by decide) (q_not rfl) (fun a S => ?_)
                      refine lx_nil ?_
                      refine thenN ?_
                      refine cond_b S rfl (fun hc394 => ?_) (fun hc394 => ?_)
                      · have hm := ite_t hc394 hm
                        refine wp_seq ?_
                        refine region_plain ?_
                        refine lx_q (.bool false) S trivial (by decide) (q_assign rfl) (fun a S => ?_)
                        refine lx_nil ?_
                        refine thenN ?_
                        refine wp_ret ?_
                        refine inBlock_ret ?_
                        refine then_ret ?_
                        refine then_ret ?_
                        refine inBlock_ret ?_
                        refine then_ret ?_
                        refine inBlock_ret ?_
                        refine then_ret ?_
                        refine then_ret ?_
                        refine inBlock_ret ?_
                        refine then_ret ?_
                        refine then_ret ?_
                        obtain rfl := it_brk hm hc371
                        have hm := ctl_inr hk368
                        obtain rfl := it_brk hm hc295
                        have hm := ctl_inr hk260
                        obtain rfl := Option.some.inj hm
                        have H : Heap w0 [] w389 := H.sel [] (by decide)
                        exact leave1 S rfl rfl ⟨rfl, H⟩
                      · have hm := ite_f hc394 hm
                        refine wp_skip ?_
                        refine inBlock_norm ?_
                        refine thenN ?_
                        refine region_plain ?_
                        refine lx_q (.int .i64 x339) S trivial (by decide) (q_move rfl) (fun a S => ?_)
                        refine lx_q (.int .i64 (W (x339 + (1 : Int)))) S trivial (by decide) (q_add rfl rfl) (fun a S => ?_)
                        refine lx_q (.int .i64 (W (x339 + (1 : Int)))) S trivial (by decide) (q_assign rfl) (fun a S => ?_)
                        refine lx_nil ?_
                        exact ⟨m369, Nat.lt_succ_self _, (W (x339 + (1 : Int))), S.sub ⟨rfl, rfl, rfl, rfl, rfl, rfl, trivial⟩, H, it_cont hm hc371⟩
                    · have hm := ite_f hc372 hm
                      refine wp_exit ?_
                      refine then_exit ?_
                      refine then_exit ?_
                      refine inBlock_exit ?_
                      obtain rfl := it_brk hm hc371
                      exact ⟨S.sub ⟨rfl, rfl, rfl, rfl, rfl, trivial⟩, H, rfl⟩
          · have hm := ite_f hc296 hm
            refine wp_exit ?_
            refine then_exit ?_
            refine then_exit ?_
            refine inBlock_exit ?_
            obtain rfl := it_brk hm hc295
            have H : Heap w0 [] w := H.sel [] (by decide)
            exact ⟨S.sub ⟨rfl, rfl, rfl, trivial⟩, H, rfl⟩

/-- slices.IndexFunc[[][]int64,[]int64] -/
def slices_IndexFunc___int64__int64_m (fuel : Nat) (a0 : (List (List Int))) (a1 : ((List Int) → Option Bool)) : Option (Int) :=
  (iter (fun (s : (Int)) => (match s with | (x48) => (if (decide (x48 < (a0.length : Int))) = true then (idx a0 x48).bind fun x75 => (a1 x75).bind fun x86 => (if x86 = true then some (.inr (.inr x48)) else some (.inl ((W (x48 + (1 : Int)))))) else some (.inr (.inl ()))) : Option (((Int)) ⊕ ((Unit) ⊕ (Int))))) fuel ((0 : Int))).bind fun res66 => ctl (β := Unit) (ρ := Int) (τ := Int) res66 (fun _ => some ((-1 : Int))) (fun q => some (q))
set_option maxRecDepth 20000 in
theorem slices_IndexFunc___int64__int64_ok {w0 : World} {fuel : Nat} {p0 : Value} {a0 : (List (List Int))} {a1 : ((List Int) → Option Bool)} {f1 : Nat} {fs1 cp1 : List Value} {r : Int} (h0 : Rd (rList (rList (rInt .i64))) w0 p0 a0) (hcf1 : ∀ args w, (callFunc f1 args).run Try.prog w = .ok (.enter f1 args) w) (hf1 : ∀ {w : World} {x0_ : (List Int)} {v0_ : Value} {y : Bool}, Ext w0 w → Rd (rList (rInt .i64)) w v0_ x0_ → a1 x0_ = some y → Calls Try.prog f1 (fs1 ++ ([v0_] : List Value) ++ cp1).toArray w fun e w' => e = .returned (.bool y) ∧ Heap w [] w') (hm : slices_IndexFunc___int64__int64_m fuel a0 a1 = some r) :
    Calls Try.prog 126 #[p0, .func (.func f1) fs1.toArray cp1.toArray] w0 fun e w => e = .returned (.int .i64 r) ∧ Heap w0 [] w := by
  unfold slices_IndexFunc___int64__int64_m at hm
  have H := Heap.start w0
  refine enter (args := [p0, .func (.func f1) fs1.toArray cp1.toArray]) Try.func126 rfl 19 rfl (Nat.le_of_ble_eq_true rfl) (fun a S => ?_)
  refine wp_seq ?_
  refine region_plain ?_
  refine lx_q (.int .i64 (0 : Int)) S trivial (by decide) (q_assign rfl) (fun a S => ?_)
  refine lx_nil ?_
  refine thenN ?_
  refine wp_seq ?_
  refine wp_seq ?_
  refine region_plain ?_
  refine lx_q p0 S trivial (by decide) (q_move rfl) (fun a S => ?_)
  refine lx_q (.int .i64 (a0.length : Int)) S trivial (by decide) (q_lenSl rfl (h0).isSl rfl Try.underlying45) (fun a S => ?_)
  refine lx_q (.int .i64 (0 : Int)) S trivial (by decide) (q_move rfl) (fun a S => ?_)
  refine lx_nil ?_
  refine thenN ?_
  obtain ⟨res66, hit67, hk70⟩ := bind_some hm
  obtain ⟨f68, hf69, hit67⟩ := iter_name hit67
  refine block_loop (fun a w => Slots a 19 [] ∧ Heap w0 [] w ∧ res66 = .inl ()) ?_ ?_
  · rintro a w ⟨S, H, rfl⟩
    have hm := ctl_inl hk70
    refine thenN ?_
    refine wp_seq ?_
    refine region_plain ?_
    refine lx_q (.int .i64 (-1 : Int)) S trivial (by decide) (q_assign rfl) (fun a S => ?_)
    refine lx_nil ?_
    refine thenN ?_
    refine wp_ret ?_
    obtain rfl := Option.some.inj hm
    exact leave1 S rfl rfl ⟨rfl, H⟩
  · skip
    refine loop_ghost (fun n a w => ∃ (x48 : Int), Slots a 19 [(0, p0), (1, (.func (.func f1) fs1.toArray cp1.toArray)), (7, (.int .i64 (a0.length : Int))), (8, (.int .i64 x48))] ∧ Heap w0 [] w ∧ iter f68 n (x48) = some res66) _ ⟨(0 : Int), S.sub ⟨rfl, rfl, rfl, rfl, trivial⟩, H, hit67⟩ ?_
    rintro n a w ⟨x48, S, H, hit67⟩
    obtain ⟨m71, o72, rfl, hm, hc73⟩ := iter_step hit67
    rw [hf69] at hm
    refine wp_seq ?_
    refine region_plain ?_
    refine lx_q (.bool (decide (x48 < (a0.length : Int)))) S trivial (by decide) (q_lss rfl rfl) (fun a S => ?_)
    refine lx_nil ?_
    refine thenN ?_
    refine wp_seq ?_
    refine cond_b S rfl (fun hc74 => ?_) (fun hc74 => ?_)
    · have hm := ite_t hc74 hm
      refine wp_skip ?_
      refine thenN ?_
      refine wp_seq ?_
      refine wp_block ?_
      refine wp_seq ?_
      refine region_plain ?_
      refine lx_q (.int .i64 x48) S trivial (by decide) (q_move rfl) (fun a S => ?_)
      refine lx_q (.int .i64 x48) S trivial (by decide) (q_assign rfl) (fun a S => ?_)
      refine lx_nil ?_
      refine thenN ?_
      refine wp_seq ?_
      refine region_plain ?_
      refine lx_q (.func (.func f1) fs1.toArray cp1.toArray) S trivial (by decide) (q_move rfl) (fun a S => ?_)
      refine lx_q p0 S trivial (by decide) (q_move rfl) (fun a S => ?_)
      refine lx_q (.int .i64 x48) S trivial (by decide) (q_move rfl) (fun a S => ?_)
      obtain ⟨x75, e76, hm⟩ := bind_some hm
      obtain ⟨c77, h78, hat79⟩ := (h0).elem (idx_some e76).2
      obtain ⟨v80, rfl, h81⟩ := rd_list h78
      have hlt := lt_of_idx (idx_some e76).2
      refine lx_q (ePtr p0 (x48.toNat * 1)) S trivial (by decide) (q_indexAddr rfl (h0).isSl rfl (idx_some e76).1 hlt Try.underlying45 Try.sizeOf23) (fun a S => ?_)
      refine lx_e v80 S trivial (by decide) rfl trivial (q_load1 rfl Try.isAgg23 (by rintro _ rfl; exact ((hat79 0 _ rfl).ext H.ext))) (fun a S => ?_)
      obtain ⟨x86, e87, hm⟩ := bind_some hm
      refine lx_callV (f := f1) (first := fs1) (cap := cp1) (xs := [.tmp 15]) S trivial (by decide) rfl rfl rfl hcf1 ((hf1 H.ext (H.arg h81) e87).mono ?_)
      rintro e w84 ⟨rfl, Hc85⟩
      have he88 := Hc85.ext
      have H := H.call0 Hc85
      refine ⟨_, rfl, trivial, fun a S => ?_⟩
      refine lx_nil ?_
      refine thenN ?_
      refine cond_b S rfl (fun hc89 => ?_) (fun hc89 => ?_)
      · have hm := ite_t hc89 hm
        refine wp_seq ?_
        refine region_plain ?_
        refine lx_q (.int .i64 x48) S trivial (by decide) (q_move rfl) (fun a S => ?_)
        refine lx_q (.int .i64 x48) S trivial (by decide) (q_assign rfl) (fun a S => ?_)
        refine lx_nil ?_
        refine thenN ?_
        refine wp_ret ?_
        refine inBlock_ret ?_
        refine then_ret ?_
        refine then_ret ?_
        refine inBlock_ret ?_
        refine then_ret ?_
        refine then_ret ?_
        obtain rfl := it_brk hm hc73
        have hm := ctl_inr hk70
        obtain rfl := Option.some.inj hm
        exact leave1 S rfl rfl ⟨rfl, H⟩
      · have hm := ite_f hc89 hm
        refine wp_skip ?_
        refine inBlock_norm ?_
        refine thenN ?_
        refine region_plain ?_
        refine lx_q (.int .i64 (W (x48 + (1 : Int)))) S trivial (by decide) (q_add rfl rfl) (fun a S => ?_)
        refine lx_q (.int .i64 (W (x48 + (1 : Int)))) S trivial (by decide) (q_move rfl) (fun a S => ?_)
        refine lx_nil ?_
        exact ⟨m71, Nat.lt_succ_self _, (W (x48 + (1 : Int))), S.sub ⟨rfl, rfl, rfl, rfl, trivial⟩, H, it_cont hm hc73⟩
    · have hm := ite_f hc74 hm
      refine wp_exit ?_
      refine then_exit ?_
      refine then_exit ?_
      refine inBlock_exit ?_
      obtain rfl := it_brk hm hc73
      exact ⟨S.sub trivial, H, rfl⟩

/-- slices.ContainsFunc[[][]int64,[]int64] -/
def slices_ContainsFunc___int64__int64_m (fuel : Nat) (a0 : (List (List Int))) (a1 : ((List Int) → Option Bool)) : Option (Bool) :=
  (slices_IndexFunc___int64__int64_m fuel a0 a1).bind fun x33 => some ((decide ((0 : Int) ≤ x33)))
set_option maxRecDepth 20000 in
theorem slices_ContainsFunc___int64__int64_ok {w0 : World} {fuel : Nat} {p0 : Value} {a0 : (List (List Int))} {a1 : ((List Int) → Option Bool)} {f1 : Nat} {fs1 cp1 : List Value} {r : Bool} (h0 : Rd (rList (rList (rInt .i64))) w0 p0 a0) (hcf1 : ∀ args w, (callFunc f1 args).run Try.prog w = .ok (.enter f1 args) w) (hf1 : ∀ {w : World} {x0_ : (List Int)} {v0_ : Value} {y : Bool}, Ext w0 w → Rd (rList (rInt .i64)) w v0_ x0_ → a1 x0_ = some y → Calls Try.prog f1 (fs1 ++ ([v0_] : List Value) ++ cp1).toArray w fun e w' => e = .returned (.bool y) ∧ Heap w [] w') (hm : slices_ContainsFunc___int64__int64_m fuel a0 a1 = some r) :
    Calls Try.prog 82 #[p0, .func (.func f1) fs1.toArray cp1.toArray] w0 fun e w => e = .returned (.bool r) ∧ Heap w0 [] w := by
  unfold slices_ContainsFunc___int64__int64_m at hm
  have H := Heap.start w0
  refine enter (args := [p0, .func (.func f1) fs1.toArray cp1.toArray]) Try.func82 rfl 9 rfl (Nat.le_of_ble_eq_true rfl) (fun a S => ?_)
  refine wp_seq ?_
  refine region_plain ?_
  refine lx_q (.bool false) S trivial (by decide) (q_assign rfl) (fun a S => ?_)
  refine lx_nil ?_
  refine thenN ?_
  refine wp_seq ?_
  refine region_plain ?_
  refine lx_q p0 S trivial (by decide) (q_move rfl) (fun a S => ?_)
  refine lx_q (.func (.func f1) fs1.toArray cp1.toArray) S trivial (by decide) (q_move rfl) (fun a S => ?_)
  obtain ⟨x33, e34, hm⟩ := bind_some hm
  refine lx_call (xs := [.tmp 5, .tmp 6]) S trivial (by decide) rfl rfl Try.call126 ((slices_IndexFunc___int64__int64_ok (f1 := f1) (fs1 := fs1) (cp1 := cp1) (a1 := a1) (H.arg h0) hcf1 (fun he h0_ hm => hf1 (H.ext.trans he) h0_ hm) e34).mono ?_)
  rintro e w31 ⟨rfl, Hc32⟩
  have he35 := Hc32.ext
  have H := H.call0 Hc32
  refine ⟨_, rfl, trivial, fun a S => ?_⟩
  refine lx_q (.bool (decide ((0 : Int) ≤ x33))) S trivial (by decide) (q_geq rfl rfl) (fun a S => ?_)
  refine lx_q (.bool (decide ((0 : Int) ≤ x33))) S trivial (by decide) (q_assign rfl) (fun a S => ?_)
  refine lx_nil ?_
  refine thenN ?_
  refine wp_ret ?_
  obtain rfl := Option.some.inj hm
  exact leave1 S rfl rfl ⟨rfl, H⟩

/-- (*impl.measured).bad -/
def Pimpl_measured_bad_m (_ : Nat) (a0 : Timpl_measured) (a1 : Int) : Option (Int) :=
  some ((W ((W ((W ((2 : Int) * a1)) + (1 : Int))) - a0.2.1)))
set_option maxRecDepth 20000 in
theorem Pimpl_measured_bad_ok {w0 : World} {fuel : Nat} {p0 : Value} {a0 : Timpl_measured} {a1 : Int} {r : Int} (h0 : Rd (rPtr Rimpl_measured) w0 p0 a0) (hm : Pimpl_measured_bad_m fuel a0 a1 = some r) :
    Calls Try.prog 146 #[p0, .int .i64 a1] w0 fun e w => e = .returned (.int .i64 r) ∧ Heap w0 [] w := by
  unfold Pimpl_measured_bad_m at hm
  have H := Heap.start w0
  obtain ⟨c31, h32, hat33⟩ := h0.ptr
  obtain ⟨c36, c37, rfl, h38, h39⟩ := h32
  obtain ⟨v34, rfl, h35⟩ := rd_list h38
  obtain ⟨c40, c41, rfl, h42, h43⟩ := h39
  obtain rfl := h42
  obtain ⟨c44, c45, rfl, h46, h47⟩ := h43
  obtain rfl := h46
  obtain ⟨c48, c49, rfl, h50, h51⟩ := h47
  obtain rfl := h50
  obtain ⟨c52, c53, rfl, h54, h55⟩ := h51
  obtain rfl := h54
  obtain ⟨c56, c57, rfl, h58, h59⟩ := h55
  obtain rfl := h58
  obtain rfl := h59
  refine enter (args := [p0, .int .i64 a1]) Try.func146 rfl 13 rfl (Nat.le_of_ble_eq_true rfl) (fun a S => ?_)
  refine wp_seq ?_
  refine region_plain ?_
  refine lx_q (.int .i64 (0 : Int)) S trivial (by decide) (q_assign rfl) (fun a S => ?_)
  refine lx_nil ?_
  refine thenN ?_
  refine wp_seq ?_
  refine region_plain ?_
  refine lx_q (.int .i64 a1) S trivial (by decide) (q_move rfl) (fun a S => ?_)
  refine lx_q (.int .i64 (W ((2 : Int) * a1))) S trivial (by decide) (q_mul rfl rfl) (fun a S => ?_)
  refine lx_q (.int .i64 (W ((W ((2 : Int) * a1)) + (1 : Int)))) S trivial (by decide) (q_add rfl rfl) (fun a S => ?_)
  refine lx_q p0 S trivial (by decide) (q_move rfl) (fun a S => ?_)
  refine lx_q p0 S trivial (by decide) (q_nilCheck rfl ((hat33 0 _ rfl).isP)) (fun a S => ?_)
  refine lx_q (pAdd p0 1) S trivial (by decide) (q_fieldAddr' 1 2 rfl ((hat33 0 _ rfl).isP) Try.underlying130 rfl Try.sizeOf2) (fun a S => ?_)
  refine lx_e (.int .i64 a0.2.1) S trivial (by decide) rfl trivial (q_load1 rfl Try.isAgg2 (by rintro _ rfl; exact (At.of_add (m := 1) (j := 0) ((hat33 1 _ rfl).ext H.ext)))) (fun a S => ?_)
  refine lx_q (.int .i64 (W ((W ((W ((2 : Int) * a1)) + (1 : Int))) - a0.2.1))) S trivial (by decide) (q_sub rfl rfl) (fun a S => ?_)
  refine lx_q (.int .i64 (W ((W ((W ((2 : Int) * a1)) + (1 : Int))) - a0.2.1))) S trivial (by decide) (q_assign rfl) (fun a S => ?_)
  refine lx_nil ?_
  refine thenN ?_
  refine wp_ret ?_
  obtain rfl := Option.some.inj hm
  exact leave1 S rfl rfl ⟨rfl, H⟩

/-- (*impl.measured).upTo -/
def Pimpl_measured_upTo_m (fuel : Nat) (a0 : Timpl_measured) (a1 : Int) : Option (Int) :=
  (iter (fun (s : (Int)) => (match s with | (x70) => (if (decide (x70 < (5 : Int))) = true then (Pimpl_measured_bad_m fuel a0 x70).bind fun x95 => some (decide (x95 ≤ a1)) else some false).bind fun t90 => (if t90 = true then some (.inl ((W (x70 + (1 : Int))))) else some (.inr (.inl (x70)))) : Option (((Int)) ⊕ ((Int) ⊕ (Int))))) fuel ((0 : Int))).bind fun res82 => ctl (β := Int) (ρ := Int) (τ := Int) res82 (fun (x81) => some (x81)) (fun q => some (q))
set_option maxRecDepth 20000 in
theorem Pimpl_measured_upTo_ok {w0 : World} {fuel : Nat} {p0 : Value} {a0 : Timpl_measured} {a1 : Int} {r : Int} (h0 : Rd (rPtr Rimpl_measured) w0 p0 a0) (hm : Pimpl_measured_upTo_m fuel a0 a1 = some r) :
    Calls Try.prog 127 #[p0, .int .i64 a1] w0 fun e w => e = .returned (.int .i64 r) ∧ Heap w0 [] w := by
  unfold Pimpl_measured_upTo_m at hm
  have H := Heap.start w0
  obtain ⟨c31, h32, hat33⟩ := h0.ptr
  obtain ⟨c36, c37, rfl, h38, h39⟩ := h32
  obtain ⟨v34, rfl, h35⟩ := rd_list h38
  obtain ⟨c40, c41, rfl, h42, h43⟩ := h39
  obtain rfl := h42
  obtain ⟨c44, c45, rfl, h46, h47⟩ := h43
  obtain rfl := h46
  obtain ⟨c48, c49, rfl, h50, h51⟩ := h47
  obtain rfl := h50
  obtain ⟨c52, c53, rfl, h54, h55⟩ := h51
  obtain rfl := h54
  obtain ⟨c56, c57, rfl, h58, h59⟩ := h55
  obtain rfl := h58
  obtain rfl := h59
  refine enter (args := [p0, .int .i64 a1]) Try.func127 rfl 18 rfl (Nat.le_of_ble_eq_true rfl) (fun a S => ?_)
  refine wp_seq ?_
  refine region_plain ?_
  refine lx_q (.int .i64 (0 : Int)) S trivial (by decide) (q_assign rfl) (fun a S => ?_)
  refine lx_nil ?_
  refine thenN ?_
  refine wp_seq ?_
  refine region_plain ?_
  refine lx_q (.int .i64 (0 : Int)) S trivial (by decide) (q_assign rfl) (fun a S => ?_)
  refine lx_nil ?_
  refine thenN ?_
  refine wp_seq ?_
  obtain ⟨res82, hit83, hk86⟩ := bind_some hm
  obtain ⟨f84, hf85, hit83⟩ := iter_name hit83
  refine block_loop (fun a w => ∃ (x81 : Int), Slots a 18 [(5, (.int .i64 x81))] ∧ Heap w0 [] w ∧ res82 = .inl (x81)) ?_ ?_
  · rintro a w ⟨x81, S, H, rfl⟩
    have hm := ctl_inl hk86
    refine thenN ?_
    refine wp_seq ?_
    refine region_plain ?_
    refine lx_q (.int .i64 x81) S trivial (by decide) (q_move rfl) (fun a S => ?_)
    refine lx_q (.int .i64 x81) S trivial (by decide) (q_assign rfl) (fun a S => ?_)
    refine lx_nil ?_
    refine thenN ?_
    refine wp_ret ?_
    obtain rfl := Option.some.inj hm
    exact leave1 S rfl rfl ⟨rfl, H⟩
  · skip
    refine loop_ghost (fun n a w => ∃ (x70 : Int), Slots a 18 [(0, p0), (1, (.int .i64 a1)), (5, (.int .i64 x70))] ∧ Heap w0 [] w ∧ iter f84 n (x70) = some res82) _ ⟨(0 : Int), S.sub ⟨rfl, rfl, rfl, trivial⟩, H, hit83⟩ ?_
    rintro n a w ⟨x70, S, H, hit83⟩
    obtain ⟨m87, o88, rfl, hm, hc89⟩ := iter_step hit83
    rw [hf85] at hm
    refine wp_seq ?_
    refine wp_seq ?_
    refine region_plain ?_
    refine lx_q (.int .i64 x70) S trivial (by decide) (q_move rfl) (fun a S => ?_)
    refine lx_q (.bool (decide (x70 < (5 : Int)))) S trivial (by decide) (q_lss rfl rfl) (fun a S => ?_)
    refine lx_q (.bool (decide (x70 < (5 : Int)))) S trivial (by decide) (q_move rfl) (fun a S => ?_)
    obtain ⟨t90, e91, hm⟩ := bind_some hm
    refine lx_cut 6 (fun a w => Slots a 18 [(0, p0), (1, (.int .i64 a1)), (5, (.int .i64 x70)), (14, (.bool t90))] ∧ Heap w0 [] w) ?_ ?_
    · by_cases hc92 : (decide (x70 < (5 : Int))) = true
      · have hm := ite_t hc92 e91
        refine lx_q p0 S (want_b rfl rfl hc92) (by decide) (q_move rfl) (fun a S => ?_)
        refine lx_q (.int .i64 x70) S (want_b rfl rfl hc92) (by decide) (q_move rfl) (fun a S => ?_)
        obtain ⟨x95, e96, hm⟩ := bind_some hm
        refine lx_call (xs := [.tmp 9, .tmp 10]) S (want_b rfl rfl hc92) (by decide) rfl rfl Try.call146 ((Pimpl_measured_bad_ok (H.arg h0)  e96).mono ?_)
        rintro e w93 ⟨rfl, Hc94⟩
        have he97 := Hc94.ext
        have H := H.call0 Hc94
        refine ⟨_, rfl, trivial, fun a S => ?_⟩
        refine lx_q (.int .i64 a1) S (want_b rfl rfl hc92) (by decide) (q_move rfl) (fun a S => ?_)
        refine lx_q (.bool (decide (x95 ≤ a1))) S (want_b rfl rfl hc92) (by decide) (q_leq rfl rfl) (fun a S => ?_)
        refine lx_q (.bool (decide (x95 ≤ a1))) S trivial (by decide) (q_pickT' rfl hc92 rfl) (fun a S => ?_)
        refine lx_nil ?_
        obtain rfl := Option.some.inj hm
        exact ⟨S.sub ⟨rfl, rfl, rfl, rfl, trivial⟩, H⟩
      · have hm := ite_f (eq_false_of_ne_true hc92) e91
        have hc92 : (decide (x70 < (5 : Int))) = false := eq_false_of_ne_true hc92
        refine lx_skip S rfl rfl (isB_ne hc92) (by decide) (fun a S => ?_)
        refine lx_skip S rfl rfl (isB_ne hc92) (by decide) (fun a S => ?_)
        refine lx_skip S rfl rfl (isB_ne hc92) (by decide) (fun a S => ?_)
        refine lx_skip S rfl rfl (isB_ne hc92) (by decide) (fun a S => ?_)
        refine lx_skip S rfl rfl (isB_ne hc92) (by decide) (fun a S => ?_)
        refine lx_q (.bool false) S trivial (by decide) (q_pickF' rfl hc92 rfl) (fun a S => ?_)
        refine lx_nil ?_
        obtain rfl := Option.some.inj hm
        exact ⟨S.sub ⟨rfl, rfl, rfl, rfl, trivial⟩, H⟩
    · rintro a w ⟨S, H⟩
      refine lx_nil ?_
      refine thenN ?_
      refine cond_b S rfl (fun hc98 => ?_) (fun hc98 => ?_)
      · have hm := ite_t hc98 hm
        refine wp_skip ?_
        refine thenN ?_
        refine wp_block ?_
        refine region_plain ?_
        refine lx_q (.int .i64 x70) S trivial (by decide) (q_move rfl) (fun a S => ?_)
        refine lx_q (.int .i64 (W (x70 + (1 : Int)))) S trivial (by decide) (q_add rfl rfl) (fun a S => ?_)
        refine lx_q (.int .i64 (W (x70 + (1 : Int)))) S trivial (by decide) (q_assign rfl) (fun a S => ?_)
        refine lx_nil ?_
        refine inBlock_norm ?_
        exact ⟨m87, Nat.lt_succ_self _, (W (x70 + (1 : Int))), S.sub ⟨rfl, rfl, rfl, trivial⟩, H, it_cont hm hc89⟩
      · have hm := ite_f hc98 hm
        refine wp_exit ?_
        refine then_exit ?_
        refine then_exit ?_
        refine inBlock_exit ?_
        obtain rfl := it_brk hm hc89
        exact ⟨x70, S.sub ⟨rfl, trivial⟩, H, rfl⟩

/-- cmp.isNaN[int64] -/
def cmp_isNaN_int64_m (_ : Nat) (a0 : Int) : Option (Bool) :=
  some ((a0 != a0))
set_option maxRecDepth 20000 in
theorem cmp_isNaN_int64_ok {w0 : World} {fuel : Nat} {a0 : Int} {r : Bool} (hm : cmp_isNaN_int64_m fuel a0 = some r) :
    Calls Try.prog 138 #[.int .i64 a0] w0 fun e w => e = .returned (.bool r) ∧ Heap w0 [] w := by
  unfold cmp_isNaN_int64_m at hm
  have H := Heap.start w0
  refine enter (args := [.int .i64 a0]) Try.func138 rfl 6 rfl (Nat.le_of_ble_eq_true rfl) (fun a S => ?_)
  refine wp_seq ?_
  refine region_plain ?_
  refine lx_q (.bool false) S trivial (by decide) (q_assign rfl) (fun a S => ?_)
  refine lx_nil ?_
  refine thenN ?_
  refine wp_seq ?_
  refine region_plain ?_
  refine lx_q (.int .i64 a0) S trivial (by decide) (q_move rfl) (fun a S => ?_)
  refine lx_q (.int .i64 a0) S trivial (by decide) (q_move rfl) (fun a S => ?_)
  refine lx_q (.bool (a0 != a0)) S trivial (by decide) (q_neq rfl rfl) (fun a S => ?_)
  refine lx_q (.bool (a0 != a0)) S trivial (by decide) (q_assign rfl) (fun a S => ?_)
  refine lx_nil ?_
  refine thenN ?_
  refine wp_ret ?_
  obtain rfl := Option.some.inj hm
  exact leave1 S rfl rfl ⟨rfl, H⟩

/-- cmp.Compare[int64] -/
def cmp_Compare_int64_m (fuel : Nat) (a0 : Int) (a1 : Int) : Option (Int) :=
  (cmp_isNaN_int64_m fuel a0).bind fun x33 => (cmp_isNaN_int64_m fuel a1).bind fun x38 => (if x33 = true then (if x38 = true then some ((0 : Int)) else some ((-1 : Int))) else (if x38 = true then some ((1 : Int)) else (if (decide (a0 < a1)) = true then some ((-1 : Int)) else (if (decide (a1 < a0)) = true then some ((1 : Int)) else some ((0 : Int))))))
set_option maxRecDepth 20000 in
theorem cmp_Compare_int64_ok {w0 : World} {fuel : Nat} {a0 : Int} {a1 : Int} {r : Int} (hm : cmp_Compare_int64_m fuel a0 a1 = some r) :
    Calls Try.prog 108 #[.int .i64 a0, .int .i64 a1] w0 fun e w => e = .returned (.int .i64 r) ∧ Heap w0 [] w := by
  unfold cmp_Compare_int64_m at hm
  have H := Heap.start w0
  refine enter (args := [.int .i64 a0, .int .i64 a1]) Try.func108 rfl 20 rfl (Nat.le_of_ble_eq_true rfl) (fun a S => ?_)
  refine wp_seq ?_
  refine region_plain ?_
  refine lx_q (.int .i64 (0 : Int)) S trivial (by decide) (q_assign rfl) (fun a S => ?_)
  refine lx_nil ?_
  refine thenN ?_
  refine wp_seq ?_
  refine region_plain ?_
  refine lx_q (.int .i64 a0) S trivial (by decide) (q_move rfl) (fun a S => ?_)
  obtain ⟨x33, e34, hm⟩ := bind_some hm
  refine lx_call (xs := [.tmp 7]) S trivial (by decide) rfl rfl Try.call138 ((cmp_isNaN_int64_ok  e34).mono ?_)
  rintro e w31 ⟨rfl, Hc32⟩
  have he35 := Hc32.ext
  have H := H.call0 Hc32
  refine ⟨_, rfl, trivial, fun a S => ?_⟩
  refine lx_q (.bool x33) S trivial (by decide) (q_assign rfl) (fun a S => ?_)
  refine lx_nil ?_
  refine thenN ?_
  refine wp_seq ?_
  refine region_plain ?_
  refine lx_q (.int .i64 a1) S trivial (by decide) (q_move rfl) (fun a S => ?_)
  obtain ⟨x38, e39, hm⟩ := bind_some hm
  refine lx_call (xs := [.tmp 9]) S trivial (by decide) rfl rfl Try.call138 ((cmp_isNaN_int64_ok  e39).mono ?_)
  rintro e w36 ⟨rfl, Hc37⟩
  have he40 := Hc37.ext
  have H := H.call0 Hc37
  refine ⟨_, rfl, trivial, fun a S => ?_⟩
  refine lx_q (.bool x38) S trivial (by decide) (q_assign rfl) (fun a S => ?_)
  refine lx_nil ?_
  refine thenN ?_
  refine wp_seq ?_
  refine wp_seq ?_
  refine region_plain ?_
  refine lx_q (.bool x33) S trivial (by decide) (q_move rfl) (fun a S => ?_)
  refine lx_nil ?_
  refine thenN ?_
  refine cond_b S rfl (fun hc41 => ?_) (fun hc41 => ?_)
  · have hm := ite_t hc41 hm
    refine wp_seq ?_
    refine wp_seq ?_
    refine region_plain ?_
    refine lx_q (.bool x38) S trivial (by decide) (q_move rfl) (fun a S => ?_)
    refine lx_nil ?_
    refine thenN ?_
    refine cond_b S rfl (fun hc42 => ?_) (fun hc42 => ?_)
    · have hm := ite_t hc42 hm
      refine wp_seq ?_
      refine region_plain ?_
      refine lx_q (.int .i64 (0 : Int)) S trivial (by decide) (q_assign rfl) (fun a S => ?_)
      refine lx_nil ?_
      refine thenN ?_
      refine wp_ret ?_
      refine then_ret ?_
      refine then_ret ?_
      obtain rfl := Option.some.inj hm
      exact leave1 S rfl rfl ⟨rfl, H⟩
    · have hm := ite_f hc42 hm
      refine wp_skip ?_
      refine thenN ?_
      refine wp_seq ?_
      refine region_plain ?_
      refine lx_q (.int .i64 (-1 : Int)) S trivial (by decide) (q_assign rfl) (fun a S => ?_)
      refine lx_nil ?_
      refine thenN ?_
      refine wp_ret ?_
      refine then_ret ?_
      obtain rfl := Option.some.inj hm
      exact leave1 S rfl rfl ⟨rfl, H⟩
  · have hm := ite_f hc41 hm
    refine wp_skip ?_
    refine thenN ?_
    refine wp_seq ?_
    refine wp_seq ?_
    refine region_plain ?_
    refine lx_q (.bool x38) S trivial (by decide) (q_move rfl) (fun a S => ?_)
    refine lx_nil ?_
    refine thenN ?_
    refine cond_b S rfl (fun hc43 => ?_) (fun hc43 => ?_)
    · have hm := ite_t hc43 hm
      refine wp_seq ?_
      refine region_plain ?_
      refine lx_q (.int .i64 (1 : Int)) S trivial (by decide) (q_assign rfl) (fun a S => ?_)
      refine lx_nil ?_
      refine thenN ?_
      refine wp_ret ?_
      refine then_ret ?_
      obtain rfl := Option.some.inj hm
      exact leave1 S rfl rfl ⟨rfl, H⟩
    · have hm := ite_f hc43 hm
      refine wp_skip ?_
      refine thenN ?_
      refine wp_seq ?_
      refine wp_seq ?_
      refine region_plain ?_
      refine lx_q (.int .i64 a0) S trivial (by decide) (q_move rfl) (fun a S => ?_)
      refine lx_q (.int .i64 a1) S trivial (by decide) (q_move rfl) (fun a S => ?_)
      refine lx_q (.bool (decide (a0 < a1))) S trivial (by decide) (q_lss rfl rfl) (fun a S => ?_)
      refine lx_nil ?_
      refine thenN ?_
      refine cond_b S rfl (fun hc44 => ?_) (fun hc44 => ?_)
      · have hm := ite_t hc44 hm
        refine wp_seq ?_
        refine region_plain ?_
        refine lx_q (.int .i64 (-1 : Int)) S trivial (by decide) (q_assign rfl) (fun a S => ?_)
        refine lx_nil ?_
        refine thenN ?_
        refine wp_ret ?_
        refine then_ret ?_
        obtain rfl := Option.some.inj hm
        exact leave1 S rfl rfl ⟨rfl, H⟩
      · have hm := ite_f hc44 hm
        refine wp_skip ?_
        refine thenN ?_
        refine wp_seq ?_
        refine wp_seq ?_
        refine region_plain ?_
        refine lx_q (.int .i64 a0) S trivial (by decide) (q_move rfl) (fun a S => ?_)
        refine lx_q (.int .i64 a1) S trivial (by decide) (q_move rfl) (fun a S => ?_)
        refine lx_q (.bool (decide (a1 < a0))) S trivial (by decide) (q_gtr rfl rfl) (fun a S => ?_)
        refine lx_nil ?_
        refine thenN ?_
        refine cond_b S rfl (fun hc45 => ?_) (fun hc45 => ?_)
        · have hm := ite_t hc45 hm
          refine wp_seq ?_
          refine region_plain ?_
          refine lx_q (.int .i64 (1 : Int)) S trivial (by decide) (q_assign rfl) (fun a S => ?_)
          refine lx_nil ?_
          refine thenN ?_
          refine wp_ret ?_
          refine then_ret ?_
          obtain rfl := Option.some.inj hm
          exact leave1 S rfl rfl ⟨rfl, H⟩
        · have hm := ite_f hc45 hm
          refine wp_skip ?_
          refine thenN ?_
          refine wp_seq ?_
          refine region_plain ?_
          refine lx_q (.int .i64 (0 : Int)) S trivial (by decide) (q_assign rfl) (fun a S => ?_)
          refine lx_nil ?_
          refine thenN ?_
          refine wp_ret ?_
          obtain rfl := Option.some.inj hm
          exact leave1 S rfl rfl ⟨rfl, H⟩

/-- slices.Compare[[]int64,int64] -/
def slices_Compare__int64_int64_m (fuel : Nat) (a0 : (List Int)) (a1 : (List Int)) : Option (Int) :=
  (iter (fun (s : (Int)) => (match s with | (x50) => (if (decide (x50 < (a0.length : Int))) = true then (idx a0 x50).bind fun x80 => (if (decide ((a1.length : Int) ≤ x50)) = true then some (.inr (.inr (1 : Int))) else (idx a1 x50).bind fun x86 => (cmp_Compare_int64_m fuel x80 x86).bind fun x93 => (if (x93 != (0 : Int)) = true then some (.inr (.inr x93)) else some (.inl ((W (x50 + (1 : Int))))))) else some (.inr (.inl ()))) : Option (((Int)) ⊕ ((Unit) ⊕ (Int))))) fuel ((0 : Int))).bind fun res70 => ctl (β := Unit) (ρ := Int) (τ := Int) res70 (fun _ => (if (decide ((a0.length : Int) < (a1.length : Int))) = true then some ((-1 : Int)) else some ((0 : Int)))) (fun q => some (q))
set_option maxRecDepth 20000 in
theorem slices_Compare__int64_int64_ok {w0 : World} {fuel : Nat} {p0 p1 : Value} {a0 : (List Int)} {a1 : (List Int)} {r : Int} (h0 : Rd (rList (rInt .i64)) w0 p0 a0) (h1 : Rd (rList (rInt .i64)) w0 p1 a1) (hm : slices_Compare__int64_int64_m fuel a0 a1 = some r) :
    Calls Try.prog 128 #[p0, p1] w0 fun e w => e = .returned (.int .i64 r) ∧ Heap w0 [] w := by
  unfold slices_Compare__int64_int64_m at hm
  have H := Heap.start w0
  refine enter (args := [p0, p1]) Try.func128 rfl 36 rfl (Nat.le_of_ble_eq_true rfl) (fun a S => ?_)
  refine wp_seq ?_
  refine region_plain ?_
  refine lx_q (.int .i64 (0 : Int)) S trivial (by decide) (q_assign rfl) (fun a S => ?_)
  refine lx_nil ?_
  refine thenN ?_
  refine wp_seq ?_
  refine wp_seq ?_
  refine region_plain ?_
  refine lx_q p0 S trivial (by decide) (q_move rfl) (fun a S => ?_)
  refine lx_q (.int .i64 (a0.length : Int)) S trivial (by decide) (q_lenSl rfl (h0).isSl rfl Try.underlying23) (fun a S => ?_)
  refine lx_q (.int .i64 (0 : Int)) S trivial (by decide) (q_move rfl) (fun a S => ?_)
  refine lx_nil ?_
  refine thenN ?_
  obtain ⟨res70, hit71, hk74⟩ := bind_some hm
  obtain ⟨f72, hf73, hit71⟩ := iter_name hit71
  refine block_loop (fun a w => Slots a 36 [(0, p0), (1, p1)] ∧ Heap w0 [] w ∧ res70 = .inl ()) ?_ ?_
  · rintro a w ⟨S, H, rfl⟩
    have hm := ctl_inl hk74
    refine thenN ?_
    refine wp_seq ?_
    refine wp_seq ?_
    refine region_plain ?_
    refine lx_q p0 S trivial (by decide) (q_move rfl) (fun a S => ?_)
    refine lx_q (.int .i64 (a0.length : Int)) S trivial (by decide) (q_lenSl rfl (h0).isSl rfl Try.underlying23) (fun a S => ?_)
    refine lx_q p1 S trivial (by decide) (q_move rfl) (fun a S => ?_)
    refine lx_q (.int .i64 (a1.length : Int)) S trivial (by decide) (q_lenSl rfl (h1).isSl rfl Try.underlying23) (fun a S => ?_)
    refine lx_q (.bool (decide ((a0.length : Int) < (a1.length : Int)))) S trivial (by decide) (q_lss rfl rfl) (fun a S => ?_)
    refine lx_nil ?_
    refine thenN ?_
    refine cond_b S rfl (fun hc75 => ?_) (fun hc75 => ?_)
    · have hm := ite_t hc75 hm
      refine wp_seq ?_
      refine region_plain ?_
      refine lx_q (.int .i64 (-1 : Int)) S trivial (by decide) (q_assign rfl) (fun a S => ?_)
      refine lx_nil ?_
      refine thenN ?_
      refine wp_ret ?_
      refine then_ret ?_
      obtain rfl := Option.some.inj hm
      exact leave1 S rfl rfl ⟨rfl, H⟩
    · have hm := ite_f hc75 hm
      refine wp_skip ?_
      refine thenN ?_
      refine wp_seq ?_
      refine region_plain ?_
      refine lx_q (.int .i64 (0 : Int)) S trivial (by decide) (q_assign rfl) (fun a S => ?_)
      refine lx_nil ?_
      refine thenN ?_
      refine wp_ret ?_
      obtain rfl := Option.some.inj hm
      exact leave1 S rfl rfl ⟨rfl, H⟩
  · skip
    refine loop_ghost (fun n a w => ∃ (x50 : Int), Slots a 36 [(0, p0), (1, p1), (9, p0), (10, (.int .i64 (a0.length : Int))), (11, (.int .i64 x50))] ∧ Heap w0 [] w ∧ iter f72 n (x50) = some res70) _ ⟨(0 : Int), S.sub ⟨rfl, rfl, rfl, rfl, rfl, trivial⟩, H, hit71⟩ ?_
    rintro n a w ⟨x50, S, H, hit71⟩
    obtain ⟨m76, o77, rfl, hm, hc78⟩ := iter_step hit71
    rw [hf73] at hm
    refine wp_seq ?_
    refine region_plain ?_
    refine lx_q (.bool (decide (x50 < (a0.length : Int)))) S trivial (by decide) (q_lss rfl rfl) (fun a S => ?_)
    refine lx_nil ?_
    refine thenN ?_
    refine wp_seq ?_
    refine cond_b S rfl (fun hc79 => ?_) (fun hc79 => ?_)
    · have hm := ite_t hc79 hm
      refine wp_skip ?_
      refine thenN ?_
      refine wp_seq ?_
      refine wp_block ?_
      refine wp_seq ?_
      refine region_plain ?_
      refine lx_q (.int .i64 x50) S trivial (by decide) (q_move rfl) (fun a S => ?_)
      obtain ⟨x80, e81, hm⟩ := bind_some hm
      obtain ⟨c82, h83, hat84⟩ := (h0).elem (idx_some e81).2
      obtain rfl := h83
      have hlt := lt_of_idx (idx_some e81).2
      refine lx_q (ePtr p0 (x50.toNat * 1)) S trivial (by decide) (q_indexAddr rfl (h0).isSl rfl (idx_some e81).1 hlt Try.underlying23 Try.sizeOf2) (fun a S => ?_)
      refine lx_e (.int .i64 x80) S trivial (by decide) rfl trivial (q_load1 rfl Try.isAgg2 (by rintro _ rfl; exact ((hat84 0 _ rfl).ext H.ext))) (fun a S => ?_)
      refine lx_q (.int .i64 x50) S trivial (by decide) (q_assign rfl) (fun a S => ?_)
      refine lx_q (.int .i64 x80) S trivial (by decide) (q_assign rfl) (fun a S => ?_)
      refine lx_nil ?_
      refine thenN ?_
      refine wp_seq ?_
      refine wp_seq ?_
      refine region_plain ?_
      refine lx_q (.int .i64 x50) S trivial (by decide) (q_move rfl) (fun a S => ?_)
      refine lx_q p1 S trivial (by decide) (q_move rfl) (fun a S => ?_)
      refine lx_q (.int .i64 (a1.length : Int)) S trivial (by decide) (q_lenSl rfl (h1).isSl rfl Try.underlying23) (fun a S => ?_)
      refine lx_q (.bool (decide ((a1.length : Int) ≤ x50))) S trivial (by decide) (q_geq rfl rfl) (fun a S => ?_)
      refine lx_nil ?_
      refine thenN ?_
      refine cond_b S rfl (fun hc85 => ?_) (fun hc85 => ?_)
      · have hm := ite_t hc85 hm
        refine wp_seq ?_
        refine region_plain ?_
        refine lx_q (.int .i64 (1 : Int)) S trivial (by decide) (q_assign rfl) (fun a S => ?_)
        refine lx_nil ?_
        refine thenN ?_
        refine wp_ret ?_
        refine then_ret ?_
        refine inBlock_ret ?_
        refine then_ret ?_
        refine then_ret ?_
        refine inBlock_ret ?_
        refine then_ret ?_
        refine then_ret ?_
        obtain rfl := it_brk hm hc78
        have hm := ctl_inr hk74
        obtain rfl := Option.some.inj hm
        exact leave1 S rfl rfl ⟨rfl, H⟩
      · have hm := ite_f hc85 hm
        refine wp_skip ?_
        refine thenN ?_
        refine wp_seq ?_
        refine region_plain ?_
        refine lx_q p1 S trivial (by decide) (q_move rfl) (fun a S => ?_)
        refine lx_q (.int .i64 x50) S trivial (by decide) (q_move rfl) (fun a S => ?_)
        obtain ⟨x86, e87, hm⟩ := bind_some hm
        obtain ⟨c88, h89, hat90⟩ := (h1).elem (idx_some e87).2
        obtain rfl := h89
        have hlt := lt_of_idx (idx_some e87).2
        refine lx_q (ePtr p1 (x50.toNat * 1)) S trivial (by decide) (q_indexAddr rfl (h1).isSl rfl (idx_some e87).1 hlt Try.underlying23 Try.sizeOf2) (fun a S => ?_)
        refine lx_e (.int .i64 x86) S trivial (by decide) rfl trivial (q_load1 rfl Try.isAgg2 (by rintro _ rfl; exact ((hat90 0 _ rfl).ext H.ext))) (fun a S => ?_)
        refine lx_q (.int .i64 x86) S trivial (by decide) (q_assign rfl) (fun a S => ?_)
        refine lx_nil ?_
        refine thenN ?_
        refine wp_seq ?_
        refine region_plain ?_
        refine lx_q (.int .i64 x80) S trivial (by decide) (q_move rfl) (fun a S => ?_)
        refine lx_q (.int .i64 x86) S trivial (by decide) (q_move rfl) (fun a S => ?_)
        obtain ⟨x93, e94, hm⟩ := bind_some hm
        refine lx_call (xs := [.tmp 24, .tmp 25]) S trivial (by decide) rfl rfl Try.call108 ((cmp_Compare_int64_ok   e94).mono ?_)
        rintro e w91 ⟨rfl, Hc92⟩
        have he95 := Hc92.ext
        have H := H.call0 Hc92
        refine ⟨_, rfl, trivial, fun a S => ?_⟩
        refine lx_q (.int .i64 x93) S trivial (by decide) (q_assign rfl) (fun a S => ?_)
        refine lx_nil ?_
        refine thenN ?_
        refine wp_seq ?_
        refine region_plain ?_
        refine lx_q (.int .i64 x93) S trivial (by decide) (q_move rfl) (fun a S => ?_)
        refine lx_q (.bool (x93 != (0 : Int))) S trivial (by decide) (q_neq rfl rfl) (fun a S => ?_)
        refine lx_nil ?_
        refine thenN ?_
        refine cond_b S rfl (fun hc96 => ?_) (fun hc96 => ?_)
        · have hm := ite_t hc96 hm
          refine wp_seq ?_
          refine region_plain ?_
          refine lx_q (.int .i64 x93) S trivial (by decide) (q_move rfl) (fun a S => ?_)
          refine lx_q (.int .i64 x93) S trivial (by decide) (q_assign rfl) (fun a S => ?_)
          refine lx_nil ?_
          refine thenN ?_
          refine wp_ret ?_
          refine inBlock_ret ?_
          refine then_ret ?_
          refine then_ret ?_
          refine inBlock_ret ?_
          refine then_ret ?_
          refine then_ret ?_
          obtain rfl := it_brk hm hc78
          have hm := ctl_inr hk74
          obtain rfl := Option.some.inj hm
          exact leave1 S rfl rfl ⟨rfl, H⟩
        · have hm := ite_f hc96 hm
          refine wp_skip ?_
          refine inBlock_norm ?_
          refine thenN ?_
          refine region_plain ?_
          refine lx_q (.int .i64 (W (x50 + (1 : Int)))) S trivial (by decide) (q_add rfl rfl) (fun a S => ?_)
          refine lx_q (.int .i64 (W (x50 + (1 : Int)))) S trivial (by decide) (q_move rfl) (fun a S => ?_)
          refine lx_nil ?_
          exact ⟨m76, Nat.lt_succ_self _, (W (x50 + (1 : Int))), S.sub ⟨rfl, rfl, rfl, rfl, rfl, trivial⟩, H, it_cont hm hc78⟩
    · have hm := ite_f hc79 hm
      refine wp_exit ?_
      refine then_exit ?_
      refine then_exit ?_
      refine inBlock_exit ?_
      obtain rfl := it_brk hm hc78
      exact ⟨S.sub ⟨rfl, rfl, trivial⟩, H, rfl⟩
end Go.Proofs.Ytecknjdlbmmmiaa
