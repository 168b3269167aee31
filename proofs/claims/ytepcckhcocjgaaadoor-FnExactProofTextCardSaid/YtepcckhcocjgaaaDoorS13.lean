/-
  The plain laws of a statement, joined into one text.
-/
import Derived.Test.YtepcckhcocjgaaaDoorF0
import Derived.Test.YtepcckhcocjgaaaDoorF1
import Derived.Test.YtepcckhcocjgaaaDoorF2
import Derived.Test.YtepcckhcocjgaaaDoorFS
import Derived.Test.YtepcckhcocjgaaaDoorGxP
import Derived.Test.YtepcckhcocjgaaaDoorGxU
import Derived.Test.YtepcckhcocjgaaaDoorGxZ
import Derived.Test.YtepcckhcocjgaaaDoorLProofText
namespace Go.Proofs.YtepcckhcocjgaaaDoor
open Go.Gx
/-! ### the law's helpers -/
abbrev GI : List Int → Prop := gList (gInt .i64)
theorem sz_ints {a : List Int} (g : GI a) {b : Int} (h0 : 0 ≤ b) (hb : b ≤ 1048576) : ∃ r, Ev (fun n => laws_szInt64S_m n a b) r ∧ Sz b r (a.length ≤ 1048576) := sz_leaf h0 hb g.1
theorem to_ints {a : List Int} (hl : a.length ≤ 1048576) : Ev (fun n => laws_toInt64S_m n a) a := by
  have := to_loop («to» := fun _ (x : Int) => some x) (f := id) (a := a) (z := 0) (fun x _ => Ev.pure x) hl
  rw [List.map_id] at this
  exact this
theorem eq_ints {a : List Int} (hl : a.length ≤ maxLen) : Ev (fun n => laws_eqInt64S_m n a a) true := eq_loop_ints hl
theorem l00In_eq {n : Nat} {a b c : Int} : spec_l00In_m n a b c = some (decide (b ≤ a) && decide (a ≤ c)) := by
  unfold spec_l00In_m
  by_cases h : b ≤ a <;> simp [h]
theorem within_eq {n : Nat} {a b c : Int} : impl_within_m n a b c = some (decide (b ≤ a) && decide (a ≤ c)) := by
  unfold impl_within_m
  by_cases h : b ≤ a <;> simp [h]
theorem eqB_ints {a : List Int} (h : a.length ≤ 1048576) : Ev (fun n => laws_eqInt64S_m n a a) true := eq_ints (by have : maxLen = 9223372036854775807 := (by unfold maxLen; rfl); omega)
abbrev GII : List (List Int) → Prop := gList GI
abbrev GPf : Tlaws_Proof → Prop := gAnd gAny GII
def BII (a : List (List Int)) : Prop := a.length ≤ 1048576 ∧ ∀ x ∈ a, x.length ≤ 1048576
theorem sz_intss {a : List (List Int)} (g : GII a) {b : Int} (h0 : 0 ≤ b) (hb : b ≤ 1048576) : ∃ r, Ev (fun n => laws_szInt64SS_m n a b) r ∧ Sz b r (BII a) :=
  sz_loop (fun x hx _ h0 hb => sz_ints (g.2 x hx) h0 hb) g.1 h0 hb
theorem toB_intss {a : List (List Int)} (h : BII a) : Ev (fun n => laws_toInt64SS_m n a) a := by
  have := to_loop («to» := fun n x => laws_toInt64S_m n x) (f := id) (a := a) (z := []) (fun x hx => to_ints (h.2 x hx)) h.1
  rw [List.map_id] at this
  exact this
theorem eqB_intss {a : List (List Int)} (h : BII a) : Ev (fun n => laws_eqInt64SS_m n a a) true :=
  have hm : maxLen = 9223372036854775807 := by unfold maxLen; rfl
  eq_loop (eq := fun n x y => laws_eqInt64S_m n x y) (fun x hx => eqB_ints (h.2 x hx)) (by have := h.1; omega)
theorem sz_proof {a : Tlaws_Proof} (g : GPf a) {b : Int} (h0 : 0 ≤ b) (hb : b ≤ 1048576) : ∃ r, Ev (fun n => laws_szProof_m n a b) r ∧ Sz b r (BII a.2) := by
  obtain ⟨r, h1, h2⟩ := sz_intss g.2 h0 hb
  by_cases h : r < 0
  · exact ⟨-1, Ev.bind h1 (Ev.ite_t (by simpa using h) (Ev.pure _)), .inl (by omega)⟩
  · exact ⟨r, Ev.bind h1 (Ev.ite_f (by simpa using h) (Ev.pure _)), h2⟩
theorem toB_proof {a : Tlaws_Proof} (h : BII a.2) : Ev (fun n => laws_toProof_m n a) a := Ev.bind (toB_intss h) (Ev.pure _)
theorem eqB_proof {a : Timpl_Proof} (h : BII a.2) : Ev (fun n => laws_eqProof_m n a a) true := Ev.ite_f (by simp) (Ev.bind (eqB_intss h) (Ev.pure _))
theorem dec_m {m : Nat} {n : Int} (h1 : -9223372036854775808 ≤ n) (h2 : n ≤ 9223372036854775807) : impl_Decimal_m m n = some (Lib.itoa n) := by
  unfold impl_Decimal_m strconv_FormatInt_m
  rw [if_pos ⟨rfl, h1, h2⟩]
  rfl
theorem mx : 4294967296 ≤ maxLen ∧ maxLen ≤ 9223372036854775807 := by unfold maxLen; omega

/-! ### lists of numbers -/
theorem fill_iter {α β ρ : Type} {to' : Nat → α → Option β} {f : α → β} {a : List α} {z : β} (hto : ∀ x ∈ a, Ev (fun n => to' n x) (f x)) (hl : a.length ≤ 1048576) :
    EvI (fun n (s : (List β) × (Int)) => (match s with | (xs35, x36) => (if (decide (x36 < (a.length : Int))) = true then (idx a x36).bind fun x75 => (to' n x75).bind fun x92 => (idx xs35 x36).bind fun _ => some (.inl ((xs35.set x36.toNat x92), (W (x36 + (1 : Int))))) else some (.inr (.inl (xs35)))) : Option (((List β) × (Int)) ⊕ (((List β)) ⊕ (ρ))))) (List.replicate a.length z, (0 : Int)) (.inl (a.map f)) := by
  refine EvI.upto a.length (fun k (t : List β) => (t, (k : Int))) (fun k t => t = (a.take k).map f ++ List.replicate (a.length - k) z) (k := 0) (t := List.replicate a.length z) rfl (Nat.zero_le _) (by simp) (fun k t hk ht => ?_) (fun t ht => ?_)
  · obtain ⟨x, hx⟩ : ∃ x, a[k]? = some x := ⟨a[k], List.getElem?_eq_getElem hk⟩
    have hlen : ((a.take k).map f).length = k := by simp; omega
    have hi : t[k]? = some z := by
      rw [ht, List.getElem?_append_right (by omega), hlen, List.getElem?_replicate, if_pos (by omega)]
    refine ⟨_, (Ev.ite_t (by simpa using hk) (Ev.bindc (idx_at hx) (Ev.bind (hto x (List.mem_of_getElem? hx)) (Ev.bindc (idx_at hi) (Ev.pure (Sum.inl (t.set (k : Int).toNat (f x), W ((k : Int) + 1)))))))).eq ?_, rfl⟩
    rw [W_of (by omega) (by omega)]
    refine congrArg Sum.inl (Prod.ext ?_ rfl)
    show t.set (k : Int).toNat (f x) = _
    rw [ht, Int.toNat_natCast, List.set_append_right _ _ (by omega), hlen]
    rw [List.take_add_one, hx, List.map_append, List.append_assoc]
    congr 1
    rw [show a.length - k = (a.length - (k + 1)) + 1 by omega, List.replicate_succ]
    simp
  · refine (Ev.ite_f (by simp) (Ev.pure _)).eq ?_
    rw [ht]; simp

theorem cat_ev {a b : Str} (h : a.length + b.length ≤ 140737488355328) : cat a b = some (a ++ b) := by
  unfold cat
  rw [if_pos (by first | exact h | omega)]

/-- A check of the element at a place. -/
def okOf {α : Type} (ok : α → Bool) (l : List α) (k : Nat) : Bool := match l[k]? with | none => true | some x => ok x
theorem okOf_at {α : Type} {ok : α → Bool} {l : List α} {k : Nat} {x : α} (h : l[k]? = some x) : okOf ok l k = ok x := by unfold okOf; rw [h]
theorem okOf_all {α β : Type} {ok : α → Bool} {l : List α} {x y : β} : (if ∀ k, k < l.length → okOf ok l k = true then x else y) = if l.all ok = true then x else y := by
  have : (∀ k, k < l.length → okOf ok l k = true) ↔ l.all ok = true := by
    rw [List.all_eq_true]
    constructor
    · intro h x hx
      obtain ⟨k, hk⟩ := List.mem_iff_getElem?.1 hx
      have := h k (List.getElem?_eq_some_iff.1 hk).1
      rwa [okOf_at hk] at this
    · intro h k hk
      obtain ⟨x, hx⟩ := get_lt hk
      rw [okOf_at hx]
      exact h x (List.mem_of_getElem? hx)
  by_cases h : l.all ok = true
  · rw [if_pos (this.2 h), if_pos h]
  · rw [if_neg (fun q => h (this.1 q)), if_neg h]

/-! ### the reference's decimals -/
def rvD (u : Nat) : List Int := (Lib.decDigits u).reverse.map fun b => (b.toNat : Int)
theorem rvD_small {u : Nat} (h : u < 10) : rvD u = [((48 + u : Nat) : Int)] := by
  unfold rvD
  rw [Lib.decDigits_one h]
  simp
  omega
theorem rvD_big {u : Nat} (h : 10 ≤ u) : rvD u = ((48 + u % 10 : Nat) : Int) :: rvD (u / 10) := by
  unfold rvD
  rw [dec_big (by omega), List.reverse_append]
  simp
  omega
def rvE (u : Nat) : List Int := if u = 0 then [] else rvD u
theorem rvE_step {u : Nat} (h : 0 < u) : rvE u = ((48 + u % 10 : Nat) : Int) :: rvE (u / 10) := by
  unfold rvE
  rw [if_neg (by omega)]
  by_cases h1 : u < 10
  · rw [rvD_small h1, if_pos (by omega), Nat.mod_eq_of_lt h1]
  · rw [rvD_big (by omega), if_neg (by omega)]
theorem dec_loop (_n0 : Int) : ∀ (u : Nat) (x : Int) (xs : List Int), x.natAbs = u → u ≤ 4611686018427387904 → xs.length + u ≤ 4611686018427387904 + 100 → xs.length ≤ 1000 - 10 * 0 →
    (∀ d, u < 10 ^ d → xs.length + d ≤ 1000 → EvI (fun (_ : Nat) (s : (List Int) × (Int)) => (match s with | (xs53, x55) => (if (x55 != (0 : Int)) = true then join (κ := Int → Option (((List Int) × (Int)) ⊕ (((List Int)) ⊕ (Str)))) (fun (x167 : Int) => (app xs53 [(IntKind.u8.wrap (W ((48 : Int) + x167)))]).bind fun x173 => some (.inl (x173, (W (x55.tdiv (10 : Int)))))) (fun K168 => (if (decide ((x55.tmod (10 : Int)) < (0 : Int))) = true then (K168 (W (0 - (x55.tmod (10 : Int))))) else (K168 (x55.tmod (10 : Int))))) else some (.inr (.inl (xs53)))) : Option (((List Int) × (Int)) ⊕ (((List Int)) ⊕ (Str))))) (xs, x) (.inl (xs ++ rvE u))) := by
  intro u
  induction u using Nat.strongRecOn with
  | ind u ih =>
    intro x xs hx hu hl hl2 d hd hd2
    by_cases h0 : u = 0
    · subst h0
      have hx0 : x = 0 := by omega
      subst hx0
      refine EvI.stop (Ev.ite_f (by simp) (Ev.const ?_))
      simp [rvE]
    · rw [rvE_step (by omega)]
      have hd0 : d ≠ 0 := by intro e; subst e; simp at hd; omega
      obtain ⟨d', rfl⟩ : ∃ d', d = d' + 1 := ⟨d - 1, by omega⟩
      have hmod : x.tmod 10 = (if x < 0 then -((u % 10 : Nat) : Int) else ((u % 10 : Nat) : Int)) := by
        by_cases hn : x < 0
        · rw [if_pos hn]
          have : x = -(u : Int) := by omega
          rw [this, Int.neg_tmod]
          rfl
        · rw [if_neg hn]
          have : x = (u : Int) := by omega
          rw [this]; rfl
      have hdiv : x.tdiv 10 = (if x < 0 then -((u / 10 : Nat) : Int) else ((u / 10 : Nat) : Int)) := by
        by_cases hn : x < 0
        · rw [if_pos hn]
          have : x = -(u : Int) := by omega
          rw [this, Int.neg_tdiv]
          rfl
        · rw [if_neg hn]
          have : x = (u : Int) := by omega
          rw [this]; rfl
      have hwd : W (x.tdiv 10) = x.tdiv 10 := by
        rw [hdiv]
        split <;> exact W_of (by omega) (by omega)
      have hch : IntKind.u8.wrap (W ((48 : Int) + ((u % 10 : Nat) : Int))) = ((48 + u % 10 : Nat) : Int) := by
        rw [W_of (by omega) (by omega)]
        unfold IntKind.wrap
        simp [IntKind.signed, IntKind.bits]
        omega
      have hstep : Ev (fun (_ : Nat) => (if (x != (0 : Int)) = true then join (κ := Int → Option (((List Int) × (Int)) ⊕ (((List Int)) ⊕ (Str)))) (fun (x167 : Int) => (app xs [(IntKind.u8.wrap (W ((48 : Int) + x167)))]).bind fun x173 => some (.inl (x173, (W (x.tdiv (10 : Int)))))) (fun K168 => (if (decide ((x.tmod (10 : Int)) < (0 : Int))) = true then (K168 (W (0 - (x.tmod (10 : Int))))) else (K168 (x.tmod (10 : Int))))) else some (.inr (.inl (xs))) : Option (((List Int) × (Int)) ⊕ (((List Int)) ⊕ (Str))))) (.inl (xs ++ [((48 + u % 10 : Nat) : Int)], x.tdiv 10)) := by
        refine Ev.ite_t (by simp; omega) (Ev.join ?_)
        rw [hwd]
        have hfin : ∀ z : Int, z = ((u % 10 : Nat) : Int) → (app xs [(IntKind.u8.wrap (W ((48 : Int) + z)))]).bind (fun x173 => (some (.inl (x173, x.tdiv 10)) : Option (((List Int) × (Int)) ⊕ (((List Int)) ⊕ (Str))))) = some (.inl (xs ++ [((48 + u % 10 : Nat) : Int)], x.tdiv 10)) := by
          intro z hz
          rw [hz, hch, app_ok (by simp; omega)]; rfl
        by_cases hneg : x.tmod 10 < 0
        · refine Ev.ite_t (decide_eq_true hneg) (Ev.const (hfin _ ?_))
          rw [hmod] at hneg ⊢
          split
          · rw [W_of (by omega) (by omega)]; omega
          · rename_i h; rw [if_neg h] at hneg; omega
        · refine Ev.ite_f (by simpa using hneg) (Ev.const (hfin _ ?_))
          rw [hmod] at hneg ⊢
          split
          · rename_i h; rw [if_pos h] at hneg; omega
          · rfl
      refine EvI.go hstep ?_
      have := ih (u / 10) (by omega) (x.tdiv 10) (xs ++ [((48 + u % 10 : Nat) : Int)]) (by rw [hdiv]; split <;> omega) (by omega) (by simp; omega) (by simp at hd2 ⊢; omega) d' (by
        rw [Nat.pow_succ] at hd; omega) (by simp; omega)
      rw [List.append_assoc] at this
      exact this
theorem decD_len : ∀ (d u : Nat), u < 10 ^ (d + 1) → (Lib.decDigits u).length ≤ d + 1
  | 0, u, h => by rw [Lib.decDigits_one (by omega)]; simp
  | d + 1, u, h => by
    by_cases hu : u < 10
    · rw [Lib.decDigits_one hu]; simp
    · rw [dec_big hu, List.length_append]
      have := decD_len d (u / 10) (by rw [Nat.pow_succ] at h; omega)
      simp; omega
theorem itoa_len {n : Int} (h1 : -1000000000000000 ≤ n) (h2 : n ≤ 1000000000000000) : (Lib.itoa n).length ≤ 21 := by
  unfold Lib.itoa
  split
  · have := decD_len 17 n.natAbs (by omega)
    simp; omega
  · have := decD_len 17 n.toNat (by omega)
    omega
theorem dec_ref {n : Int} (h1 : -1000000000000000 ≤ n) (h2 : n ≤ 1000000000000000) : Ev (fun m => spec_l01Dec_m m n) (Lib.itoa n) := by
  unfold spec_l01Dec_m
  by_cases h0 : n = 0
  · subst h0
    exact (Ev.ite_t (by simp) (Ev.pure _)).eq (by
      unfold Lib.itoa
      rw [if_neg (by omega)]
      exact (Lib.decDigits_one (i := 0) (by omega)).symm)
  refine Ev.ite_f (by simpa using h0) ?_
  have hl := dec_loop n n.natAbs n [] rfl (by omega) (by simp; omega) (by simp) 18 (by omega) (by simp)
  rw [List.nil_append] at hl
  have hrv : rvE n.natAbs = rvD n.natAbs := by unfold rvE; rw [if_neg (by omega)]
  have hdl : (Lib.decDigits n.natAbs).length ≤ 40 := by
    have := decD_len 17 n.natAbs (by omega)
    omega
  have hrl : (rvD n.natAbs).length ≤ 40 := by unfold rvD; simpa using hdl
  rw [hrv] at hl
  let ds : List Int := if n < 0 then rvD n.natAbs ++ [45] else rvD n.natAbs
  have hdsl : ds.length ≤ 41 := by
    show (if n < 0 then _ else _ : List Int).length ≤ 41
    split
    · simp; omega
    · omega
  have hres : bstr ds.reverse = Lib.itoa n := by
    have hb : ∀ l : Str, bstr (l.map fun b => (b.toNat : Int)) = l := by
      intro l
      unfold bstr
      rw [List.map_map]
      refine (List.map_congr_left fun b _ => ?_).trans (List.map_id _)
      simp
    show bstr (if n < 0 then rvD n.natAbs ++ [45] else rvD n.natAbs).reverse = _
    unfold rvD Lib.itoa
    by_cases hn : n < 0
    · rw [if_pos hn, if_pos hn, List.reverse_append, ← List.map_reverse, List.reverse_reverse]
      have := hb (45 :: Lib.decDigits n.natAbs)
      simpa using this
    · rw [if_neg hn, if_neg hn, ← List.map_reverse, List.reverse_reverse, show n.toNat = n.natAbs by omega]
      exact hb _
  have hrev : ∀ ds : List Int, ds.length ≤ 41 → Ev (fun m => (iter (fun (s : (List Int) × (Int)) => (match s with | (xs108, x110) => (if (decide ((0 : Int) ≤ x110)) = true then (idx ds x110).bind fun x141 => (app xs108 [x141]).bind fun x149 => some (.inl (x149, (W (x110 - (1 : Int))))) else some (.inr (.inl (xs108)))) : Option (((List Int) × (Int)) ⊕ (((List Int)) ⊕ (Str))))) m (([] : List Int), (W ((ds.length : Int) - (1 : Int))))).bind fun res132 => ctl (β := (List Int)) (ρ := Str) (τ := Str) res132 (fun (xs130) => some ((bstr xs130))) (fun q => some (q))) (bstr ds.reverse) := by
    intro ds hdsl
    refine Ev.bind (a := Sum.inl ds.reverse) (EvI.ev ?_) (Ev.pure _)
    refine EvI.upto ds.length (fun k (_ : Unit) => (ds.reverse.take k, (ds.length : Int) - 1 - (k : Int))) (fun _ _ => True) (k := 0) (t := ()) (by rw [W_of (by omega) (by omega)]; simp) (Nat.zero_le _) trivial (fun k _ hk _ => ⟨(), ?_, trivial⟩) (fun _ _ => by
      dsimp only
      refine Ev.ite_f (by simp; omega) (Ev.const ?_)
      rw [List.take_of_length_le (by simp)])
    obtain ⟨x, hx⟩ := get_lt (xs := ds.reverse) (k := k) (by simpa using hk)
    have hx' : ds[ds.length - 1 - k]? = some x := by rw [← List.getElem?_reverse hk]; exact hx
    dsimp only
    refine Ev.ite_t (decide_eq_true (by omega)) (Ev.bindc (a := x) ?_ (Ev.bindc (app_ok (by simp; omega)) (Ev.const ?_)))
    · have := idx_at hx'
      rwa [show ((ds.length - 1 - k : Nat) : Int) = (ds.length : Int) - 1 - (k : Int) by omega] at this
    · rw [List.take_add_one, hx, W_of (by omega) (by omega), show (ds.length : Int) - 1 - (k : Int) - 1 = (ds.length : Int) - 1 - ((k + 1 : Nat) : Int) by omega]
      rfl
  refine Ev.bind (a := Sum.inl (rvD n.natAbs)) (EvI.ev hl) (Ev.join ?_)
  rw [← hres]
  by_cases hn : n < 0
  · refine Ev.ite_t (decide_eq_true hn) (Ev.bindc (app_ok (by simp; omega)) ?_)
    have e : ds = rvD n.natAbs ++ [45] := if_pos hn
    rw [e]
    exact hrev _ (by simp; omega)
  · refine Ev.ite_f (by simpa using hn) ?_
    have e : ds = rvD n.natAbs := if_neg hn
    rw [e]
    exact hrev _ (by omega)

/-! ### lists of decimals -/
def val12 (n : Int) : Bool := decide (-1000000000000 ≤ n) && decide (n ≤ 1000000000000)
def listP (vs : List Int) : Bool := decide (vs.length ≤ 64) && vs.all val12
theorem val12_iff {n : Int} : val12 n = true ↔ -1000000000000 ≤ n ∧ n ≤ 1000000000000 := by unfold val12; simp
/-- The text of a list. -/
def lstT (vs : List Int) : Str := if vs = [] then [45] else Lib.join (vs.map Lib.itoa) [44]
theorem join_snoc (c : Str) (xs : List Str) (y : Str) : Lib.join (xs ++ [y]) c = if xs = [] then y else Lib.join xs c ++ c ++ y := by
  cases xs with
  | nil => simp [Lib.join_one]
  | cons x r =>
    rw [if_neg (by simp), List.cons_append, Lib.join_cons, Lib.join_cons]
    simp [Lib.joinTail]
theorem join_le {c : Str} {L : Nat} : ∀ (xs : List Str), (∀ x ∈ xs, x.length ≤ L) → (Lib.join xs c).length ≤ xs.length * (L + c.length) := by
  refine rev_ind (fun _ => by simp [Lib.join_nil]) fun xs y ih h => ?_
  have h1 := ih fun x hx => h x (by simp [hx])
  have h2 := h y (by simp)
  rw [join_snoc, List.length_append, Nat.add_mul]
  split
  · simp; omega
  · simp; omega
theorem lst_spec {vs : List Int} (hl : vs.length ≤ 100000) (h : ∀ v ∈ vs, -1000000000000000 ≤ v ∧ v ≤ 1000000000000000) : Ev (fun m => spec_l01List_m m vs) (lstT vs) := by
  unfold spec_l01List_m lstT
  by_cases h0 : vs = []
  · rw [if_pos h0]
    subst h0
    exact Ev.ite_t (by simp) (Ev.pure _)
  rw [if_neg h0]
  have hne : ¬ ((vs.length : Int) == 0) = true := by
    intro e
    exact h0 (List.eq_nil_of_length_eq_zero (by have := beq_iff_eq.1 e; omega))
  refine Ev.ite_f hne (Ev.bind (a := Sum.inl (Lib.join (vs.map Lib.itoa) [44])) (EvI.ev ?_) (Ev.pure _))
  refine EvI.upto vs.length (fun k (_ : Unit) => (Lib.join ((vs.take k).map Lib.itoa) [44], (k : Int))) (fun _ _ => True) (k := 0) (t := ()) (by simp [Lib.join_nil]) (Nat.zero_le _) trivial (fun k _ hk _ => ⟨(), ?_, trivial⟩) (fun _ _ => by
    dsimp only
    exact Ev.ite_f (by simp) (Ev.const (by rw [List.take_length])))
  obtain ⟨v, hv⟩ := get_lt hk
  have hb := h v (List.mem_of_getElem? hv)
  have hil := itoa_len hb.1 hb.2
  have hjl := join_le (c := [44]) (L := 21) ((vs.take k).map Lib.itoa) (fun x hx => by
    obtain ⟨v, hv, rfl⟩ := List.mem_map.1 hx
    have := h v (List.mem_of_mem_take hv)
    exact itoa_len this.1 this.2)
  rw [List.length_map] at hjl
  have hjl : (Lib.join ((vs.take k).map Lib.itoa) [44]).length ≤ 100000 * 22 := Nat.le_trans hjl (Nat.mul_le_mul (by rw [List.length_take]; omega) (Nat.le_refl _))
  dsimp only
  rw [List.take_add_one, hv, List.map_append]
  rw [show (some v).toList.map Lib.itoa = [Lib.itoa v] from rfl, join_snoc]
  generalize hg : Lib.join ((vs.take k).map Lib.itoa) [44] = j at hjl ⊢
  refine Ev.ite_t (decide_eq_true (by omega)) (Ev.join ?_)
  by_cases hk0 : k = 0
  · subst hk0
    rw [if_pos (by simp)]
    have hj : j = [] := by rw [← hg]; simp [Lib.join_nil]
    refine Ev.ite_f (by simp) (Ev.bindc (idx_at hv) (Ev.bind (dec_ref hb.1 hb.2) (Ev.bindc (cat_ev (by omega)) (Ev.const ?_))))
    rw [hj, W_succ hk (by omega)]; rfl
  · rw [if_neg (by intro e; have h3 := congrArg List.length e; rw [List.length_map, List.length_take, List.length_nil] at h3; omega)]
    refine Ev.ite_t (decide_eq_true (by omega)) (Ev.bindc (cat_ev (by simp; omega)) (Ev.bindc (idx_at hv) (Ev.bind (dec_ref hb.1 hb.2) (Ev.bindc (cat_ev (by simp; omega)) (Ev.const ?_)))))
    rw [W_succ hk (by omega)]
theorem joined_law {vs : List Int} {c : UInt8} (hl : vs.length ≤ 100000) (h : ∀ v ∈ vs, -1000000000000000 ≤ v ∧ v ≤ 1000000000000000) : Ev (fun m => impl_joined_m m vs [c]) (Lib.join (vs.map Lib.itoa) [c]) := by
  unfold impl_joined_m
  have hjl := join_le (c := [c]) (L := 21) (vs.map Lib.itoa) (fun x hx => by
    obtain ⟨v, hv, rfl⟩ := List.mem_map.1 hx
    have := h v hv
    exact itoa_len this.1 this.2)
  rw [List.length_map] at hjl
  simp at hjl
  refine Ev.bindc (mks_ok (by omega)) (Ev.bind (fill_iter (f := Lib.itoa) (to' := impl_Decimal_m) (a := vs) (z := ([] : Str)) (fun x hx => Ev.const' fun m => by
    have := h x hx
    exact dec_m (by omega) (by omega)) (by omega)).ev (Ev.const' fun m => ?_))
  rw [ctl_l]
  unfold strings_Join_m
  rw [if_pos ⟨by simp; omega, by omega⟩]
  rfl
theorem listOk_ev {vs : List Int} (hl : vs.length ≤ maxLen) : Ev (fun m => impl_listOk_m m vs) (listP vs) := by
  unfold impl_listOk_m listP
  by_cases h : vs.length ≤ 64
  · rw [decide_eq_true h, Bool.true_and]
    refine Ev.bind (a := vs.all val12) (Ev.ite_t (decide_eq_true (by omega)) (Ev.bind (a := !(vs.all val12)) ?_ (Ev.const (by rw [Bool.not_not])))) (Ev.pure _)
    have := contains_loop hl (f := fun m z => impl_listOk_1_m m z) (ok := val12) (fun x _ => Ev.const' fun m => by
      unfold impl_listOk_1_m
      simp only [within_eq, Option.bind_some]
      rfl)
    unfold slices_ContainsFunc__int64_int64_m slices_IndexFunc__int64_int64_m
    exact this
  · rw [decide_eq_false h, Bool.false_and]
    exact Ev.bind (a := false) (Ev.ite_f (by simp; omega) (Ev.pure _)) (Ev.pure _)
theorem lstT_impl {vs : List Int} (hl : vs.length ≤ maxLen) : Ev (fun m => impl_ListText_m m vs) (if listP vs = true then lstT vs else []) := by
  unfold impl_ListText_m
  refine Ev.bind (listOk_ev hl) ?_
  cases hp : listP vs
  · exact Ev.ite_t rfl (Ev.pure _)
  · refine Ev.ite_f (by simp) ?_
    unfold listP at hp
    simp only [Bool.and_eq_true, decide_eq_true_eq, List.all_eq_true] at hp
    rw [if_pos rfl]
    unfold lstT
    by_cases h0 : vs = []
    · rw [if_pos h0]
      subst h0
      exact Ev.ite_t (by simp) (Ev.pure _)
    · rw [if_neg h0]
      have hne : ¬ ((vs.length : Int) == 0) = true := by
        intro e
        exact h0 (List.eq_nil_of_length_eq_zero (by have := beq_iff_eq.1 e; omega))
      refine Ev.ite_f hne (Ev.bind (joined_law (by omega) fun v hv => ?_) (Ev.pure _))
      have := val12_iff.1 (hp.2 v hv)
      omega
theorem lstT_len {vs : List Int} (hp : listP vs = true) : (lstT vs).length ≤ 1408 := by
  unfold listP at hp
  simp only [Bool.and_eq_true, decide_eq_true_eq, List.all_eq_true] at hp
  unfold lstT
  split
  · simp
  · have := join_le (c := [44]) (L := 21) (vs.map Lib.itoa) (fun x hx => by
      obtain ⟨v, hv, rfl⟩ := List.mem_map.1 hx
      have := val12_iff.1 (hp.2 v hv)
      exact itoa_len (by omega) (by omega))
    rw [List.length_map] at this
    simp at this
    omega
def in120 (n : Int) : Bool := decide (0 ≤ n) && decide (n ≤ 120)
def rowP (r : List Int) : Bool := (decide (r.length = 2) || decide (r.length = 4)) && r.all in120
def proofP (a : Timpl_Proof) : Bool := decide (a.2.length ≤ 120) && a.2.all rowP
def headT (b : Bool) : Str := if b = true then [116, 114, 117, 101] else [102, 97, 108, 115, 101]
def proofT (a : Timpl_Proof) : Str := Lib.join (headT a.1 :: a.2.map lstT) [10]
theorem rowP_list {r : List Int} (h : rowP r = true) : listP r = true ∧ (r.length = 2 ∨ r.length = 4) := by
  unfold rowP at h
  simp only [Bool.and_eq_true, Bool.or_eq_true, decide_eq_true_eq, List.all_eq_true] at h
  refine ⟨?_, h.1⟩
  unfold listP
  rw [decide_eq_true (show r.length ≤ 64 by omega), Bool.true_and, List.all_eq_true]
  intro v hv
  have := h.2 v hv
  unfold in120 at this
  simp at this
  exact val12_iff.2 (by omega)
theorem rows_ref {a : Timpl_Proof} (hl : BII a.2) : Ev (fun m => spec_l24Fits_m m a) (proofP a) := by
  obtain ⟨hl, g⟩ := hl
  unfold spec_l24Fits_m
  refine Ev.bind (EvI.all a.2.length (okOf rowP a.2) false (fun k hk hok => ?_) (fun k hk hok => ?_) (Ev.ite_f (by simp) (Ev.pure _))).ev (Ev.const ?_)
  · obtain ⟨x, hx⟩ := get_lt hk
    have hgx := g x (List.mem_of_getElem? hx)
    rw [okOf_at hx] at hok
    obtain ⟨_, h24⟩ := rowP_list hok
    have hin : x.all in120 = true := by
      unfold rowP at hok
      simp only [Bool.and_eq_true] at hok
      exact hok.2
    refine Ev.ite_t (decide_eq_true (by omega)) (Ev.bindc (idx_at hx) (Ev.bindc (a := false) ?_ (Ev.ite_f (by simp) (Ev.bind (a := Sum.inl ()) ?_ (Ev.const (by rw [ctl_l, W_succ hk (by omega)]))))))
    · by_cases h2 : x.length = 2
      · rw [if_neg (by simp [h2])]
      · rw [if_pos (by simp; omega), idx_at hx, Option.bind_some]
        have h4 : x.length = 4 := by omega
        simp [h4]
    · refine (EvI.all x.length (okOf in120 x) false (fun j hj hj' => ?_) (fun j hj hj' => ?_) ?_).ev.eq ?_
      · obtain ⟨v, hv⟩ := get_lt hj
        rw [okOf_at hv] at hj'
        refine Ev.bindc (idx_at hx) (Ev.ite_t (decide_eq_true (by omega)) (Ev.bindc (idx_at hx) (Ev.bindc (idx_at hv) (Ev.bind (Ev.const' fun m => l00In_eq) (Ev.ite_f ?_ (Ev.const (by rw [W_succ hj (by omega)])))))))
        unfold in120 at hj'
        rw [hj']; simp
      · obtain ⟨v, hv⟩ := get_lt hj
        rw [okOf_at hv] at hj'
        refine Ev.bindc (idx_at hx) (Ev.ite_t (decide_eq_true (by omega)) (Ev.bindc (idx_at hx) (Ev.bindc (idx_at hv) (Ev.bind (Ev.const' fun m => l00In_eq) (Ev.ite_t ?_ (Ev.pure _))))))
        unfold in120 at hj'
        rw [hj']; simp
      · exact Ev.bindc (idx_at hx) (Ev.ite_f (by simp) (Ev.pure _))
      · rw [okOf_all, if_pos hin]
  · obtain ⟨x, hx⟩ := get_lt hk
    have hgx := g x (List.mem_of_getElem? hx)
    rw [okOf_at hx] at hok
    by_cases h24 : x.length = 2 ∨ x.length = 4
    · have hin : x.all in120 = false := by
        unfold rowP at hok
        rw [← Bool.not_eq_true] at hok ⊢
        intro h
        refine hok ?_
        rw [h, Bool.and_true, Bool.or_eq_true]
        rcases h24 with h | h <;> simp [h]
      refine Ev.ite_t (decide_eq_true (by omega)) (Ev.bindc (idx_at hx) (Ev.bindc (a := false) ?_ (Ev.ite_f (by simp) (Ev.bind (a := Sum.inr false) ?_ (Ev.const rfl)))))
      · by_cases h2 : x.length = 2
        · rw [if_neg (by simp [h2])]
        · rw [if_pos (by simp; omega), idx_at hx, Option.bind_some]
          have h4 : x.length = 4 := by omega
          simp [h4]
      · refine (EvI.all x.length (okOf in120 x) false (fun j hj hj' => ?_) (fun j hj hj' => ?_) ?_).ev.eq ?_
        · obtain ⟨v, hv⟩ := get_lt hj
          rw [okOf_at hv] at hj'
          refine Ev.bindc (idx_at hx) (Ev.ite_t (decide_eq_true (by omega)) (Ev.bindc (idx_at hx) (Ev.bindc (idx_at hv) (Ev.bind (Ev.const' fun m => l00In_eq) (Ev.ite_f ?_ (Ev.const (by rw [W_succ hj (by omega)])))))))
          unfold in120 at hj'
          rw [hj']; simp
        · obtain ⟨v, hv⟩ := get_lt hj
          rw [okOf_at hv] at hj'
          refine Ev.bindc (idx_at hx) (Ev.ite_t (decide_eq_true (by omega)) (Ev.bindc (idx_at hx) (Ev.bindc (idx_at hv) (Ev.bind (Ev.const' fun m => l00In_eq) (Ev.ite_t ?_ (Ev.pure _))))))
          unfold in120 at hj'
          rw [hj']; simp
        · exact Ev.bindc (idx_at hx) (Ev.ite_f (by simp) (Ev.pure _))
        · rw [okOf_all, if_neg (by rw [hin]; simp)]
    · refine Ev.ite_t (decide_eq_true (by omega)) (Ev.bindc (idx_at hx) (Ev.bindc (a := true) ?_ (Ev.ite_t rfl (Ev.pure _))))
      rw [if_pos (by simp; omega), idx_at hx, Option.bind_some]
      refine congrArg some ?_
      simp; omega
  · rw [okOf_all]
    unfold proofP
    cases a.2.all rowP
    · rw [if_neg (by simp), ctl_r, Bool.and_false]
    · rw [if_pos rfl, ctl_l, Bool.and_true]
      exact congrArg some (decide_eq_decide.2 (by omega))
theorem proof_rows {a : Timpl_Proof} (h : proofP a = true) : a.2.length ≤ 120 ∧ ∀ x ∈ a.2, listP x = true ∧ (x.length = 2 ∨ x.length = 4) := by
  unfold proofP at h
  simp only [Bool.and_eq_true, decide_eq_true_eq, List.all_eq_true] at h
  exact ⟨h.1, fun x hx => rowP_list (h.2 x hx)⟩
theorem headT_len {b : Bool} : (headT b).length ≤ 5 := by cases b <;> simp [headT]
theorem ppre_len {a : Timpl_Proof} (h : proofP a = true) (k : Nat) : (Lib.join (headT a.1 :: (a.2.take k).map lstT) [10]).length ≤ 200000 := by
  obtain ⟨h1, h2⟩ := proof_rows h
  have hj := join_le (c := [10]) (L := 1408) (headT a.1 :: (a.2.take k).map lstT) (fun x hx => by
    rcases List.mem_cons.1 hx with rfl | hx
    · have := headT_len (b := a.1); omega
    · obtain ⟨y, hy, rfl⟩ := List.mem_map.1 hx
      exact lstT_len (h2 y (List.mem_of_mem_take hy)).1)
  rw [List.length_cons, List.length_map] at hj
  have h3 : (a.2.take k).length + 1 ≤ 121 := by rw [List.length_take]; omega
  have h4 := Nat.mul_le_mul h3 (Nat.le_refl (1408 + ([10] : Str).length))
  have h5 : 121 * (1408 + ([10] : Str).length) ≤ 200000 := by decide
  omega
theorem ptext_ref {a : Timpl_Proof} (h : proofP a = true) : Ev (fun m => spec_l24Text_m m a) (proofT a) := by
  obtain ⟨h1, h2⟩ := proof_rows h
  have rest : ∀ b : Bool, b = a.1 → Ev (fun fuel => (iter (fun (s : (Str) × (Int)) => (match s with | (x62, x63) => (if (decide (x63 < (a.2.length : Int))) = true then (idx a.2 x63).bind fun x93 => (spec_l01List_m fuel x93).bind fun x102 => (cat ([10] : Str) x102).bind fun x105 => (cat x62 x105).bind fun x107 => some (.inl (x107, (W (x63 + (1 : Int))))) else some (.inr (.inl (x62)))) : Option (((Str) × (Int)) ⊕ ((Str) ⊕ (Str))))) fuel (headT b, (0 : Int))).bind fun res84 => ctl (β := Str) (ρ := Str) (τ := Str) res84 (fun (x83) => some (x83)) (fun q => some (q))) (proofT a) := by
    intro b hb
    subst hb
    refine Ev.bind (a := Sum.inl (proofT a)) (EvI.ev ?_) (Ev.pure _)
    refine EvI.upto a.2.length (fun k (_ : Unit) => (Lib.join (headT a.1 :: (a.2.take k).map lstT) [10], (k : Int))) (fun _ _ => True) (k := 0) (t := ()) (by simp [Lib.join_one]) (Nat.zero_le _) trivial (fun k _ hk _ => ⟨(), ?_, trivial⟩) (fun _ _ => by
      dsimp only
      exact Ev.ite_f (by simp) (Ev.const (by rw [List.take_length]; rfl)))
    obtain ⟨x, hx⟩ := get_lt hk
    have hp := (h2 x (List.mem_of_getElem? hx)).1
    have hll := lstT_len hp
    have hjl := ppre_len h k
    have hlst : Ev (fun m => spec_l01List_m m x) (lstT x) := by
      unfold listP at hp
      simp only [Bool.and_eq_true, decide_eq_true_eq, List.all_eq_true] at hp
      exact lst_spec (by omega) fun v hv => by have := val12_iff.1 (hp.2 v hv); omega
    dsimp only
    rw [List.take_add_one, hx, List.map_append, ← List.cons_append]
    rw [show (some x).toList.map lstT = [lstT x] from rfl, join_snoc, if_neg (by simp)]
    refine Ev.ite_t (decide_eq_true (by omega)) (Ev.bindc (idx_at hx) (Ev.bind hlst (Ev.bindc (cat_ev (by simp; omega)) (Ev.bindc (cat_ev (by simp only [List.length_append, List.length_cons, List.length_nil]; omega)) (Ev.const ?_)))))
    rw [W_succ hk (by omega), List.append_assoc]
  unfold spec_l24Text_m
  refine Ev.join ?_
  by_cases hb : a.1 = true
  · have := rest true hb.symm
    exact Ev.ite_t hb this
  · have := rest false (by simpa using hb)
    exact Ev.ite_f hb this
theorem ptext_impl {a : Timpl_Proof} (hl : BII a.2) : Ev (fun m => impl_ProofText_m m a) (if proofP a = true then proofT a else []) := by
  have hmx := mx
  obtain ⟨hl, g⟩ := hl
  unfold impl_ProofText_m
  by_cases h120 : 120 < a.2.length
  · refine Ev.eq (r := []) (Ev.ite_t (decide_eq_true (by omega)) (Ev.pure _)) ?_
    rw [if_neg]
    intro h
    have := (proof_rows h).1
    omega
  refine Ev.ite_f (by simp; omega) ?_
  have rest : ∀ xs0 : List Str, xs0 = [headT a.1] → Ev (fun fuel => (iter (fun (s : (List Str) × (Int)) => (match s with | (xs87, x89) => (if (decide (x89 < (a.2.length : Int))) = true then (idx a.2 x89).bind fun x144 => (if ((x144.length : Int) != (2 : Int)) = true then some ((x144.length : Int) != (4 : Int)) else some false).bind fun t151 => (if t151 = true then some true else (slices_ContainsFunc__int64_int64_m fuel x144 (fun (z0 : Int) => impl_ProofText_1_m fuel z0)).bind fun x159 => some x159).bind fun t154 => (if t154 = true then some (.inr (.inr ([] : Str))) else (impl_ListText_m fuel x144).bind fun x165 => (app xs87 [x165]).bind fun x171 => some (.inl (x171, (W (x89 + (1 : Int)))))) else some (.inr (.inl (xs87)))) : Option (((List Str) × (Int)) ⊕ (((List Str)) ⊕ (Str))))) fuel (xs0, (0 : Int))).bind fun res130 => ctl (β := (List Str)) (ρ := Str) (τ := Str) res130 (fun (xs128) => (strings_Join_m fuel xs128 ([10] : Str)).bind fun x137 => some (x137)) (fun q => some (q))) (if proofP a = true then proofT a else []) := by
    intro xs0 hxs0
    subst hxs0
    have hP : proofP a = a.2.all rowP := by unfold proofP; rw [decide_eq_true (show a.2.length ≤ 120 by omega), Bool.true_and]
    refine Exists.elim (EvI.count (β := List Str ⊕ Str) (step := fun fuel (s : (List Str) × (Int)) => (match s with | (xs87, x89) => (if (decide (x89 < (a.2.length : Int))) = true then (idx a.2 x89).bind fun x144 => (if ((x144.length : Int) != (2 : Int)) = true then some ((x144.length : Int) != (4 : Int)) else some false).bind fun t151 => (if t151 = true then some true else (slices_ContainsFunc__int64_int64_m fuel x144 (fun (z0 : Int) => impl_ProofText_1_m fuel z0)).bind fun x159 => some x159).bind fun t154 => (if t154 = true then some (.inr (.inr ([] : Str))) else (impl_ListText_m fuel x144).bind fun x165 => (app xs87 [x165]).bind fun x171 => some (.inl (x171, (W (x89 + (1 : Int)))))) else some (.inr (.inl (xs87)))) : Option (((List Str) × (Int)) ⊕ (((List Str)) ⊕ (Str)))))
      a.2.length (fun k (_ : Unit) => (headT a.1 :: (a.2.take k).map lstT, (k : Int))) (fun k _ => (a.2.take k).all rowP = true)
      (fun r => r = (if proofP a = true then .inl (headT a.1 :: a.2.map lstT) else .inr [])) ?_ ?_ (k := 0) (t := ()) (Nat.zero_le _) (by simp)) (fun res ⟨e1, e2⟩ => ?_)
    · intro k _ hk hI
      obtain ⟨x, hx⟩ := get_lt hk
      have hgx := g x (List.mem_of_getElem? hx)
      have htk : a.2.take (k + 1) = a.2.take k ++ [x] := by rw [List.take_add_one, hx]; rfl
      have hfind : Ev (fun m => slices_ContainsFunc__int64_int64_m m x (fun z0 => impl_ProofText_1_m m z0)) (!(x.all in120)) := by
        have := contains_loop (a := x) (by omega) (f := fun m z => impl_ProofText_1_m m z) (ok := in120) (fun v _ => Ev.const' fun m => by
          unfold impl_ProofText_1_m
          simp only [within_eq, Option.bind_some]
          rfl)
        unfold slices_ContainsFunc__int64_int64_m slices_IndexFunc__int64_int64_m
        exact this
      have hbad : Ev (fun m => (if ((x.length : Int) != (2 : Int)) = true then some ((x.length : Int) != (4 : Int)) else some false).bind fun t151 => (if t151 = true then some true else (slices_ContainsFunc__int64_int64_m m x (fun (z0 : Int) => impl_ProofText_1_m m z0)).bind fun x159 => some x159)) (!(rowP x)) := by
        by_cases h24 : x.length = 2 ∨ x.length = 4
        · have e : rowP x = x.all in120 := by
            unfold rowP
            rcases h24 with h | h <;> simp [h]
          rw [e]
          refine Ev.bindc (a := false) ?_ (Ev.ite_f (by simp) (Ev.bind hfind (Ev.pure _)))
          by_cases h2 : x.length = 2
          · rw [if_neg (by simp [h2])]
          · rw [if_pos (by simp; omega)]
            have h4 : x.length = 4 := by omega
            simp [h4]
        · have e : rowP x = false := by
            unfold rowP
            rw [decide_eq_false (by omega), decide_eq_false (by omega)]; rfl
          rw [e]
          refine Ev.bindc (a := true) ?_ (Ev.ite_t rfl (Ev.pure _))
          rw [if_pos (by simp; omega)]
          refine congrArg some ?_
          simp; omega
      cases hr : rowP x
      · right
        rw [hr] at hbad
        refine ⟨.inr [], Ev.ite_t (decide_eq_true (by omega)) (Ev.bindc (idx_at hx) ?_), ?_⟩
        · obtain ⟨b, hb1, hb2⟩ : ∃ b, (if ((x.length : Int) != (2 : Int)) = true then some ((x.length : Int) != (4 : Int)) else some false) = some b ∧ Ev (fun m => (if b = true then some true else (slices_ContainsFunc__int64_int64_m m x (fun (z0 : Int) => impl_ProofText_1_m m z0)).bind fun x159 => some x159)) true := by
            cases hq : (if ((x.length : Int) != (2 : Int)) = true then some ((x.length : Int) != (4 : Int)) else some false) with
            | none => split at hq <;> cases hq
            | some b =>
              rw [hq] at hbad
              exact ⟨b, rfl, hbad⟩
          exact Ev.bindc hb1 (Ev.bind hb2 (Ev.ite_t rfl (Ev.pure _)))
        · rw [if_neg]
          rw [hP, List.all_eq_true]
          intro h
          rw [h x (List.mem_of_getElem? hx)] at hr
          cases hr
      · left
        rw [hr] at hbad
        obtain ⟨hp, _⟩ := rowP_list hr
        have hlt := lstT_impl (vs := x) (by omega)
        rw [if_pos hp] at hlt
        refine ⟨(), Ev.ite_t (decide_eq_true (by omega)) (Ev.bindc (idx_at hx) ?_), by rw [htk, List.all_append, hI]; simp [hr]⟩
        obtain ⟨b, hb1, hb2⟩ : ∃ b, (if ((x.length : Int) != (2 : Int)) = true then some ((x.length : Int) != (4 : Int)) else some false) = some b ∧ Ev (fun m => (if b = true then some true else (slices_ContainsFunc__int64_int64_m m x (fun (z0 : Int) => impl_ProofText_1_m m z0)).bind fun x159 => some x159)) false := by
          cases hq : (if ((x.length : Int) != (2 : Int)) = true then some ((x.length : Int) != (4 : Int)) else some false) with
          | none => split at hq <;> cases hq
          | some b =>
            rw [hq] at hbad
            exact ⟨b, rfl, hbad⟩
        refine Ev.bindc hb1 (Ev.bind hb2 (Ev.ite_f (by simp) (Ev.bind hlt (Ev.bindc (app_ok (by rw [List.length_cons, List.length_map, List.length_take]; simp; omega)) (Ev.const ?_)))))
        rw [W_succ hk (by omega), htk, List.map_append]
        rfl
    · intro _ hI
      rw [List.take_length] at hI
      refine ⟨.inl (headT a.1 :: a.2.map lstT), Ev.ite_f (by simp) (Ev.const (by rw [List.take_length])), ?_⟩
      rw [if_pos (by rw [hP]; exact hI)]
    · subst e2
      refine Ev.bind e1.ev ?_
      by_cases h : proofP a = true
      · rw [if_pos h, if_pos h]
        have hjl := ppre_len h a.2.length
        rw [List.take_length] at hjl
        show Ev (fun m => (strings_Join_m m (headT a.1 :: a.2.map lstT) ([10] : Str)).bind fun x => some x) _
        refine Ev.bind (a := proofT a) (Ev.const' fun m => ?_) (Ev.pure _)
        unfold strings_Join_m
        rw [if_pos ⟨by simp; omega, by omega⟩]
        rfl
      · rw [if_neg h, if_neg h]
        exact Ev.const rfl
  refine Ev.join ?_
  by_cases hb : a.1 = true
  · refine Ev.ite_t hb (Ev.bindc (a := [102, 97, 108, 115, 101]) rfl (rest _ ?_))
    rw [hb]; rfl
  · refine Ev.ite_f hb (rest _ ?_)
    rw [show a.1 = false from by simpa using hb]; rfl
theorem ptext_core {a : Tlaws_Proof} (B : BII a.2) : ∃ r, Ev (fun m => spec_ProofText_m m a) r ∧ Ev (fun m => impl_ProofText_m m a) r := by
  refine ⟨if proofP a = true then proofT a else [], ?_, ptext_impl B⟩
  unfold spec_ProofText_m
  refine Ev.bind (rows_ref (a := a) B) ?_
  cases hp : proofP a
  · exact Ev.eq (r := []) (Ev.ite_t rfl (Ev.pure _)) (by simp)
  · exact Ev.eq (r := proofT a) (Ev.ite_f (by simp) (Ev.bind (ptext_ref hp) (Ev.pure _))) (by simp)
set_option maxHeartbeats 4000000 in
theorem law_ProofText {a : Tlaws_Proof} (g_a : (GPf) a) : ∃ n, laws_FnExactProofText_m n a = some true := by
  have hm : maxLen = 9223372036854775807 := by unfold maxLen; rfl
  refine Ev.one (f := fun n => laws_FnExactProofText_m n a) ?_
  unfold laws_FnExactProofText_m
  obtain ⟨r1, h1, s1⟩ := sz_proof g_a (b := (1048576 : Int)) (by omega) (by omega)
  refine Ev.bind h1 ?_
  by_cases n1 : r1 < 0
  · exact Ev.ite_t (decide_eq_true n1) (Ev.pure _)
  rcases s1 with s1 | ⟨p1, q1, B_a⟩
  · exact absurd s1 n1
  refine Ev.ite_f (by simpa using n1) ?_
  obtain ⟨r, hs, hi⟩ := ptext_core B_a
  have to_a_ := toB_proof B_a
  have eq_a_ := eqB_proof B_a
  repeat (first
    | exact Ev.pure _
    | refine Ev.bind (by with_reducible assumption) ?_
    | refine Ev.ite_f (by first | (simp; done) | (simp; omega)) ?_
    | refine Ev.bind (Ev.ite_f (by first | (simp; done) | (simp; omega)) (Ev.bind (by with_reducible assumption) (Ev.pure _))) ?_
    | refine Ev.bind (a := false) (Ev.ite_f (by first | (simp; done) | (simp; omega)) (Ev.const (by simp))) ?_
    | refine Ev.bind (a := false) (Ev.ite_f (by first | (simp; done) | (simp; omega)) (Ev.bind (by with_reducible assumption) (Ev.const (by simp)))) ?_
    | refine Ev.bindc (by with_reducible rfl) ?_)
end Go.Proofs.YtepcckhcocjgaaaDoor

