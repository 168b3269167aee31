/-
  One walk of a region, in the order of its text, serves every order that its edges allow: operations that only read are carried out in any world of a class, the others one behind the other.
-/
import Derived.Test.YtcaedcalbjkkgaaGxB
namespace Go.Gx
open Go.RowKit

section
variable (P : Program) (ops : Array Oper) (C : World → Prop) (eff : Nat → Bool)

/-- The operation yields v and leaves the world alone. -/
def Runs (o : Oper) (a : Act) (w : World) (v : Value) : Prop :=
  (execOp a.eval o).run P w = .ok (.value v) w ∨ ((execOp a.eval o).run P w = .ok .skip w ∧ v = undef)

def effUpon (o : Oper) (a : Act) (K : Act → World → Prop) : Result Next → Prop
  | .ok (.value v) w' => K (a.put o.dst v) w'
  | .ok .skip w' => K (a.put o.dst undef) w'
  | .ok (.enter f args) w' => Calls P f args w' (fun e w'' => ∃ v, e = .returned v ∧ K (a.put o.dst v) w'')
  | _ => False

/-- The operation is carried out and K holds behind it. -/
def EffAt (o : Oper) (a : Act) (w : World) (K : Act → World → Prop) : Prop := effUpon P o a K ((execOp a.eval o).run P w)

/-- One step: passed over, quiet, or carried out. -/
def Step (i : Nat) (o : Oper) (a : Act) (w : World) (K : Act → World → Prop) : Prop :=
  if Region.wanted o (yielded ops a.tmps) = true then
    (∃ v, (∀ w1, C w1 → Runs P o a w1 v) ∧ K (a.put o.dst v) w) ∨ (eff i = true ∧ EffAt P o a w (fun a' w' => C w' ∧ K a' w'))
  else K (a.put o.dst undef) w

/-- The walk over operations. -/
def LX (Q : Act → World → Prop) : Nat → List Oper → Act → World → Prop
  | _, [], a, w => Q a w
  | k, o :: rest, a, w => Step P ops C eff k o a w (LX Q (k + 1) rest)

/-- The walk over places. -/
def LI (Q : Act → World → Prop) : List Nat → Act → World → Prop
  | [], a, w => Q a w
  | i :: rest, a, w => ∃ o, ops[i]? = some o ∧ Step P ops C eff i o a w (LI Q rest)
end

section
variable {P : Program} {ops : Array Oper} {C : World → Prop} {eff : Nat → Bool} {Q : Act → World → Prop}

theorem effUpon_mono {o : Oper} {a : Act} {K K' : Act → World → Prop} (h : ∀ v w, K (a.put o.dst v) w → K' (a.put o.dst v) w) {r : Result Next} (hh : effUpon P o a K r) : effUpon P o a K' r := by
  cases r with
  | ok n w' =>
    cases n <;> simp only [effUpon] at hh ⊢
    case value => exact h _ _ hh
    case skip => exact h _ _ hh
    case enter => exact hh.mono fun e w'' ⟨v, h1, h2⟩ => ⟨v, h1, h _ _ h2⟩
  | halt x w' => exact hh

theorem Step.mono {i : Nat} {o : Oper} {a : Act} {w : World} {K K' : Act → World → Prop} (hC : C w) (h : ∀ v w, C w → K (a.put o.dst v) w → K' (a.put o.dst v) w) (hh : Step P ops C eff i o a w K) : Step P ops C eff i o a w K' := by
  unfold Step at *
  split
  · rename_i hw
    rw [if_pos hw] at hh
    rcases hh with ⟨v, h1, h2⟩ | ⟨h1, h2⟩
    · exact .inl ⟨v, h1, h _ _ hC h2⟩
    · exact .inr ⟨h1, effUpon_mono (fun v w ⟨x, y⟩ => ⟨x, h _ _ x y⟩) h2⟩
  · rename_i hw
    rw [if_neg hw] at hh
    exact h _ _ hC hh

theorem LI_of_LX : ∀ (l : List Oper) (k : Nat) (a : Act) (w : World), (∀ j, l[j]? = ops[k + j]?) → C w → LX P ops C eff Q k l a w → LI P ops C eff Q (List.range' k l.length) a w
  | [], _, _, _, _, _, h => h
  | o :: l, k, a, w, hl, hC, h => by
    refine ⟨o, by simpa using (hl 0).symm, Step.mono hC (fun v w' hC' h' => ?_) h⟩
    have := LI_of_LX l (k + 1) _ w' (fun j => by have := hl (j + 1); simpa [Nat.add_assoc, Nat.add_comm 1 j] using this) hC' h'
    simpa [List.length_cons, List.range'_succ] using this

theorem LI_mono {l l' : List Nat} (h : ∀ a w, C w → LI P ops C eff Q l a w → LI P ops C eff Q l' a w) {i : Nat} {a : Act} {w : World} (hC : C w) (hh : LI P ops C eff Q (i :: l) a w) : LI P ops C eff Q (i :: l') a w := by
  obtain ⟨o, ho, hs⟩ := hh
  exact ⟨o, ho, hs.mono hC fun v w' => h _ _⟩

theorem Runs.put {o : Oper} {a : Act} {w : World} {v u : Value} {dst : Option Tmp} (hs : ∀ cs b, o.op ≠ .select cs b) (h : ∀ d, dst = some d → d ∉ o.looksAt ops) :
    Runs P o (a.put dst u) w v ↔ Runs P o a w v := by
  unfold Runs
  rw [execOp_put o hs a dst u h]

theorem Runs.eq {o : Oper} {a : Act} {w : World} {v u : Value} (h : Runs P o a w v) (h' : Runs P o a w u) : v = u := by
  unfold Runs at h h'
  rcases h with h | ⟨h, rfl⟩ <;> rcases h' with h' | ⟨h', rfl⟩ <;> rw [h] at h' <;> simp at h'
  exact h'

/-- Two steps apart change places. -/
theorem Step.swap {i j : Nat} {oi oj : Oper} {a : Act} {w : World} {K : Act → World → Prop} (hC : C w) (hap : oj.apart ops oi = true) (hne : ¬ (eff i = true ∧ eff j = true))
    (hsi : ∀ cs b, oi.op ≠ .select cs b) (hsj : ∀ cs b, oj.op ≠ .select cs b)
    (h : Step P ops C eff j oj a w (fun a w => Step P ops C eff i oi a w K)) : Step P ops C eff i oi a w (fun a w => Step P ops C eff j oj a w K) := by
  obtain ⟨h1, h2, h3⟩ := Oper.apart_spec hap
  -- h1: oj's slot is not looked at by oi; h2: their slots differ; h3: oi's slot is not looked at by oj
  have wi : ∀ u, Region.wanted oi (yielded ops (a.put oj.dst u).tmps) = Region.wanted oi (yielded ops a.tmps) := fun u => wanted_put oi a oj.dst u h1
  have wj : ∀ u, Region.wanted oj (yielded ops (a.put oi.dst u).tmps) = Region.wanted oj (yielded ops a.tmps) := fun u => wanted_put oj a oi.dst u h3
  have comm : ∀ u v, (a.put oj.dst u).put oi.dst v = (a.put oi.dst v).put oj.dst u := fun u v => Act.put_comm a u v h2
  have ei : ∀ u, execOp (a.put oj.dst u).eval oi = execOp a.eval oi := fun u => execOp_put oi hsi a oj.dst u h1
  have ej : ∀ u, execOp (a.put oi.dst u).eval oj = execOp a.eval oj := fun u => execOp_put oj hsj a oi.dst u h3
  -- what the second step says behind a value u of the first, said of the frame a
  have key : ∀ (u : Value) (w' : World), Step P ops C eff i oi (a.put oj.dst u) w' K →
      Step P ops C eff i oi a w' (fun a' w'' => K (a'.put oj.dst u) w'') := by
    intro u w' hh
    unfold Step at hh ⊢
    rw [wi u] at hh
    split
    · rename_i hw
      rw [if_pos hw] at hh
      rcases hh with ⟨v, hv, hk⟩ | ⟨he, hk⟩
      · exact .inl ⟨v, fun w1 hw1 => (Runs.put hsi h1).1 (hv w1 hw1), by show K _ _; rw [← comm]; exact hk⟩
      · refine .inr ⟨he, ?_⟩
        unfold EffAt at hk ⊢
        rw [ei u] at hk
        generalize (execOp a.eval oi).run P w' = r at hk
        cases r with
        | ok n w'' =>
          cases n <;> simp only [effUpon] at hk ⊢
          case value v => rw [comm] at hk; exact hk
          case skip => rw [comm] at hk; exact hk
          case enter f args => exact hk.mono fun e w3 ⟨v, hv, hx⟩ => ⟨v, hv, by rw [comm] at hx; exact hx⟩
        | halt x w'' => exact hk
    · rename_i hw
      rw [if_neg hw] at hh
      show K _ _
      rw [← comm]
      exact hh
  by_cases hwj : Region.wanted oj (yielded ops a.tmps) = true
  · unfold Step at h
    rw [if_pos hwj] at h
    rcases h with ⟨u, hu, hk⟩ | ⟨hej, hk⟩
    · refine Step.mono hC (fun v w' _ hx => ?_) (key u w hk)
      unfold Step
      rw [if_pos (by rw [wj]; exact hwj)]
      exact .inl ⟨u, fun w1 hw1 => (Runs.put hsj h3).2 (hu w1 hw1), hx⟩
    · -- oj is carried out; oi is then quiet
      have hei : ¬ eff i = true := fun x => hne ⟨x, hej⟩
      have hq : ∀ (u : Value) (w' : World), C w' → Step P ops C eff i oi (a.put oj.dst u) w' K →
          (Region.wanted oi (yielded ops a.tmps) = true → ∃ v, (∀ w1, C w1 → Runs P oi a w1 v)) := by
        intro u w' _ hh hw
        unfold Step at hh
        rw [wi u, if_pos hw] at hh
        rcases hh with ⟨v, hv, _⟩ | ⟨he, _⟩
        · exact ⟨v, fun w1 hw1 => (Runs.put hsi h1).1 (hv w1 hw1)⟩
        · exact absurd he hei
      by_cases hwi : Region.wanted oi (yielded ops a.tmps) = true
      · obtain ⟨v, hv⟩ : ∃ v, ∀ w1, C w1 → Runs P oi a w1 v := by
          unfold EffAt at hk
          generalize (execOp a.eval oj).run P w = r at hk
          cases r with
          | ok n w'' =>
            cases n <;> simp only [effUpon] at hk
            case value u => exact hq u _ hk.1 hk.2 hwi
            case skip => exact hq undef _ hk.1 hk.2 hwi
            case enter f args =>
              obtain ⟨e, w3, fr, ⟨u, _, hc, hx⟩, _⟩ := hk []
              exact hq u _ hc hx hwi
          | halt x w'' => exact hk.elim
        unfold Step
        rw [if_pos hwi]
        refine .inl ⟨v, hv, ?_⟩
        dsimp only
        rw [if_pos (by rw [wj]; exact hwj)]
        refine .inr ⟨hej, ?_⟩
        have fin : ∀ (u : Value) (w' : World), C w' → Step P ops C eff i oi (a.put oj.dst u) w' K → K ((a.put oi.dst v).put oj.dst u) w' := by
          intro u w' hC' hh
          unfold Step at hh
          rw [wi u, if_pos hwi] at hh
          rcases hh with ⟨v', hv', hk'⟩ | ⟨he, _⟩
          · have := Runs.eq ((Runs.put hsi h1).1 (hv' w' hC')) (hv w' hC')
            subst this
            rw [← comm]
            exact hk'
          · exact absurd he hei
        unfold EffAt at hk ⊢
        rw [ej v]
        generalize (execOp a.eval oj).run P w = r at hk
        cases r with
        | ok n w'' =>
          cases n <;> simp only [effUpon] at hk ⊢
          case value u => exact ⟨hk.1, fin u _ hk.1 hk.2⟩
          case skip => exact ⟨hk.1, fin undef _ hk.1 hk.2⟩
          case enter f args => exact hk.mono fun e w3 ⟨u, hu, hc, hx⟩ => ⟨u, hu, hc, fin u _ hc hx⟩
        | halt x w'' => exact hk
      · unfold Step
        rw [if_neg hwi]
        dsimp only
        rw [if_pos (by rw [wj]; exact hwj)]
        refine .inr ⟨hej, ?_⟩
        have fin : ∀ (u : Value) (w' : World), Step P ops C eff i oi (a.put oj.dst u) w' K → K ((a.put oi.dst undef).put oj.dst u) w' := by
          intro u w' hh
          unfold Step at hh
          rw [wi u, if_neg hwi] at hh
          rw [← comm]
          exact hh
        unfold EffAt at hk ⊢
        rw [ej undef]
        generalize (execOp a.eval oj).run P w = r at hk
        cases r with
        | ok n w'' =>
          cases n <;> simp only [effUpon] at hk ⊢
          case value u => exact ⟨hk.1, fin u _ hk.2⟩
          case skip => exact ⟨hk.1, fin undef _ hk.2⟩
          case enter f args => exact hk.mono fun e w3 ⟨u, hu, hc, hx⟩ => ⟨u, hu, hc, fin u _ hx⟩
        | halt x w'' => exact hk
  · unfold Step at h
    rw [if_neg hwj] at h
    refine Step.mono hC (fun v w' _ hx => ?_) (key undef w h)
    unfold Step
    rw [if_neg (by rw [wj]; exact hwj)]
    exact hx

/-- A ready place to the front, past places apart from it. -/
theorem LI.bring {i : Nat} {oi : Oper} (hi : ops[i]? = some oi) (hs : Region.noSelect ops = true) :
    ∀ (l1 l2 : List Nat) (a : Act) (w : World), C w → (∀ j ∈ l1, ∀ oj, ops[j]? = some oj → oj.apart ops oi = true ∧ ¬ (eff i = true ∧ eff j = true)) →
      LI P ops C eff Q (l1 ++ i :: l2) a w → LI P ops C eff Q (i :: (l1 ++ l2)) a w
  | [], _, _, _, _, _, h => h
  | j :: l1, l2, a, w, hC, hap, h => by
    have h' : LI P ops C eff Q (j :: (i :: (l1 ++ l2))) a w := LI_mono (fun a' w' hC' h' => LI.bring hi hs l1 l2 a' w' hC' (fun k hk => hap k (List.mem_cons_of_mem _ hk)) h') hC h
    obtain ⟨oj, hj, hst⟩ := h'
    obtain ⟨hap1, hne⟩ := hap j (List.mem_cons_self ..) oj hj
    have hst' : Step P ops C eff j oj a w (fun a w => Step P ops C eff i oi a w (LI P ops C eff Q (l1 ++ l2))) :=
      hst.mono hC fun v w' _ ⟨o, ho, hx⟩ => by rw [hi] at ho; cases ho; exact hx
    exact ⟨oi, hi, (Step.swap hC hap1 hne (Region.noSelect_spec hs i oi · · hi) (Region.noSelect_spec hs j oj · · hj) hst').mono hC fun v w' _ hx => ⟨oj, hj, hx⟩⟩

/-- Does place i wait, through edges, for place j? -/
def reach (ops : Array Oper) : Nat → Nat → Nat → Bool
  | 0, _, _ => false
  | n + 1, i, j => match ops[i]? with
    | none => false
    | some o => o.after.any (fun e => Region.binds .any e && e.on == j) || o.after.any (fun e => Region.binds .any e && reach ops n e.on j)

/-- The order of the text is one of the orders; two places of which none waits for the other are apart, and not both carried out. -/
def orderOk (ops : Array Oper) (eff : Nat → Bool) : Bool :=
  Region.noSelect ops && (List.range ops.size).all fun i => match ops[i]? with
    | none => true
    | some oi => oi.after.all (fun e => !Region.binds .any e || e.on < i) && (List.range i).all fun j => match ops[j]? with
      | none => true
      | some oj => oi.after.any (fun e => Region.binds .any e && e.on == j) || (oj.apart ops oi && !(eff i && eff j)) || reach ops ops.size i j

def Closed (ops : Array Oper) (listed : Array Bool) : Prop :=
  ∀ k, listed.getD k false = true → ∀ o, ops[k]? = some o → ∀ e ∈ o.after, Region.binds .any e = true → listed.getD e.on false = true

theorem reach_listed {listed : Array Bool} (hc : Closed ops listed) : ∀ (n i j : Nat), (∀ o, ops[i]? = some o → ∀ e ∈ o.after, Region.binds .any e = true → listed.getD e.on false = true) →
    reach ops n i j = true → listed.getD j false = true
  | 0, _, _, _, h => by cases h
  | n + 1, i, j, hi, h => by
    unfold reach at h
    cases ho : ops[i]? with
    | none => rw [ho] at h; cases h
    | some o =>
      rw [ho] at h
      simp only [Bool.or_eq_true, Array.any_eq_true'] at h
      rcases h with ⟨e, he, hb⟩ | ⟨e, he, hb⟩
      · simp only [Bool.and_eq_true, beq_iff_eq] at hb
        rw [← hb.2]
        exact hi o ho e he hb.1
      · simp only [Bool.and_eq_true] at hb
        have hl := hi o ho e he hb.1
        exact reach_listed hc n e.on j (fun o' ho' => hc e.on hl o' ho') hb.2

theorem wpAny_of_LI {Q' : Exit → Act → World → Prop} (hok : orderOk ops eff = true) (hQ : ∀ a w, Q a w → Q' .normal a w) :
    ∀ (fuel : Nat) (listed : Array Bool) (l : List Nat) (a : Act) (w : World), listed.size = ops.size → Closed ops listed → l.Pairwise (· < ·) → l.length = fuel →
      (∀ i, i < ops.size → (i ∈ l ↔ listed.getD i true = false)) → (∀ i ∈ l, i < ops.size) → C w → LI P ops C eff Q l a w → wpAny P .any ops Q' fuel listed a w := by
  simp only [orderOk, Bool.and_eq_true, List.all_eq_true, List.mem_range] at hok
  obtain ⟨hsel, hok⟩ := hok
  intro fuel
  induction fuel with
  | zero =>
    intro listed l a w _ _ _ hlen hmem _ _ h
    have : l = [] := List.eq_nil_of_length_eq_zero hlen
    subst this
    refine ⟨?_, hQ _ _ h⟩
    refine List.eq_nil_iff_forall_not_mem.2 fun i hi => ?_
    obtain ⟨h0, o, ho, _⟩ := mem_ready.1 hi
    have := (hmem i (Array.getElem?_eq_some_iff.1 ho).1).2 h0
    cases this
  | succ fuel ih =>
    intro listed l a w hsz hcl hpw hlen hmem hlt hC h
    have getD2 : ∀ i, i < ops.size → listed.getD i false = listed.getD i true := fun i hi => by simp [Array.getD, hsz, hi]
    constructor
    · intro hr
      exfalso
      cases l with
      | nil => simp at hlen
      | cons i l' =>
        have hi := hlt i (List.mem_cons_self ..)
        have hun := (hmem i hi).1 (List.mem_cons_self ..)
        have ho : ops[i]? = some ops[i] := Array.getElem?_eq_getElem hi
        have hmr : i ∈ Region.ready .any ops listed := by
          refine mem_ready.2 ⟨hun, _, ho, fun e he hb => ?_⟩
          have h1 := hok i hi
          rw [ho] at h1
          simp only [Bool.and_eq_true] at h1
          have h2 := Array.all_eq_true_iff_forall_mem.1 h1.1 e he
          simp only [hb, Bool.not_true, Bool.false_or, decide_eq_true_eq] at h2
          have hlt2 : e.on < ops.size := by omega
          have hn : e.on ∉ i :: l' := by
            intro hm
            rcases List.mem_cons.1 hm with hx | hx
            · omega
            · have := (List.pairwise_cons.1 hpw).1 _ hx; omega
          have h3 : ¬ listed.getD e.on true = false := fun hx => hn ((hmem _ hlt2).2 hx)
          rw [getD2 _ hlt2]
          simpa using h3
        rw [hr] at hmr
        cases hmr
    · intro i hi
      obtain ⟨hun, oi, hoi, hall⟩ := mem_ready.1 hi
      have hil := (Array.getElem?_eq_some_iff.1 hoi).1
      have him : i ∈ l := (hmem i hil).2 hun
      obtain ⟨l1, l2, rfl⟩ := List.append_of_mem him
      have hpw2 := List.pairwise_append.1 hpw
      have hap : ∀ j ∈ l1, ∀ oj, ops[j]? = some oj → oj.apart ops oi = true ∧ ¬ (eff i = true ∧ eff j = true) := by
        intro j hj oj hoj
        have hji : j < i := hpw2.2.2 j hj i (List.mem_cons_self ..)
        have hjn : j < ops.size := by omega
        have hju := (hmem j hjn).1 (by simp [hj])
        have hjf : ¬ listed.getD j false = true := by rw [getD2 j hjn, hju]; simp
        have h1 := hok i hil
        rw [hoi] at h1
        simp only [Bool.and_eq_true, List.all_eq_true, List.mem_range] at h1
        have h2 := h1.2 j hji
        rw [hoj] at h2
        simp only [Bool.or_eq_true, Bool.and_eq_true, Bool.not_eq_true', Bool.and_eq_false_iff] at h2
        rcases h2 with (h2 | h2) | h2
        · obtain ⟨e, he, hb⟩ := Array.any_eq_true'.1 h2
          simp only [Bool.and_eq_true, beq_iff_eq] at hb
          exact absurd (by rw [← hb.2]; exact hall e he hb.1) hjf
        · exact ⟨h2.1, fun hx => by rcases h2.2 with h | h <;> simp_all⟩
        · exact absurd (reach_listed hcl _ i j (fun o ho e he hb => by rw [hoi] at ho; cases ho; exact hall e he hb) h2) hjf
      have hb := LI.bring hoi hsel l1 l2 a w hC hap h
      obtain ⟨o, ho, hst⟩ := hb
      rw [hoi] at ho
      cases ho
      have hnext : ∀ a' w', C w' → LI P ops C eff Q (l1 ++ l2) a' w' → wpAny P .any ops Q' fuel (listed.setIfInBounds i true) a' w' := by
        intro a' w' hC' h'
        have hsub : (l1 ++ l2).Sublist (l1 ++ i :: l2) := List.Sublist.append_left (List.sublist_cons_self ..) _
        refine ih (listed.setIfInBounds i true) (l1 ++ l2) a' w' (by simp [hsz]) ?_ (hpw.sublist hsub) (by simp at hlen ⊢; omega) ?_ (fun j hj => hlt j (hsub.subset hj)) hC' h'
        · intro k hk o ho e he hb
          by_cases hki : i = k
          · subst hki
            rw [hoi] at ho
            cases ho
            exact getD_set_true (hall e he hb)
          · rw [getD_set_ne false hki] at hk
            exact getD_set_true (hcl k hk o ho e he hb)
        · intro j hj
          by_cases hji : i = j
          · subst hji
            have h1 : i ∉ l1 := fun hx => by have := hpw2.2.2 i hx i (List.mem_cons_self ..); omega
            have h2 : i ∉ l2 := fun hx => by have := (List.pairwise_cons.1 hpw2.2.1).1 i hx; omega
            have hsz' : i < listed.size := by omega
            simp [h1, h2, Array.getD, hsz']
          · rw [getD_set_ne true hji, ← hmem j hj]
            have : j ≠ i := fun hx => hji hx.symm
            simp [this]
      unfold wpOp
      rw [hoi]
      dsimp only
      unfold Step at hst
      split
      · rename_i hw
        rw [if_pos hw] at hst
        left
        unfold Oper.wp
        rcases hst with ⟨v, hv, hk⟩ | ⟨_, hk⟩
        · rcases hv w hC with hr | ⟨hr, rfl⟩ <;> rw [hr]
          · exact hnext _ _ hC hk
          · exact hnext _ _ hC hk
        · unfold EffAt at hk
          generalize (execOp a.eval oi).run P w = r at hk
          cases r with
          | ok n w'' =>
            cases n <;> simp only [effUpon] at hk <;> simp only [Oper.upon]
            case value v => exact hnext _ _ hk.1 hk.2
            case skip => exact hnext _ _ hk.1 hk.2
            case enter f args => exact hk.mono fun e w3 ⟨v, hv, hc, hx⟩ => by subst hv; exact hnext _ _ hc hx
          | halt x w'' => exact hk.elim
      · rename_i hw
        rw [if_neg hw] at hst
        exact hnext _ _ hC hst

/-- A region that draws its order. -/
theorem region_draw {id : Nat} {l : List Oper} {Q' : Exit → Act → World → Prop} {a : Act} {w : World} (C : World → Prop) (eff : Nat → Bool) (hm : P.follows .mixedOrders = true)
    (hok : orderOk l.toArray eff = true) (hC : C { w with drawn := w.drawn + 1 }) (h : LX P l.toArray C eff (fun a w => Q' .normal a w) 0 l a { w with drawn := w.drawn + 1 }) : (Code.region id l.toArray true).wp P Q' a w := by
  refine wp_region_any hm (wpAny_of_LI (C := C) (eff := eff) (Q := fun a w => Q' .normal a w) hok (fun _ _ h => h) _ _ (List.range' 0 l.length) a _ (by simp) ?_ List.pairwise_lt_range' (by simp) ?_ ?_ hC (LI_of_LX l 0 a _ (by simp) hC h))
  · intro k hk
    simp only [Array.getD, Array.size_replicate] at hk
    split at hk <;> simp at hk
  · intro i hi
    simp at hi
    simp [Array.getD, hi]
  · intro i hi
    simp [List.mem_range'] at hi
    simp
    omega

/-- A region of one order. -/
theorem wpList_of_LX {Q' : Exit → Act → World → Prop} : ∀ (l : List Oper) (k : Nat) (a : Act) (w : World), LX P ops (fun _ => True) eff (fun a w => Q' .normal a w) k l a w → wpList P ops Q' l a w
  | [], _, _, _, h => h
  | o :: l, k, a, w, h => by
    unfold LX Step at h
    unfold wpList
    split
    · rename_i hw
      rw [if_pos hw] at h
      left
      unfold Oper.wp
      rcases h with ⟨v, hv, hk⟩ | ⟨_, hk⟩
      · rcases hv w trivial with hr | ⟨hr, rfl⟩ <;> rw [hr]
        · exact wpList_of_LX l _ _ _ hk
        · exact wpList_of_LX l _ _ _ hk
      · unfold EffAt at hk
        generalize (execOp a.eval o).run P w = r at hk
        cases r with
        | ok n w'' =>
          cases n <;> simp only [effUpon] at hk <;> simp only [Oper.upon]
          case value v => exact wpList_of_LX l _ _ _ hk.2
          case skip => exact wpList_of_LX l _ _ _ hk.2
          case enter f args => exact hk.mono fun e w3 ⟨v, hv, _, hx⟩ => by subst hv; exact wpList_of_LX l _ _ _ hx
        | halt x w'' => exact hk.elim
    · rename_i hw
      rw [if_neg hw] at h
      exact wpList_of_LX l _ _ _ h

theorem region_plain {id : Nat} {l : List Oper} {Q' : Exit → Act → World → Prop} {a : Act} {w : World}
    (h : LX P l.toArray (fun _ => True) (fun _ => true) (fun a w => Q' .normal a w) 0 l a w) : (Code.region id l.toArray false).wp P Q' a w :=
  wp_region_lit (wpList_of_LX l 0 a w h)
end
end Go.Gx
