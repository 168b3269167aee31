/-
  Bytes to a string; structs of integers compared.
-/
import Derived.Test.YtcaedcalbjkkgaaGxX
import Derived.Laws.BytesArg
import Derived.Laws.StructEq
namespace Go.Gx
open Go.RowKit
variable {P : Program} {N : Nat} {env : List (Nat × Value)} {C : World → Prop} {x y : Operand} {v : Value} {t yt : TypeId}

/-- The string of some bytes. -/
def bstr (xs : List Int) : Str := xs.map fun n => UInt8.ofNat n.toNat

theorem q_bstr {xs : List Int} {src dst e : TypeId} (hx : ev env x = some v) (hs : P.underlying src = some (.slice e)) (hd : P.underlying dst = some .string) (he : P.underlying e = some (.int .u8)) (h : ∀ w, C w → Rd (rList (rInt .u8)) w v xs) :
    Q1 P N env C (.convert src dst x) (sv (bstr xs)) := fun o ho a w S hC => .inl (by
  have key : (convert src dst v).run P w = .ok (sv (bstr xs)) w := by
    obtain ⟨cs, hv, A, c, rfl, hc, h2⟩ := h w hC
    have hv' : v = .slice A xs.length c := hv
    subst hv'
    rw [run_convert_bytes_string w src dst e A xs.length c hs he hd]
    rcases h2 with rfl | ⟨p, cc, rfl, hb, hcell, hL⟩
    · cases A with
      | none => simp [Conv.bytesToString]; rfl
      | some p =>
        have hl : (loadCells p ([] : List Int).length).run P w = .ok (([] : List Int).map (Value.int .u8)).toArray w := by
          have := run_loadCells_list (P := P) w p [] (fun j u hu => by simp at hu)
          simpa using this
        rw [run_bytesToString w p _ c [] hl]
        rfl
    · have hl : (loadCells p xs.length).run P w = .ok (xs.map (Value.int .u8)).toArray w := by
        have := run_loadCells_list (P := P) w p (xs.map (Value.int .u8)) (fun j u hu => by
          rw [List.getElem?_map] at hu
          cases hj : xs[j]? with
          | none => rw [hj] at hu; cases hu
          | some n =>
            rw [hj] at hu
            cases hu
            obtain ⟨cx, h3, h4⟩ := rdL_get hL hj
            have h3' : cx = [Value.int .u8 n] := h3
            have := h4 0 (Value.int .u8 n) (by rw [h3']; rfl)
            have e1 : (rInt .u8).size = 1 := rfl
            rw [e1, Nat.mul_one, Nat.add_zero] at this
            exact hcell j _ this)
        simpa using this
      rw [run_bytesToString w p _ c xs hl, foldl_push_bytes]
      simp [sv, bstr, ByteArray.empty, ByteArray.emptyWithCapacity]
      try rfl
  simp [execOp, ho, S.eval hx, key])

/-- The fields of a struct are integers. -/
def AllI (P : Program) : Nat → List Field → Prop
  | _, [] => True
  | i, f :: fs => f.name ≠ "_" ∧ P.underlying f.type = some (.int .i64) ∧ f.offset = i ∧ AllI P (i + 1) fs

theorem eqFields_ints (w : World) (d : Nat) (xs ys : Array Value) : ∀ (fs : List Field) (i : Nat) (ms ns : List Int), AllI P i fs → ms.length = fs.length → ns.length = fs.length → (∀ j m, ms[j]? = some m → xs[i + j]? = some (.int .i64 m)) → (∀ j m, ns[j]? = some m → ys[i + j]? = some (.int .i64 m)) →
    (Op.eqFields (d + 1) xs ys fs).run P w = .ok (ms == ns) w
  | [], _, ms, ns, _, h1, h2, _, _ => by
    obtain rfl := List.length_eq_zero_iff.1 h1
    obtain rfl := List.length_eq_zero_iff.1 h2
    rfl
  | f :: fs, i, [], _, _, h1, _, _, _ => by cases h1
  | f :: fs, i, _ :: _, [], _, _, h2, _, _ => by cases h2
  | f :: fs, i, m :: ms, n :: ns, ⟨hf, hu, ho, hr⟩, h1, h2, hx, hy => by
    have px : (part f.type xs f.offset).run P w = .ok (.int .i64 m) w := by
      have := hx 0 m rfl
      simp at this
      simp [part, isAgg, run_underlying hu, ho, this]
    have py : (part f.type ys f.offset).run P w = .ok (.int .i64 n) w := by
      have := hy 0 n rfl
      simp at this
      simp [part, isAgg, run_underlying hu, ho, this]
    have ih := eqFields_ints w d xs ys fs (i + 1) ms ns hr (by simpa using h1) (by simpa using h2) (fun j u hj => by
        have := hx (j + 1) u hj
        rw [show i + 1 + j = i + (j + 1) by omega]
        exact this) (fun j u hj => by
        have := hy (j + 1) u hj
        rw [show i + 1 + j = i + (j + 1) by omega]
        exact this)
    simp only [Op.eqFields]
    rw [if_pos hf]
    simp only [Sem.run_bind, px, py, Result.andThen_ok, run_equalIn_int w d f.type .i64 .i64 m n hu]
    by_cases hmn : m = n
    · subst hmn
      simp [ih]
    · have : ((m :: ms) == (n :: ns)) = false := by simp [hmn]
      rw [this]
      simp [hmn]

section
variable {ms ns : List Int} (hx : ev env x = some (.agg (ms.map (Value.int .i64)).toArray)) (hy : ev env y = some (.agg (ns.map (Value.int .i64)).toArray)) {fs : Array Field} (hu : P.underlying t = some (.struct fs)) (hp : P.stoodInHeld t = false) (hg : P.eqGuardType P.depth t = false) (hf : AllI P 0 fs.toList) (h1 : ms.length = fs.toList.length) (h2 : ns.length = fs.toList.length)
include hu hp hf h1 h2 in
theorem eq_ints (w : World) : (Op.equalIn 10000 t (.agg (ms.map (Value.int .i64)).toArray) (.agg (ns.map (Value.int .i64)).toArray)).run P w = .ok (ms == ns) w := by
  have hfs : P.fieldsOf t = fs := by unfold Program.fieldsOf; rw [hu]
  rw [run_equalIn_struct w 9999 t _ _ (by rw [hfs]; exact hu) hp, hfs]
  exact eqFields_ints w 9998 _ _ fs.toList 0 ms ns hf h1 h2 (fun j m hj => by simp [hj]) (fun j m hj => by simp [hj])
include hx hy hu hp hg hf h1 h2
theorem q_aeql : Q1 P N env C (.binOp .eql t x y yt) (.bool (ms == ns)) := fun o ho a w S _ => .inl (by
  have hq := run_eqGuard_agg (P := P) w .eql t x y (ms.map (Value.int .i64)).toArray (ns.map (Value.int .i64)).toArray hg
  have h : (binOp .eql t (.agg (ms.map (Value.int .i64)).toArray) (.agg (ns.map (Value.int .i64)).toArray)).run P w = .ok (.bool (ms == ns)) w := by
    rw [run_eql_struct, eq_ints hu hp hf h1 h2]; rfl
  simp only [execOp, ho, S.eval hx, S.eval hy, Sem.run_bind, hq, Result.andThen_ok, h]
  rfl)
theorem q_aneq : Q1 P N env C (.binOp .neq t x y yt) (.bool (ms != ns)) := fun o ho a w S _ => .inl (by
  have hq := run_eqGuard_agg (P := P) w .neq t x y (ms.map (Value.int .i64)).toArray (ns.map (Value.int .i64)).toArray hg
  have h : (binOp .neq t (.agg (ms.map (Value.int .i64)).toArray) (.agg (ns.map (Value.int .i64)).toArray)).run P w = .ok (.bool (ms != ns)) w := by
    rw [run_neq_struct, eq_ints hu hp hf h1 h2]; rfl
  simp only [execOp, ho, S.eval hx, S.eval hy, Sem.run_bind, hq, Result.andThen_ok, h]
  rfl)
end
end Go.Gx
namespace Go.Gx
theorem HL.unapp {w : World} : ∀ {L M : List Asrt} {F}, HL w (L ++ M) F → ∃ F1 F2, F = F1 ++ F2 ∧ HL w L F1 ∧ HL w M F2
  | [], _, F, h => ⟨[], F, rfl, rfl, h⟩
  | A :: L, M, _, ⟨F1, F2, e, h1, h2⟩ => by
    obtain ⟨G1, G2, rfl, h3, h4⟩ := HL.unapp (L := L) h2
    exact ⟨F1 ++ G1, G2, by rw [e, List.append_assoc], ⟨F1, G1, rfl, h1, h3⟩, h4⟩
/-- Some of the first pieces, and all behind these. -/
theorem Heap.selT [dr : Dr] {w0 w : World} {L : List Asrt} (H : Heap w0 L w) (n : Nat) (is : List Nat) (hp : is.Pairwise (· < ·)) : Heap w0 (pickL (L.take n) is ++ L.drop n) w :=
  H.ofHL fun F hF hn => by
    rw [← List.take_append_drop n L] at hF
    obtain ⟨F1, F2, rfl, h1, h2⟩ := HL.unapp hF
    obtain ⟨G, hG, hs⟩ := HL.sel (L.take n) F1 is 0 hp (fun _ _ => Nat.zero_le _) h1
    have e : is.map (· - 0) = is := by simp
    rw [e] at hG
    have hs2 : (G ++ F2).Sublist (F1 ++ F2) := hs.append (List.Sublist.refl _)
    exact ⟨G ++ F2, HL.append hG h2, hs2.nodup hn, fun b hb => hs2.subset hb⟩
theorem ev_zero {env : List (Nat × Value)} {x : Operand} {v : Value} (h : ev env x = some v) : ev env x = some (pAdd v 0) := by rw [pAdd_zero]; exact h
end Go.Gx
