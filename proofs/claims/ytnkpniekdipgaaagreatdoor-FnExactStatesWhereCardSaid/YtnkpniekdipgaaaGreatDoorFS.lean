/- Functions of the library, by the contracts of the shelf (printed by a program of this repo). -/
import Derived.Test.YtnkpniekdipgaaaGreatDoorF0
import Derived.Test.YtnkpniekdipgaaaGreatDoorGxT
import Derived.Test.YtnkpniekdipgaaaGreatDoorGxX
import Derived.Test.YtnkpniekdipgaaaGreatDoorGxJn
import Derived.Test.YtnkpniekdipgaaaGreatDoorShelf
namespace Go.Proofs.YtnkpniekdipgaaaGreatDoor
open Go.RowKit Go.Gx

/-- math/bits.Mul of small numbers, by the library's contract -/
def math_bits_Mul_m (_ : Nat) (x y : Int) : Option (Int × Int) := if 0 ≤ x ∧ 0 ≤ y ∧ x < 18446744073709551616 ∧ y < 18446744073709551616 ∧ x * y < 18446744073709551616 then some (0, x * y) else none
theorem math_bits_Mul_ok [dr : Dr] {w0 : World} {fuel : Nat} {a0 a1 : Int} {r : Int × Int} (hm : math_bits_Mul_m fuel a0 a1 = some r) :
    Calls Tryz.prog 75 #[.int .u64 a0, .int .u64 a1] w0 fun e w => e = .returned (.tuple #[.int .u64 r.1, .int .u64 r.2]) ∧ Heap w0 [] w := by
  unfold math_bits_Mul_m at hm
  split at hm
  · rename_i h
    obtain ⟨h0, h1, h2, h3, h4⟩ := h
    cases hm
    obtain ⟨x, rfl⟩ := Int.eq_ofNat_of_zero_le h0
    obtain ⟨y, rfl⟩ := Int.eq_ofNat_of_zero_le h1
    have h4' : x * y < 18446744073709551616 := by have : ((x * y : Nat) : Int) < 18446744073709551616 := by rw [Int.natCast_mul]; exact h4
                                                  omega
    refine (Go.Proofs.Any.bits_Mul Tryz.lay75 x y (by omega) (by omega) w0).mono ?_
    rintro e w ⟨rfl, rfl⟩
    refine ⟨?_, Heap.start _⟩
    rw [Nat.div_eq_of_lt h4', Nat.mod_eq_of_lt h4', Int.natCast_mul]
    rfl
  · cases hm


/-- strings.Cut -/
def strings_Cut_m (_ : Nat) (a0 : Str) (a1 : Str) : Option (Str × Str × Bool) := if a0.length < 4294967281 then some (Lib.cut a0 a1) else none
theorem strings_Cut_ok [dr : Dr] {w0 : World} {fuel : Nat} {a0 : Str} {a1 : Str} {r : Str × Str × Bool} (hG : Glob Tryz.prog w0) (hm : strings_Cut_m fuel a0 a1 = some r) :
    Calls Tryz.prog 90 #[sv a0, sv a1] w0 fun e w => e = .returned (.tuple #[sv r.1, sv r.2.1, .bool r.2.2]) ∧ Heap w0 [] w := by
  unfold strings_Cut_m at hm
  split at hm
  · rename_i hc
    cases hm
    refine (Go.Proofs.Any.strings_Cut_shaped Tryz.lay90 (⟨a0.toArray⟩ : ByteArray) (⟨a1.toArray⟩ : ByteArray) w0 hG.shaped (by rw [size_sv]; exact hc)).mono ?_
    rintro e w ⟨rfl, n, rfl⟩
    exact ⟨rfl, Heap.of_ext (ext_drewN _ _)⟩
  · cases hm


/-- strings.Split at a separator -/
def strings_Split_m (_ : Nat) (a0 a1 : Str) : Option (List Str) := if a0.length < 4294967281 ∧ 1 ≤ a1.length ∧ (Lib.splitB ⟨a1.toArray⟩ 0 (Lib.countB ⟨a0.toArray⟩ ⟨a1.toArray⟩) ⟨a0.toArray⟩).length = Lib.countB ⟨a0.toArray⟩ ⟨a1.toArray⟩ + 1 ∧ Lib.countB ⟨a0.toArray⟩ ⟨a1.toArray⟩ + 1 ≤ maxLen then some ((Lib.splitB ⟨a1.toArray⟩ 0 (Lib.countB ⟨a0.toArray⟩ ⟨a1.toArray⟩) ⟨a0.toArray⟩).map (·.data.toList)) else none
theorem strings_Split_ok [dr : Dr] {w0 : World} {fuel : Nat} {a0 a1 : Str} {r : List Str} (hG : Glob Tryz.prog w0) (hm : strings_Split_m fuel a0 a1 = some r) :
    Calls Tryz.prog 92 #[sv a0, sv a1] w0 fun e w => ∃ v0, e = .returned v0 ∧ Heap w0 [oA (rList rStr) v0 r] w := by
  unfold strings_Split_m at hm
  split at hm
  · rename_i hc
    obtain ⟨h1, h2, h3, h4⟩ := hc
    cases hm
    refine (Go.Proofs.Any.strings_Split_shaped Tryz.lay92 ⟨a0.toArray⟩ ⟨a1.toArray⟩ w0 hG.shaped (by rw [size_sv]; exact h1) (by rw [size_sv]; exact h2)).mono ?_
    rintro e w ⟨rfl, rfl⟩
    exact ⟨_, rfl, own_strs (by rw [List.length_map]; exact h3) h4 _ (by rw [List.map_map]; exact List.map_congr_left fun b _ => sv_of b)⟩
  · cases hm


/-- strings.TrimSuffix -/
def strings_TrimSuffix_m (_ : Nat) (a0 : Str) (a1 : Str) : Option (Str) := if a0.length ≤ 9223372036854775807 then some (Lib.trimSuffix a0 a1) else none
theorem strings_TrimSuffix_ok [dr : Dr] {w0 : World} {fuel : Nat} {a0 : Str} {a1 : Str} {r : Str} (hm : strings_TrimSuffix_m fuel a0 a1 = some r) :
    Calls Tryz.prog 93 #[sv a0, sv a1] w0 fun e w => e = .returned (sv r) ∧ Heap w0 [] w := by
  unfold strings_TrimSuffix_m at hm
  split at hm
  · rename_i hc
    cases hm
    refine (Go.Proofs.Any.strings_TrimSuffix Tryz.lay93 (⟨a0.toArray⟩ : ByteArray) (⟨a1.toArray⟩ : ByteArray) w0 (by rw [size_sv]; exact hc)).mono ?_
    rintro e w ⟨rfl, rfl⟩
    exact ⟨rfl, Heap.start _⟩
  · cases hm


/-- strings.TrimPrefix -/
def strings_TrimPrefix_m (_ : Nat) (a0 : Str) (a1 : Str) : Option (Str) := if True then some (Lib.trimPrefix a0 a1) else none
theorem strings_TrimPrefix_ok [dr : Dr] {w0 : World} {fuel : Nat} {a0 : Str} {a1 : Str} {r : Str} (hm : strings_TrimPrefix_m fuel a0 a1 = some r) :
    Calls Tryz.prog 113 #[sv a0, sv a1] w0 fun e w => e = .returned (sv r) ∧ Heap w0 [] w := by
  unfold strings_TrimPrefix_m at hm
  split at hm
  · rename_i hc
    cases hm
    refine (Go.Proofs.Any.strings_TrimPrefix Tryz.lay113 (⟨a0.toArray⟩ : ByteArray) (⟨a1.toArray⟩ : ByteArray) w0).mono ?_
    rintro e w ⟨rfl, rfl⟩
    exact ⟨rfl, Heap.start _⟩
  · cases hm


/-- strconv.ParseInt, base 10, of a numeral that an int64 holds, or of none -/
def strconv_ParseInt_m (_ : Nat) (a0 : Str) (a1 a2 : Int) : Option (Int × Bool) := if a1 = 10 ∧ a2 = 64 ∧ a0.length ≤ 281474976710656 then (match Lib.parseIntB 64 a0 with | .ok v => some (v, false) | .range => some (Lib.intSat 64 a0, true) | _ => some (0, true)) else none
theorem strconv_ParseInt_ok {w0 : World} {fuel : Nat} {a0 : Str} {a1 a2 : Int} {r : Int × Bool} (hG : GlobE Tryz.prog w0) (hm : strconv_ParseInt_m fuel a0 a1 a2 = some r) :
    Calls Tryz.prog 114 #[sv a0, .int .i64 a1, .int .i64 a2] w0 fun e w => ∃ v0, e = .returned (.tuple #[.int .i64 r.1, v0]) ∧ IsErr v0 r.2 ∧ Heap w0 [] w := by
  unfold strconv_ParseInt_m at hm
  split at hm
  · rename_i hc
    obtain ⟨rfl, rfl, hl⟩ := hc
    have hsz : (⟨a0.toArray⟩ : ByteArray).size ≤ 281474976710656 := by rw [size_sv]; exact hl
    cases hp : Lib.parseIntB 64 a0 with
    | ok v =>
      rw [hp] at hm
      cases hm
      refine (Go.Proofs.Any.strconv_ParseInt_10_at64_ok Tryz.lay114 ⟨a0.toArray⟩ (by omega) v hp w0).mono ?_
      rintro e w ⟨rfl, hw⟩
      refine ⟨_, rfl, .inl ⟨rfl, rfl⟩, ?_⟩
      rcases hw with rfl | ⟨t, rfl⟩
      · exact Heap.start _
      · exact Heap.of_ext (ext_bytes _ _ _)
    | range =>
      rw [hp] at hm
      cases hm
      obtain ⟨tp, p, hv⟩ := hG.rng
      refine (Go.Proofs.Any.strconv_ParseInt_10_at64_range_var Tryz.lay114 ⟨a0.toArray⟩ hsz hp tp p w0 hv).mono ?_
      rintro e w ⟨N, rfl, _, _, hb⟩
      exact ⟨_, rfl, .inr ⟨rfl, _, _, rfl⟩, Heap.of_ext ⟨hb, fun h => absurd h (by decide)⟩⟩
    | _ =>
      rw [hp] at hm
      cases hm
      obtain ⟨tp, p, hv⟩ := hG.syn
      refine (Go.Proofs.Any.strconv_ParseInt_10_at64_syntax_var Tryz.lay114 ⟨a0.toArray⟩ hsz hp tp p w0 hv).mono ?_
      rintro e w ⟨N, rfl, _, _, hb⟩
      exact ⟨_, rfl, .inr ⟨rfl, _, _, rfl⟩, Heap.of_ext ⟨hb, fun h => absurd h (by decide)⟩⟩
  · cases hm


/-- strings.Join -/
def strings_Join_m (_ : Nat) (a0 : List Str) (a1 : Str) : Option Str := if a0.length ≤ 1048576 ∧ (Lib.join a0 a1).length ≤ 140737488355328 then some (Lib.join a0 a1) else none
theorem strings_Join_ok {w0 : World} {fuel : Nat} {p0 : Value} {a0 : List Str} {a1 : Str} {r : Str} (h0 : Rd (rList rStr) w0 p0 a0) (hm : strings_Join_m fuel a0 a1 = some r) :
    Calls Tryz.prog 121 #[p0, sv a1] w0 fun e w => e = .returned (sv r) ∧ Heap w0 [] w := by
  unfold strings_Join_m at hm
  split at hm
  · rename_i hc
    obtain ⟨h1, h2⟩ := hc
    cases hm
    rcases h0.rowStr with ⟨rfl, A, c, rfl⟩ | ⟨g, o, cap, rfl, hnc, hg, hcell⟩
    · exact (Go.Proofs.Any.strings_Join_none Tryz.lay121 Tryz.extra121 A c ⟨a1.toArray⟩ w0).mono fun e w ⟨he, hw⟩ => ⟨he, by subst hw; exact Heap.start _⟩
    · have e1 : (a0.map fun s => (⟨s.toArray⟩ : ByteArray)).map (·.data.toList) = a0 := by rw [List.map_map]; exact List.map_id'' (fun s => rfl) a0
      have e2 : (a0.map fun s => (⟨s.toArray⟩ : ByteArray)).length = a0.length := by simp
      have key := Go.Proofs.Any.strings_Join Tryz.lay121 Tryz.extra121 g o cap (a0.map fun s => (⟨s.toArray⟩ : ByteArray)) ⟨a1.toArray⟩ w0 (fun j x hx => by
        rw [List.getElem?_map] at hx
        cases hs : a0[j]? with
        | none => rw [hs] at hx; cases hx
        | some s => rw [hs] at hx; cases hx; exact hcell j s hs) hg (by omega) (by omega) (by rw [e1]; exact h2)
      rw [e1, e2] at key
      exact key.mono fun e w ⟨he, hb⟩ => ⟨he, Heap.of_ext ⟨hb, fun h => absurd h (by decide)⟩⟩
  · cases hm


/-- strconv.FormatInt, base 10 -/
def strconv_FormatInt_m (_ : Nat) (a0 : Int) (a1 : Int) : Option (Str) := if a1 = 10 ∧ -9223372036854775808 ≤ a0 ∧ a0 ≤ 9223372036854775807 then some (Lib.itoa a0) else none
theorem strconv_FormatInt_ok [dr : Dr] {w0 : World} {fuel : Nat} {a0 : Int} {a1 : Int} {r : Str} (hG : Glob Tryz.prog w0) (hm : strconv_FormatInt_m fuel a0 a1 = some r) :
    Calls Tryz.prog 129 #[.int .i64 a0, .int .i64 a1] w0 fun e w => e = .returned (sv r) ∧ Heap w0 [] w := by
  unfold strconv_FormatInt_m at hm
  split at hm
  · rename_i hc
    cases hm
    obtain ⟨rfl, h0, h1⟩ := hc
    refine (Go.Proofs.Any.strconv_FormatInt_10 Tryz.lay129 a0 h0 h1 w0 hG.pow).mono ?_
    rintro e w ⟨rfl, k, os, rfl⟩
    exact ⟨rfl, Heap.of_ext (ext_grow _ _ _)⟩
  · cases hm

end Go.Proofs.YtnkpniekdipgaaaGreatDoor
