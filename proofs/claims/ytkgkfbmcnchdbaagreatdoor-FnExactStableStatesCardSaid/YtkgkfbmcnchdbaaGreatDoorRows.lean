/-
  NARROWER THAN 'FOR EVERY INPUT', by the rows' own cells (each row's printed sentence says how): FnExactValidLts: laid · FnExactIsDeterministicLts: laid · FnExactEndOfPath: laid · FnExactOutOf: laid · FnExactPathLabels: laid · FnExactDistancesOf: laid · FnExactInertEdges: laid · FnExactDivergentStates: laid · FnExactReachableStates: laid · FnExactDeadlocksOf: laid · FnExactShortestPath: laid · FnExactSuccessorsOf: laid · FnExactSubSystem: laid · FnExactStableStates: laid · FnExactInternalClosure: laid · FnExactIsCompletedTrace: laid.
  DERIVED. THE GIVEN ROWS OF THIS SEAT. 16 by the template 'for every input the law returns true; each argument reads behind the call as it read before'; 0 by the template 'total and deterministic' (their statements: YtkgkfbmcnchdbaaGreatDoorTotals.lean).
  GIVEN WITH THE SEED: the statements are not yours to turn. If you find one false, say at which input.
  Laid BY PROGRAM, IN A SANDBOX (cutbox-rows.mjs): the forced cells as the released guide's own fill.sh prints them over the translation ee436dcced7ecc87… (all of the seat's roots in one cut). By AI agents, Wed Nov 11 2026. No macro, syntax, notation, axiom, sorry.
-/
import Derived.Test.YtkgkfbmcnchdbaaGreatDoorChecked
import GoSem.PinnedTables
import GoSem.Claim
import GoSem.ClaimJoined
import GoSem.ClaimMapViews
import Derived.JoinedTies
import Derived.KernelRfl
namespace Go.Proofs.YtkgkfbmcnchdbaaGreatDoor
/- THE CELL 'sum', in the pinned program and in every row, IS THE sha256 OF THE DUMP (.gsa) THAT YtkgkfbmcnchdbaaGreatDoorProg.lean LOADS. Nothing in Lean hashes anything: it is a label: what it is worth is what the hold of that sum in a sandbox is worth. -/
noncomputable def Tryz.pinned : Pinned := { name := "ytkgkfbmcnchdbaagreatdoor", sum := "ee436dcced7ecc87aba4fc6023adaf0e29af99bfcdf27dd7df679083d94016a8", checked := Tryz.checked }
namespace Rows
def none {H : Type} : Left H := { results := [], args := [] }

/- WHAT THE LISTED PACKAGE-LEVEL VARIABLES READ AS WHEN THE CALL BEGINS. Each datum BY PROGRAM (the guide's laid-datum.mjs) off the statement by which the dump's own 'gosem.cut.vars' lays the variable. In a bare row this is a premise. The card (YtkgkfbmcnchdbaaGreatDoorCards.lean) ties it to the program's text. -/
def laid_math_bits_deBruijn32tab {H : Type} : DataW H := .agg [.lit (.int .u8 0), .lit (.int .u8 1), .lit (.int .u8 28), .lit (.int .u8 2), .lit (.int .u8 29), .lit (.int .u8 14), .lit (.int .u8 24), .lit (.int .u8 3), .lit (.int .u8 30), .lit (.int .u8 22), .lit (.int .u8 20), .lit (.int .u8 15), .lit (.int .u8 25), .lit (.int .u8 17), .lit (.int .u8 4), .lit (.int .u8 8), .lit (.int .u8 31), .lit (.int .u8 27), .lit (.int .u8 13), .lit (.int .u8 23), .lit (.int .u8 21), .lit (.int .u8 19), .lit (.int .u8 16), .lit (.int .u8 7), .lit (.int .u8 26), .lit (.int .u8 12), .lit (.int .u8 18), .lit (.int .u8 6), .lit (.int .u8 11), .lit (.int .u8 5), .lit (.int .u8 10), .lit (.int .u8 9)]
def laid_math_bits_deBruijn64tab {H : Type} : DataW H := .agg [.lit (.int .u8 0), .lit (.int .u8 1), .lit (.int .u8 56), .lit (.int .u8 2), .lit (.int .u8 57), .lit (.int .u8 49), .lit (.int .u8 28), .lit (.int .u8 3), .lit (.int .u8 61), .lit (.int .u8 58), .lit (.int .u8 42), .lit (.int .u8 50), .lit (.int .u8 38), .lit (.int .u8 29), .lit (.int .u8 17), .lit (.int .u8 4), .lit (.int .u8 62), .lit (.int .u8 47), .lit (.int .u8 59), .lit (.int .u8 36), .lit (.int .u8 45), .lit (.int .u8 43), .lit (.int .u8 51), .lit (.int .u8 22), .lit (.int .u8 53), .lit (.int .u8 39), .lit (.int .u8 33), .lit (.int .u8 30), .lit (.int .u8 24), .lit (.int .u8 18), .lit (.int .u8 12), .lit (.int .u8 5), .lit (.int .u8 63), .lit (.int .u8 55), .lit (.int .u8 48), .lit (.int .u8 27), .lit (.int .u8 60), .lit (.int .u8 41), .lit (.int .u8 37), .lit (.int .u8 16), .lit (.int .u8 46), .lit (.int .u8 35), .lit (.int .u8 44), .lit (.int .u8 21), .lit (.int .u8 52), .lit (.int .u8 32), .lit (.int .u8 23), .lit (.int .u8 11), .lit (.int .u8 54), .lit (.int .u8 26), .lit (.int .u8 40), .lit (.int .u8 15), .lit (.int .u8 34), .lit (.int .u8 20), .lit (.int .u8 31), .lit (.int .u8 10), .lit (.int .u8 25), .lit (.int .u8 14), .lit (.int .u8 19), .lit (.int .u8 9), .lit (.int .u8 13), .lit (.int .u8 8), .lit (.int .u8 7), .lit (.int .u8 6)]
def laid_internal_strconv_uint64pow10 {H : Type} : DataW H := .agg [.lit (.int .u64 1), .lit (.int .u64 10), .lit (.int .u64 100), .lit (.int .u64 1000), .lit (.int .u64 10000), .lit (.int .u64 100000), .lit (.int .u64 1000000), .lit (.int .u64 10000000), .lit (.int .u64 100000000), .lit (.int .u64 1000000000), .lit (.int .u64 10000000000), .lit (.int .u64 100000000000), .lit (.int .u64 1000000000000), .lit (.int .u64 10000000000000), .lit (.int .u64 100000000000000), .lit (.int .u64 1000000000000000), .lit (.int .u64 10000000000000000), .lit (.int .u64 100000000000000000), .lit (.int .u64 1000000000000000000), .lit (.int .u64 10000000000000000000)]
def laid_unicode_utf8_acceptRanges {H : Type} : DataW H := .agg [.agg [.lit (.int .u8 128), .lit (.int .u8 191)], .agg [.lit (.int .u8 160), .lit (.int .u8 191)], .agg [.lit (.int .u8 128), .lit (.int .u8 159)], .agg [.lit (.int .u8 144), .lit (.int .u8 191)], .agg [.lit (.int .u8 128), .lit (.int .u8 143)], .agg [.lit (.int .u8 0), .lit (.int .u8 0)], .agg [.lit (.int .u8 0), .lit (.int .u8 0)], .agg [.lit (.int .u8 0), .lit (.int .u8 0)], .agg [.lit (.int .u8 0), .lit (.int .u8 0)], .agg [.lit (.int .u8 0), .lit (.int .u8 0)], .agg [.lit (.int .u8 0), .lit (.int .u8 0)], .agg [.lit (.int .u8 0), .lit (.int .u8 0)], .agg [.lit (.int .u8 0), .lit (.int .u8 0)], .agg [.lit (.int .u8 0), .lit (.int .u8 0)], .agg [.lit (.int .u8 0), .lit (.int .u8 0)], .agg [.lit (.int .u8 0), .lit (.int .u8 0)]]
def laid_strconv_ErrRange {H : Type} : DataW H := .iface "*errors.errorString" (.ptr (.agg [.lit (.string [118, 97, 108, 117, 101, 32, 111, 117, 116, 32, 111, 102, 32, 114, 97, 110, 103, 101])]))
def laid_strconv_ErrSyntax {H : Type} : DataW H := .iface "*errors.errorString" (.ptr (.agg [.lit (.string [105, 110, 118, 97, 108, 105, 100, 32, 115, 121, 110, 116, 97, 120])]))
/-- One of Go's own tables, pinned by name: the form's constant. -/
def laid_unicode_utf8_first : DataW Unit := Go.Pinned.utf8First

/-- 'laws.FnExactValidLts': WHATEVER THE INPUT: true; the input reads as it did. -/
def fnExactValidLtsSpec : ChangeSpec := { name := "fnExactValidLts", fn := fun _ => fun
  | [d] => { results := [.lit (.bool true)], args := [d] }
  | _ => none }
def fnExactValidLtsRow : OpenClaim := { program := "ytkgkfbmcnchdbaagreatdoor", sum := "ee436dcced7ecc87aba4fc6023adaf0e29af99bfcdf27dd7df679083d94016a8", func := "loop.example/g01075/laws.FnExactValidLts", spec := "fnExactValidLts", inPlace := ["internal/bytealg.IndexByteString", "internal/bytealg.IndexString", "internal/bytealg.CountString", "internal/abi.NoEscape", "internal/bytealg.MakeNoZero"], unfollowed := true, recurses := true, named := ["internal/bytealg.MaxLen", "unicode/utf8.first", "unicode/utf8.acceptRanges", "strconv.ErrSyntax", "strconv.ErrRange", "internal/strconv.uint64pow10", "math/bits.deBruijn32tab", "math/bits.deBruijn64tab"], apart := false, laid := [("math/bits.deBruijn32tab", laid_math_bits_deBruijn32tab), ("math/bits.deBruijn64tab", laid_math_bits_deBruijn64tab), ("internal/strconv.uint64pow10", laid_internal_strconv_uint64pow10), ("unicode/utf8.acceptRanges", laid_unicode_utf8_acceptRanges), ("strconv.ErrRange", laid_strconv_ErrRange), ("strconv.ErrSyntax", laid_strconv_ErrSyntax), ("unicode/utf8.first", laid_unicode_utf8_first)] }
def FnExactValidLtsSaid : Prop := fnExactValidLtsRow.holds Tryz.pinned (OpenSpec.ofChange fnExactValidLtsSpec)

/-- ITS FALSE NEIGHBOUR: 'it returns false'. Refute it at one input. -/
def fnExactValidLtsWrong : ChangeSpec := { name := "fnExactValidLts", fn := fun _ => fun
  | [d] => { results := [.lit (.bool false)], args := [d] }
  | _ => none }
def FnExactValidLtsWrongFalsely : Prop := fnExactValidLtsRow.holds Tryz.pinned (OpenSpec.ofChange fnExactValidLtsWrong)

/-- 'laws.FnExactIsDeterministicLts': WHATEVER THE INPUT: true; the input reads as it did. -/
def fnExactIsDeterministicLtsSpec : ChangeSpec := { name := "fnExactIsDeterministicLts", fn := fun _ => fun
  | [d] => { results := [.lit (.bool true)], args := [d] }
  | _ => none }
def fnExactIsDeterministicLtsRow : OpenClaim := { program := "ytkgkfbmcnchdbaagreatdoor", sum := "ee436dcced7ecc87aba4fc6023adaf0e29af99bfcdf27dd7df679083d94016a8", func := "loop.example/g01075/laws.FnExactIsDeterministicLts", spec := "fnExactIsDeterministicLts", inPlace := ["internal/bytealg.IndexByteString", "internal/bytealg.IndexString", "internal/bytealg.CountString", "internal/abi.NoEscape", "internal/bytealg.MakeNoZero"], unfollowed := true, recurses := true, named := ["internal/bytealg.MaxLen", "unicode/utf8.first", "unicode/utf8.acceptRanges", "strconv.ErrSyntax", "strconv.ErrRange", "internal/strconv.uint64pow10", "math/bits.deBruijn32tab", "math/bits.deBruijn64tab"], apart := false, laid := [("math/bits.deBruijn32tab", laid_math_bits_deBruijn32tab), ("math/bits.deBruijn64tab", laid_math_bits_deBruijn64tab), ("internal/strconv.uint64pow10", laid_internal_strconv_uint64pow10), ("unicode/utf8.acceptRanges", laid_unicode_utf8_acceptRanges), ("strconv.ErrRange", laid_strconv_ErrRange), ("strconv.ErrSyntax", laid_strconv_ErrSyntax), ("unicode/utf8.first", laid_unicode_utf8_first)] }
def FnExactIsDeterministicLtsSaid : Prop := fnExactIsDeterministicLtsRow.holds Tryz.pinned (OpenSpec.ofChange fnExactIsDeterministicLtsSpec)

/-- ITS FALSE NEIGHBOUR: 'it returns false'. Refute it at one input. -/
def fnExactIsDeterministicLtsWrong : ChangeSpec := { name := "fnExactIsDeterministicLts", fn := fun _ => fun
  | [d] => { results := [.lit (.bool false)], args := [d] }
  | _ => none }
def FnExactIsDeterministicLtsWrongFalsely : Prop := fnExactIsDeterministicLtsRow.holds Tryz.pinned (OpenSpec.ofChange fnExactIsDeterministicLtsWrong)

/-- 'laws.FnExactEndOfPath': WHATEVER THE INPUT: true; the input reads as it did. -/
def fnExactEndOfPathSpec : ChangeSpec := { name := "fnExactEndOfPath", fn := fun _ => fun
  | [d1, d2] => { results := [.lit (.bool true)], args := [d1, d2] }
  | _ => none }
def fnExactEndOfPathRow : OpenClaim := { program := "ytkgkfbmcnchdbaagreatdoor", sum := "ee436dcced7ecc87aba4fc6023adaf0e29af99bfcdf27dd7df679083d94016a8", func := "loop.example/g01075/laws.FnExactEndOfPath", spec := "fnExactEndOfPath", inPlace := ["internal/bytealg.IndexByteString", "internal/bytealg.IndexString", "internal/bytealg.CountString", "internal/abi.NoEscape", "internal/bytealg.MakeNoZero"], unfollowed := true, recurses := true, named := ["internal/bytealg.MaxLen", "unicode/utf8.first", "unicode/utf8.acceptRanges", "strconv.ErrSyntax", "strconv.ErrRange", "internal/strconv.uint64pow10", "math/bits.deBruijn32tab", "math/bits.deBruijn64tab"], apart := false, laid := [("math/bits.deBruijn32tab", laid_math_bits_deBruijn32tab), ("math/bits.deBruijn64tab", laid_math_bits_deBruijn64tab), ("internal/strconv.uint64pow10", laid_internal_strconv_uint64pow10), ("unicode/utf8.acceptRanges", laid_unicode_utf8_acceptRanges), ("strconv.ErrRange", laid_strconv_ErrRange), ("strconv.ErrSyntax", laid_strconv_ErrSyntax), ("unicode/utf8.first", laid_unicode_utf8_first)] }
def FnExactEndOfPathSaid : Prop := fnExactEndOfPathRow.holds Tryz.pinned (OpenSpec.ofChange fnExactEndOfPathSpec)

/-- ITS FALSE NEIGHBOUR: 'it returns false'. Refute it at one input. -/
def fnExactEndOfPathWrong : ChangeSpec := { name := "fnExactEndOfPath", fn := fun _ => fun
  | [d1, d2] => { results := [.lit (.bool false)], args := [d1, d2] }
  | _ => none }
def FnExactEndOfPathWrongFalsely : Prop := fnExactEndOfPathRow.holds Tryz.pinned (OpenSpec.ofChange fnExactEndOfPathWrong)

/-- 'laws.FnExactOutOf': WHATEVER THE INPUT: true; the input reads as it did. -/
def fnExactOutOfSpec : ChangeSpec := { name := "fnExactOutOf", fn := fun _ => fun
  | [d1, d2] => { results := [.lit (.bool true)], args := [d1, d2] }
  | _ => none }
def fnExactOutOfRow : OpenClaim := { program := "ytkgkfbmcnchdbaagreatdoor", sum := "ee436dcced7ecc87aba4fc6023adaf0e29af99bfcdf27dd7df679083d94016a8", func := "loop.example/g01075/laws.FnExactOutOf", spec := "fnExactOutOf", inPlace := ["internal/bytealg.IndexByteString", "internal/bytealg.IndexString", "internal/bytealg.CountString", "internal/abi.NoEscape", "internal/bytealg.MakeNoZero"], unfollowed := true, recurses := true, named := ["internal/bytealg.MaxLen", "unicode/utf8.first", "unicode/utf8.acceptRanges", "strconv.ErrSyntax", "strconv.ErrRange", "internal/strconv.uint64pow10", "math/bits.deBruijn32tab", "math/bits.deBruijn64tab"], apart := false, laid := [("math/bits.deBruijn32tab", laid_math_bits_deBruijn32tab), ("math/bits.deBruijn64tab", laid_math_bits_deBruijn64tab), ("internal/strconv.uint64pow10", laid_internal_strconv_uint64pow10), ("unicode/utf8.acceptRanges", laid_unicode_utf8_acceptRanges), ("strconv.ErrRange", laid_strconv_ErrRange), ("strconv.ErrSyntax", laid_strconv_ErrSyntax), ("unicode/utf8.first", laid_unicode_utf8_first)] }
def FnExactOutOfSaid : Prop := fnExactOutOfRow.holds Tryz.pinned (OpenSpec.ofChange fnExactOutOfSpec)

/-- ITS FALSE NEIGHBOUR: 'it returns false'. Refute it at one input. -/
def fnExactOutOfWrong : ChangeSpec := { name := "fnExactOutOf", fn := fun _ => fun
  | [d1, d2] => { results := [.lit (.bool false)], args := [d1, d2] }
  | _ => none }
def FnExactOutOfWrongFalsely : Prop := fnExactOutOfRow.holds Tryz.pinned (OpenSpec.ofChange fnExactOutOfWrong)

/-- 'laws.FnExactPathLabels': WHATEVER THE INPUT: true; the input reads as it did. -/
def fnExactPathLabelsSpec : ChangeSpec := { name := "fnExactPathLabels", fn := fun _ => fun
  | [d1, d2] => { results := [.lit (.bool true)], args := [d1, d2] }
  | _ => none }
def fnExactPathLabelsRow : OpenClaim := { program := "ytkgkfbmcnchdbaagreatdoor", sum := "ee436dcced7ecc87aba4fc6023adaf0e29af99bfcdf27dd7df679083d94016a8", func := "loop.example/g01075/laws.FnExactPathLabels", spec := "fnExactPathLabels", inPlace := ["internal/bytealg.IndexByteString", "internal/bytealg.IndexString", "internal/bytealg.CountString", "internal/abi.NoEscape", "internal/bytealg.MakeNoZero"], unfollowed := true, recurses := true, named := ["internal/bytealg.MaxLen", "unicode/utf8.first", "unicode/utf8.acceptRanges", "strconv.ErrSyntax", "strconv.ErrRange", "internal/strconv.uint64pow10", "math/bits.deBruijn32tab", "math/bits.deBruijn64tab"], apart := false, laid := [("math/bits.deBruijn32tab", laid_math_bits_deBruijn32tab), ("math/bits.deBruijn64tab", laid_math_bits_deBruijn64tab), ("internal/strconv.uint64pow10", laid_internal_strconv_uint64pow10), ("unicode/utf8.acceptRanges", laid_unicode_utf8_acceptRanges), ("strconv.ErrRange", laid_strconv_ErrRange), ("strconv.ErrSyntax", laid_strconv_ErrSyntax), ("unicode/utf8.first", laid_unicode_utf8_first)] }
def FnExactPathLabelsSaid : Prop := fnExactPathLabelsRow.holds Tryz.pinned (OpenSpec.ofChange fnExactPathLabelsSpec)

/-- ITS FALSE NEIGHBOUR: 'it returns false'. Refute it at one input. -/
def fnExactPathLabelsWrong : ChangeSpec := { name := "fnExactPathLabels", fn := fun _ => fun
  | [d1, d2] => { results := [.lit (.bool false)], args := [d1, d2] }
  | _ => none }
def FnExactPathLabelsWrongFalsely : Prop := fnExactPathLabelsRow.holds Tryz.pinned (OpenSpec.ofChange fnExactPathLabelsWrong)

/-- 'laws.FnExactDistancesOf': WHATEVER THE INPUT: true; the input reads as it did. -/
def fnExactDistancesOfSpec : ChangeSpec := { name := "fnExactDistancesOf", fn := fun _ => fun
  | [d] => { results := [.lit (.bool true)], args := [d] }
  | _ => none }
def fnExactDistancesOfRow : OpenClaim := { program := "ytkgkfbmcnchdbaagreatdoor", sum := "ee436dcced7ecc87aba4fc6023adaf0e29af99bfcdf27dd7df679083d94016a8", func := "loop.example/g01075/laws.FnExactDistancesOf", spec := "fnExactDistancesOf", inPlace := ["internal/bytealg.IndexByteString", "internal/bytealg.IndexString", "internal/bytealg.CountString", "internal/abi.NoEscape", "internal/bytealg.MakeNoZero"], unfollowed := true, recurses := true, named := ["internal/bytealg.MaxLen", "unicode/utf8.first", "unicode/utf8.acceptRanges", "strconv.ErrSyntax", "strconv.ErrRange", "internal/strconv.uint64pow10", "math/bits.deBruijn32tab", "math/bits.deBruijn64tab"], apart := false, laid := [("math/bits.deBruijn32tab", laid_math_bits_deBruijn32tab), ("math/bits.deBruijn64tab", laid_math_bits_deBruijn64tab), ("internal/strconv.uint64pow10", laid_internal_strconv_uint64pow10), ("unicode/utf8.acceptRanges", laid_unicode_utf8_acceptRanges), ("strconv.ErrRange", laid_strconv_ErrRange), ("strconv.ErrSyntax", laid_strconv_ErrSyntax), ("unicode/utf8.first", laid_unicode_utf8_first)] }
def FnExactDistancesOfSaid : Prop := fnExactDistancesOfRow.holds Tryz.pinned (OpenSpec.ofChange fnExactDistancesOfSpec)

/-- ITS FALSE NEIGHBOUR: 'it returns false'. Refute it at one input. -/
def fnExactDistancesOfWrong : ChangeSpec := { name := "fnExactDistancesOf", fn := fun _ => fun
  | [d] => { results := [.lit (.bool false)], args := [d] }
  | _ => none }
def FnExactDistancesOfWrongFalsely : Prop := fnExactDistancesOfRow.holds Tryz.pinned (OpenSpec.ofChange fnExactDistancesOfWrong)

/-- 'laws.FnExactInertEdges': WHATEVER THE INPUT: true; the input reads as it did. -/
def fnExactInertEdgesSpec : ChangeSpec := { name := "fnExactInertEdges", fn := fun _ => fun
  | [d1, d2] => { results := [.lit (.bool true)], args := [d1, d2] }
  | _ => none }
def fnExactInertEdgesRow : OpenClaim := { program := "ytkgkfbmcnchdbaagreatdoor", sum := "ee436dcced7ecc87aba4fc6023adaf0e29af99bfcdf27dd7df679083d94016a8", func := "loop.example/g01075/laws.FnExactInertEdges", spec := "fnExactInertEdges", inPlace := ["internal/bytealg.IndexByteString", "internal/bytealg.IndexString", "internal/bytealg.CountString", "internal/abi.NoEscape", "internal/bytealg.MakeNoZero"], unfollowed := true, recurses := true, named := ["internal/bytealg.MaxLen", "unicode/utf8.first", "unicode/utf8.acceptRanges", "strconv.ErrSyntax", "strconv.ErrRange", "internal/strconv.uint64pow10", "math/bits.deBruijn32tab", "math/bits.deBruijn64tab"], apart := false, laid := [("math/bits.deBruijn32tab", laid_math_bits_deBruijn32tab), ("math/bits.deBruijn64tab", laid_math_bits_deBruijn64tab), ("internal/strconv.uint64pow10", laid_internal_strconv_uint64pow10), ("unicode/utf8.acceptRanges", laid_unicode_utf8_acceptRanges), ("strconv.ErrRange", laid_strconv_ErrRange), ("strconv.ErrSyntax", laid_strconv_ErrSyntax), ("unicode/utf8.first", laid_unicode_utf8_first)] }
def FnExactInertEdgesSaid : Prop := fnExactInertEdgesRow.holds Tryz.pinned (OpenSpec.ofChange fnExactInertEdgesSpec)

/-- ITS FALSE NEIGHBOUR: 'it returns false'. Refute it at one input. -/
def fnExactInertEdgesWrong : ChangeSpec := { name := "fnExactInertEdges", fn := fun _ => fun
  | [d1, d2] => { results := [.lit (.bool false)], args := [d1, d2] }
  | _ => none }
def FnExactInertEdgesWrongFalsely : Prop := fnExactInertEdgesRow.holds Tryz.pinned (OpenSpec.ofChange fnExactInertEdgesWrong)

/-- 'laws.FnExactDivergentStates': WHATEVER THE INPUT: true; the input reads as it did. -/
def fnExactDivergentStatesSpec : ChangeSpec := { name := "fnExactDivergentStates", fn := fun _ => fun
  | [d] => { results := [.lit (.bool true)], args := [d] }
  | _ => none }
def fnExactDivergentStatesRow : OpenClaim := { program := "ytkgkfbmcnchdbaagreatdoor", sum := "ee436dcced7ecc87aba4fc6023adaf0e29af99bfcdf27dd7df679083d94016a8", func := "loop.example/g01075/laws.FnExactDivergentStates", spec := "fnExactDivergentStates", inPlace := ["internal/bytealg.IndexByteString", "internal/bytealg.IndexString", "internal/bytealg.CountString", "internal/abi.NoEscape", "internal/bytealg.MakeNoZero"], unfollowed := true, recurses := true, named := ["internal/bytealg.MaxLen", "unicode/utf8.first", "unicode/utf8.acceptRanges", "strconv.ErrSyntax", "strconv.ErrRange", "internal/strconv.uint64pow10", "math/bits.deBruijn32tab", "math/bits.deBruijn64tab"], apart := false, laid := [("math/bits.deBruijn32tab", laid_math_bits_deBruijn32tab), ("math/bits.deBruijn64tab", laid_math_bits_deBruijn64tab), ("internal/strconv.uint64pow10", laid_internal_strconv_uint64pow10), ("unicode/utf8.acceptRanges", laid_unicode_utf8_acceptRanges), ("strconv.ErrRange", laid_strconv_ErrRange), ("strconv.ErrSyntax", laid_strconv_ErrSyntax), ("unicode/utf8.first", laid_unicode_utf8_first)] }
def FnExactDivergentStatesSaid : Prop := fnExactDivergentStatesRow.holds Tryz.pinned (OpenSpec.ofChange fnExactDivergentStatesSpec)

/-- ITS FALSE NEIGHBOUR: 'it returns false'. Refute it at one input. -/
def fnExactDivergentStatesWrong : ChangeSpec := { name := "fnExactDivergentStates", fn := fun _ => fun
  | [d] => { results := [.lit (.bool false)], args := [d] }
  | _ => none }
def FnExactDivergentStatesWrongFalsely : Prop := fnExactDivergentStatesRow.holds Tryz.pinned (OpenSpec.ofChange fnExactDivergentStatesWrong)

/-- 'laws.FnExactReachableStates': WHATEVER THE INPUT: true; the input reads as it did. -/
def fnExactReachableStatesSpec : ChangeSpec := { name := "fnExactReachableStates", fn := fun _ => fun
  | [d] => { results := [.lit (.bool true)], args := [d] }
  | _ => none }
def fnExactReachableStatesRow : OpenClaim := { program := "ytkgkfbmcnchdbaagreatdoor", sum := "ee436dcced7ecc87aba4fc6023adaf0e29af99bfcdf27dd7df679083d94016a8", func := "loop.example/g01075/laws.FnExactReachableStates", spec := "fnExactReachableStates", inPlace := ["internal/bytealg.IndexByteString", "internal/bytealg.IndexString", "internal/bytealg.CountString", "internal/abi.NoEscape", "internal/bytealg.MakeNoZero"], unfollowed := true, recurses := true, named := ["internal/bytealg.MaxLen", "unicode/utf8.first", "unicode/utf8.acceptRanges", "strconv.ErrSyntax", "strconv.ErrRange", "internal/strconv.uint64pow10", "math/bits.deBruijn32tab", "math/bits.deBruijn64tab"], apart := false, laid := [("math/bits.deBruijn32tab", laid_math_bits_deBruijn32tab), ("math/bits.deBruijn64tab", laid_math_bits_deBruijn64tab), ("internal/strconv.uint64pow10", laid_internal_strconv_uint64pow10), ("unicode/utf8.acceptRanges", laid_unicode_utf8_acceptRanges), ("strconv.ErrRange", laid_strconv_ErrRange), ("strconv.ErrSyntax", laid_strconv_ErrSyntax), ("unicode/utf8.first", laid_unicode_utf8_first)] }
def FnExactReachableStatesSaid : Prop := fnExactReachableStatesRow.holds Tryz.pinned (OpenSpec.ofChange fnExactReachableStatesSpec)

/-- ITS FALSE NEIGHBOUR: 'it returns false'. Refute it at one input. -/
def fnExactReachableStatesWrong : ChangeSpec := { name := "fnExactReachableStates", fn := fun _ => fun
  | [d] => { results := [.lit (.bool false)], args := [d] }
  | _ => none }
def FnExactReachableStatesWrongFalsely : Prop := fnExactReachableStatesRow.holds Tryz.pinned (OpenSpec.ofChange fnExactReachableStatesWrong)

/-- 'laws.FnExactDeadlocksOf': WHATEVER THE INPUT: true; the input reads as it did. -/
def fnExactDeadlocksOfSpec : ChangeSpec := { name := "fnExactDeadlocksOf", fn := fun _ => fun
  | [d] => { results := [.lit (.bool true)], args := [d] }
  | _ => none }
def fnExactDeadlocksOfRow : OpenClaim := { program := "ytkgkfbmcnchdbaagreatdoor", sum := "ee436dcced7ecc87aba4fc6023adaf0e29af99bfcdf27dd7df679083d94016a8", func := "loop.example/g01075/laws.FnExactDeadlocksOf", spec := "fnExactDeadlocksOf", inPlace := ["internal/bytealg.IndexByteString", "internal/bytealg.IndexString", "internal/bytealg.CountString", "internal/abi.NoEscape", "internal/bytealg.MakeNoZero"], unfollowed := true, recurses := true, named := ["internal/bytealg.MaxLen", "unicode/utf8.first", "unicode/utf8.acceptRanges", "strconv.ErrSyntax", "strconv.ErrRange", "internal/strconv.uint64pow10", "math/bits.deBruijn32tab", "math/bits.deBruijn64tab"], apart := false, laid := [("math/bits.deBruijn32tab", laid_math_bits_deBruijn32tab), ("math/bits.deBruijn64tab", laid_math_bits_deBruijn64tab), ("internal/strconv.uint64pow10", laid_internal_strconv_uint64pow10), ("unicode/utf8.acceptRanges", laid_unicode_utf8_acceptRanges), ("strconv.ErrRange", laid_strconv_ErrRange), ("strconv.ErrSyntax", laid_strconv_ErrSyntax), ("unicode/utf8.first", laid_unicode_utf8_first)] }
def FnExactDeadlocksOfSaid : Prop := fnExactDeadlocksOfRow.holds Tryz.pinned (OpenSpec.ofChange fnExactDeadlocksOfSpec)

/-- ITS FALSE NEIGHBOUR: 'it returns false'. Refute it at one input. -/
def fnExactDeadlocksOfWrong : ChangeSpec := { name := "fnExactDeadlocksOf", fn := fun _ => fun
  | [d] => { results := [.lit (.bool false)], args := [d] }
  | _ => none }
def FnExactDeadlocksOfWrongFalsely : Prop := fnExactDeadlocksOfRow.holds Tryz.pinned (OpenSpec.ofChange fnExactDeadlocksOfWrong)

/-- 'laws.FnExactShortestPath': WHATEVER THE INPUT: true; the input reads as it did. -/
def fnExactShortestPathSpec : ChangeSpec := { name := "fnExactShortestPath", fn := fun _ => fun
  | [d1, d2] => { results := [.lit (.bool true)], args := [d1, d2] }
  | _ => none }
def fnExactShortestPathRow : OpenClaim := { program := "ytkgkfbmcnchdbaagreatdoor", sum := "ee436dcced7ecc87aba4fc6023adaf0e29af99bfcdf27dd7df679083d94016a8", func := "loop.example/g01075/laws.FnExactShortestPath", spec := "fnExactShortestPath", inPlace := ["internal/bytealg.IndexByteString", "internal/bytealg.IndexString", "internal/bytealg.CountString", "internal/abi.NoEscape", "internal/bytealg.MakeNoZero"], unfollowed := true, recurses := true, named := ["internal/bytealg.MaxLen", "unicode/utf8.first", "unicode/utf8.acceptRanges", "strconv.ErrSyntax", "strconv.ErrRange", "internal/strconv.uint64pow10", "math/bits.deBruijn32tab", "math/bits.deBruijn64tab"], apart := false, laid := [("math/bits.deBruijn32tab", laid_math_bits_deBruijn32tab), ("math/bits.deBruijn64tab", laid_math_bits_deBruijn64tab), ("internal/strconv.uint64pow10", laid_internal_strconv_uint64pow10), ("unicode/utf8.acceptRanges", laid_unicode_utf8_acceptRanges), ("strconv.ErrRange", laid_strconv_ErrRange), ("strconv.ErrSyntax", laid_strconv_ErrSyntax), ("unicode/utf8.first", laid_unicode_utf8_first)] }
def FnExactShortestPathSaid : Prop := fnExactShortestPathRow.holds Tryz.pinned (OpenSpec.ofChange fnExactShortestPathSpec)

/-- ITS FALSE NEIGHBOUR: 'it returns false'. Refute it at one input. -/
def fnExactShortestPathWrong : ChangeSpec := { name := "fnExactShortestPath", fn := fun _ => fun
  | [d1, d2] => { results := [.lit (.bool false)], args := [d1, d2] }
  | _ => none }
def FnExactShortestPathWrongFalsely : Prop := fnExactShortestPathRow.holds Tryz.pinned (OpenSpec.ofChange fnExactShortestPathWrong)

/-- 'laws.FnExactSuccessorsOf': WHATEVER THE INPUT: true; the input reads as it did. -/
def fnExactSuccessorsOfSpec : ChangeSpec := { name := "fnExactSuccessorsOf", fn := fun _ => fun
  | [d1, d2, d3] => { results := [.lit (.bool true)], args := [d1, d2, d3] }
  | _ => none }
def fnExactSuccessorsOfRow : OpenClaim := { program := "ytkgkfbmcnchdbaagreatdoor", sum := "ee436dcced7ecc87aba4fc6023adaf0e29af99bfcdf27dd7df679083d94016a8", func := "loop.example/g01075/laws.FnExactSuccessorsOf", spec := "fnExactSuccessorsOf", inPlace := ["internal/bytealg.IndexByteString", "internal/bytealg.IndexString", "internal/bytealg.CountString", "internal/abi.NoEscape", "internal/bytealg.MakeNoZero"], unfollowed := true, recurses := true, named := ["internal/bytealg.MaxLen", "unicode/utf8.first", "unicode/utf8.acceptRanges", "strconv.ErrSyntax", "strconv.ErrRange", "internal/strconv.uint64pow10", "math/bits.deBruijn32tab", "math/bits.deBruijn64tab"], apart := false, laid := [("math/bits.deBruijn32tab", laid_math_bits_deBruijn32tab), ("math/bits.deBruijn64tab", laid_math_bits_deBruijn64tab), ("internal/strconv.uint64pow10", laid_internal_strconv_uint64pow10), ("unicode/utf8.acceptRanges", laid_unicode_utf8_acceptRanges), ("strconv.ErrRange", laid_strconv_ErrRange), ("strconv.ErrSyntax", laid_strconv_ErrSyntax), ("unicode/utf8.first", laid_unicode_utf8_first)] }
def FnExactSuccessorsOfSaid : Prop := fnExactSuccessorsOfRow.holds Tryz.pinned (OpenSpec.ofChange fnExactSuccessorsOfSpec)

/-- ITS FALSE NEIGHBOUR: 'it returns false'. Refute it at one input. -/
def fnExactSuccessorsOfWrong : ChangeSpec := { name := "fnExactSuccessorsOf", fn := fun _ => fun
  | [d1, d2, d3] => { results := [.lit (.bool false)], args := [d1, d2, d3] }
  | _ => none }
def FnExactSuccessorsOfWrongFalsely : Prop := fnExactSuccessorsOfRow.holds Tryz.pinned (OpenSpec.ofChange fnExactSuccessorsOfWrong)

/-- 'laws.FnExactSubSystem': WHATEVER THE INPUT: true; the input reads as it did. -/
def fnExactSubSystemSpec : ChangeSpec := { name := "fnExactSubSystem", fn := fun _ => fun
  | [d1, d2] => { results := [.lit (.bool true)], args := [d1, d2] }
  | _ => none }
def fnExactSubSystemRow : OpenClaim := { program := "ytkgkfbmcnchdbaagreatdoor", sum := "ee436dcced7ecc87aba4fc6023adaf0e29af99bfcdf27dd7df679083d94016a8", func := "loop.example/g01075/laws.FnExactSubSystem", spec := "fnExactSubSystem", inPlace := ["internal/bytealg.IndexByteString", "internal/bytealg.IndexString", "internal/bytealg.CountString", "internal/abi.NoEscape", "internal/bytealg.MakeNoZero"], unfollowed := true, recurses := true, named := ["internal/bytealg.MaxLen", "unicode/utf8.first", "unicode/utf8.acceptRanges", "strconv.ErrSyntax", "strconv.ErrRange", "internal/strconv.uint64pow10", "math/bits.deBruijn32tab", "math/bits.deBruijn64tab"], apart := false, laid := [("math/bits.deBruijn32tab", laid_math_bits_deBruijn32tab), ("math/bits.deBruijn64tab", laid_math_bits_deBruijn64tab), ("internal/strconv.uint64pow10", laid_internal_strconv_uint64pow10), ("unicode/utf8.acceptRanges", laid_unicode_utf8_acceptRanges), ("strconv.ErrRange", laid_strconv_ErrRange), ("strconv.ErrSyntax", laid_strconv_ErrSyntax), ("unicode/utf8.first", laid_unicode_utf8_first)] }
def FnExactSubSystemSaid : Prop := fnExactSubSystemRow.holds Tryz.pinned (OpenSpec.ofChange fnExactSubSystemSpec)

/-- ITS FALSE NEIGHBOUR: 'it returns false'. Refute it at one input. -/
def fnExactSubSystemWrong : ChangeSpec := { name := "fnExactSubSystem", fn := fun _ => fun
  | [d1, d2] => { results := [.lit (.bool false)], args := [d1, d2] }
  | _ => none }
def FnExactSubSystemWrongFalsely : Prop := fnExactSubSystemRow.holds Tryz.pinned (OpenSpec.ofChange fnExactSubSystemWrong)

/-- 'laws.FnExactStableStates': WHATEVER THE INPUT: true; the input reads as it did. -/
def fnExactStableStatesSpec : ChangeSpec := { name := "fnExactStableStates", fn := fun _ => fun
  | [d] => { results := [.lit (.bool true)], args := [d] }
  | _ => none }
def fnExactStableStatesRow : OpenClaim := { program := "ytkgkfbmcnchdbaagreatdoor", sum := "ee436dcced7ecc87aba4fc6023adaf0e29af99bfcdf27dd7df679083d94016a8", func := "loop.example/g01075/laws.FnExactStableStates", spec := "fnExactStableStates", inPlace := ["internal/bytealg.IndexByteString", "internal/bytealg.IndexString", "internal/bytealg.CountString", "internal/abi.NoEscape", "internal/bytealg.MakeNoZero", "internal/bytealg.abigen_runtime_cmpstring"], unfollowed := true, recurses := true, named := ["internal/bytealg.MaxLen", "unicode/utf8.first", "unicode/utf8.acceptRanges", "strconv.ErrSyntax", "strconv.ErrRange", "internal/strconv.uint64pow10", "math/bits.deBruijn32tab", "math/bits.deBruijn64tab"], apart := false, laid := [("math/bits.deBruijn32tab", laid_math_bits_deBruijn32tab), ("math/bits.deBruijn64tab", laid_math_bits_deBruijn64tab), ("internal/strconv.uint64pow10", laid_internal_strconv_uint64pow10), ("unicode/utf8.acceptRanges", laid_unicode_utf8_acceptRanges), ("strconv.ErrRange", laid_strconv_ErrRange), ("strconv.ErrSyntax", laid_strconv_ErrSyntax), ("unicode/utf8.first", laid_unicode_utf8_first)] }
def FnExactStableStatesSaid : Prop := fnExactStableStatesRow.holds Tryz.pinned (OpenSpec.ofChange fnExactStableStatesSpec)

/-- ITS FALSE NEIGHBOUR: 'it returns false'. Refute it at one input. -/
def fnExactStableStatesWrong : ChangeSpec := { name := "fnExactStableStates", fn := fun _ => fun
  | [d] => { results := [.lit (.bool false)], args := [d] }
  | _ => none }
def FnExactStableStatesWrongFalsely : Prop := fnExactStableStatesRow.holds Tryz.pinned (OpenSpec.ofChange fnExactStableStatesWrong)

/-- 'laws.FnExactInternalClosure': WHATEVER THE INPUT: true; the input reads as it did. -/
def fnExactInternalClosureSpec : ChangeSpec := { name := "fnExactInternalClosure", fn := fun _ => fun
  | [d1, d2] => { results := [.lit (.bool true)], args := [d1, d2] }
  | _ => none }
def fnExactInternalClosureRow : OpenClaim := { program := "ytkgkfbmcnchdbaagreatdoor", sum := "ee436dcced7ecc87aba4fc6023adaf0e29af99bfcdf27dd7df679083d94016a8", func := "loop.example/g01075/laws.FnExactInternalClosure", spec := "fnExactInternalClosure", inPlace := ["internal/bytealg.IndexByteString", "internal/bytealg.IndexString", "internal/bytealg.CountString", "internal/abi.NoEscape", "internal/bytealg.MakeNoZero"], unfollowed := true, recurses := true, named := ["internal/bytealg.MaxLen", "unicode/utf8.first", "unicode/utf8.acceptRanges", "strconv.ErrSyntax", "strconv.ErrRange", "internal/strconv.uint64pow10", "math/bits.deBruijn32tab", "math/bits.deBruijn64tab"], apart := false, laid := [("math/bits.deBruijn32tab", laid_math_bits_deBruijn32tab), ("math/bits.deBruijn64tab", laid_math_bits_deBruijn64tab), ("internal/strconv.uint64pow10", laid_internal_strconv_uint64pow10), ("unicode/utf8.acceptRanges", laid_unicode_utf8_acceptRanges), ("strconv.ErrRange", laid_strconv_ErrRange), ("strconv.ErrSyntax", laid_strconv_ErrSyntax), ("unicode/utf8.first", laid_unicode_utf8_first)] }
def FnExactInternalClosureSaid : Prop := fnExactInternalClosureRow.holds Tryz.pinned (OpenSpec.ofChange fnExactInternalClosureSpec)

/-- ITS FALSE NEIGHBOUR: 'it returns false'. Refute it at one input. -/
def fnExactInternalClosureWrong : ChangeSpec := { name := "fnExactInternalClosure", fn := fun _ => fun
  | [d1, d2] => { results := [.lit (.bool false)], args := [d1, d2] }
  | _ => none }
def FnExactInternalClosureWrongFalsely : Prop := fnExactInternalClosureRow.holds Tryz.pinned (OpenSpec.ofChange fnExactInternalClosureWrong)

/-- 'laws.FnExactIsCompletedTrace': WHATEVER THE INPUT: true; the input reads as it did. -/
def fnExactIsCompletedTraceSpec : ChangeSpec := { name := "fnExactIsCompletedTrace", fn := fun _ => fun
  | [d1, d2] => { results := [.lit (.bool true)], args := [d1, d2] }
  | _ => none }
def fnExactIsCompletedTraceRow : OpenClaim := { program := "ytkgkfbmcnchdbaagreatdoor", sum := "ee436dcced7ecc87aba4fc6023adaf0e29af99bfcdf27dd7df679083d94016a8", func := "loop.example/g01075/laws.FnExactIsCompletedTrace", spec := "fnExactIsCompletedTrace", inPlace := ["internal/bytealg.IndexByteString", "internal/bytealg.IndexString", "internal/bytealg.CountString", "internal/abi.NoEscape", "internal/bytealg.MakeNoZero"], unfollowed := true, recurses := true, named := ["internal/bytealg.MaxLen", "unicode/utf8.first", "unicode/utf8.acceptRanges", "strconv.ErrSyntax", "strconv.ErrRange", "internal/strconv.uint64pow10", "math/bits.deBruijn32tab", "math/bits.deBruijn64tab"], apart := false, laid := [("math/bits.deBruijn32tab", laid_math_bits_deBruijn32tab), ("math/bits.deBruijn64tab", laid_math_bits_deBruijn64tab), ("internal/strconv.uint64pow10", laid_internal_strconv_uint64pow10), ("unicode/utf8.acceptRanges", laid_unicode_utf8_acceptRanges), ("strconv.ErrRange", laid_strconv_ErrRange), ("strconv.ErrSyntax", laid_strconv_ErrSyntax), ("unicode/utf8.first", laid_unicode_utf8_first)] }
def FnExactIsCompletedTraceSaid : Prop := fnExactIsCompletedTraceRow.holds Tryz.pinned (OpenSpec.ofChange fnExactIsCompletedTraceSpec)

/-- ITS FALSE NEIGHBOUR: 'it returns false'. Refute it at one input. -/
def fnExactIsCompletedTraceWrong : ChangeSpec := { name := "fnExactIsCompletedTrace", fn := fun _ => fun
  | [d1, d2] => { results := [.lit (.bool false)], args := [d1, d2] }
  | _ => none }
def FnExactIsCompletedTraceWrongFalsely : Prop := fnExactIsCompletedTraceRow.holds Tryz.pinned (OpenSpec.ofChange fnExactIsCompletedTraceWrong)

/- THE SECOND FORM. 'bulk': how many values and letters a reading holds, each counted each time it is reached (what is shared counts as often as it is met; a slice's spare places count too). A statement '..UptoSaid' is the law's where the arguments, and the package variables that the reading takes, are together of bulk at most 1048576: NARROWER than '..Said'. Prove '..Said' where nothing that the law and all that it calls make is longer than what came in: it says more and counts as full. Else prove '..UptoSaid'. A law counts once. -/
mutual
def uptoBulk {H : Type} : DataW H → Nat
  | .lit (.string bytes) => bytes.length + 1
  | .lit _ => 1
  | .nil => 1
  | .ptr d => uptoBulk d + 1
  | .slice elems spare => uptoBulkAll elems + uptoBulkAll spare + 1
  | .agg parts => uptoBulkAll parts + 1
  | .iface _ d => uptoBulk d + 1
  | .map entries => uptoBulkEntries entries + 1
  | .held _ => 1
def uptoBulkAll {H : Type} : List (DataW H) → Nat
  | [] => 0
  | d :: r => uptoBulk d + uptoBulkAll r
def uptoBulkEntries {H : Type} : List (Lit × DataW H) → Nat
  | [] => 0
  | x :: r => uptoBulkEntry x + uptoBulkEntries r
def uptoBulkEntry {H : Type} : Lit × DataW H → Nat
  | (.string bytes, d) => bytes.length + uptoBulk d + 1
  | (_, d) => uptoBulk d + 1
 end
def uptoSmall : (H : Type) → List (DataW H) → Bool := fun _ ds => decide (uptoBulkAll ds ≤ 1048576)
def OpenSpec.upto (s : _root_.Go.ChangeSpec) : _root_.Go.OpenSpec := { _root_.Go.OpenSpec.ofChange s with cond := some uptoSmall }

/-- 'laws.FnExactValidLts', WHERE WHAT IT READS IS OF BULK AT MOST 1048576: true; the input reads as it did. -/
def fnExactValidLtsUptoRow : OpenClaim := { program := "ytkgkfbmcnchdbaagreatdoor", sum := "ee436dcced7ecc87aba4fc6023adaf0e29af99bfcdf27dd7df679083d94016a8", func := "loop.example/g01075/laws.FnExactValidLts", spec := "fnExactValidLts", inPlace := ["internal/bytealg.IndexByteString", "internal/bytealg.IndexString", "internal/bytealg.CountString", "internal/abi.NoEscape", "internal/bytealg.MakeNoZero"], unfollowed := true, recurses := true, named := ["internal/bytealg.MaxLen", "unicode/utf8.first", "unicode/utf8.acceptRanges", "strconv.ErrSyntax", "strconv.ErrRange", "internal/strconv.uint64pow10", "math/bits.deBruijn32tab", "math/bits.deBruijn64tab"], apart := false, laid := [("math/bits.deBruijn32tab", laid_math_bits_deBruijn32tab), ("math/bits.deBruijn64tab", laid_math_bits_deBruijn64tab), ("internal/strconv.uint64pow10", laid_internal_strconv_uint64pow10), ("unicode/utf8.acceptRanges", laid_unicode_utf8_acceptRanges), ("strconv.ErrRange", laid_strconv_ErrRange), ("strconv.ErrSyntax", laid_strconv_ErrSyntax), ("unicode/utf8.first", laid_unicode_utf8_first)], narrowed := true }
def FnExactValidLtsUptoSaid : Prop := fnExactValidLtsUptoRow.holds Tryz.pinned (OpenSpec.upto fnExactValidLtsSpec)

/-- 'laws.FnExactIsDeterministicLts', WHERE WHAT IT READS IS OF BULK AT MOST 1048576: true; the input reads as it did. -/
def fnExactIsDeterministicLtsUptoRow : OpenClaim := { program := "ytkgkfbmcnchdbaagreatdoor", sum := "ee436dcced7ecc87aba4fc6023adaf0e29af99bfcdf27dd7df679083d94016a8", func := "loop.example/g01075/laws.FnExactIsDeterministicLts", spec := "fnExactIsDeterministicLts", inPlace := ["internal/bytealg.IndexByteString", "internal/bytealg.IndexString", "internal/bytealg.CountString", "internal/abi.NoEscape", "internal/bytealg.MakeNoZero"], unfollowed := true, recurses := true, named := ["internal/bytealg.MaxLen", "unicode/utf8.first", "unicode/utf8.acceptRanges", "strconv.ErrSyntax", "strconv.ErrRange", "internal/strconv.uint64pow10", "math/bits.deBruijn32tab", "math/bits.deBruijn64tab"], apart := false, laid := [("math/bits.deBruijn32tab", laid_math_bits_deBruijn32tab), ("math/bits.deBruijn64tab", laid_math_bits_deBruijn64tab), ("internal/strconv.uint64pow10", laid_internal_strconv_uint64pow10), ("unicode/utf8.acceptRanges", laid_unicode_utf8_acceptRanges), ("strconv.ErrRange", laid_strconv_ErrRange), ("strconv.ErrSyntax", laid_strconv_ErrSyntax), ("unicode/utf8.first", laid_unicode_utf8_first)], narrowed := true }
def FnExactIsDeterministicLtsUptoSaid : Prop := fnExactIsDeterministicLtsUptoRow.holds Tryz.pinned (OpenSpec.upto fnExactIsDeterministicLtsSpec)

/-- 'laws.FnExactEndOfPath', WHERE WHAT IT READS IS OF BULK AT MOST 1048576: true; the input reads as it did. -/
def fnExactEndOfPathUptoRow : OpenClaim := { program := "ytkgkfbmcnchdbaagreatdoor", sum := "ee436dcced7ecc87aba4fc6023adaf0e29af99bfcdf27dd7df679083d94016a8", func := "loop.example/g01075/laws.FnExactEndOfPath", spec := "fnExactEndOfPath", inPlace := ["internal/bytealg.IndexByteString", "internal/bytealg.IndexString", "internal/bytealg.CountString", "internal/abi.NoEscape", "internal/bytealg.MakeNoZero"], unfollowed := true, recurses := true, named := ["internal/bytealg.MaxLen", "unicode/utf8.first", "unicode/utf8.acceptRanges", "strconv.ErrSyntax", "strconv.ErrRange", "internal/strconv.uint64pow10", "math/bits.deBruijn32tab", "math/bits.deBruijn64tab"], apart := false, laid := [("math/bits.deBruijn32tab", laid_math_bits_deBruijn32tab), ("math/bits.deBruijn64tab", laid_math_bits_deBruijn64tab), ("internal/strconv.uint64pow10", laid_internal_strconv_uint64pow10), ("unicode/utf8.acceptRanges", laid_unicode_utf8_acceptRanges), ("strconv.ErrRange", laid_strconv_ErrRange), ("strconv.ErrSyntax", laid_strconv_ErrSyntax), ("unicode/utf8.first", laid_unicode_utf8_first)], narrowed := true }
def FnExactEndOfPathUptoSaid : Prop := fnExactEndOfPathUptoRow.holds Tryz.pinned (OpenSpec.upto fnExactEndOfPathSpec)

/-- 'laws.FnExactOutOf', WHERE WHAT IT READS IS OF BULK AT MOST 1048576: true; the input reads as it did. -/
def fnExactOutOfUptoRow : OpenClaim := { program := "ytkgkfbmcnchdbaagreatdoor", sum := "ee436dcced7ecc87aba4fc6023adaf0e29af99bfcdf27dd7df679083d94016a8", func := "loop.example/g01075/laws.FnExactOutOf", spec := "fnExactOutOf", inPlace := ["internal/bytealg.IndexByteString", "internal/bytealg.IndexString", "internal/bytealg.CountString", "internal/abi.NoEscape", "internal/bytealg.MakeNoZero"], unfollowed := true, recurses := true, named := ["internal/bytealg.MaxLen", "unicode/utf8.first", "unicode/utf8.acceptRanges", "strconv.ErrSyntax", "strconv.ErrRange", "internal/strconv.uint64pow10", "math/bits.deBruijn32tab", "math/bits.deBruijn64tab"], apart := false, laid := [("math/bits.deBruijn32tab", laid_math_bits_deBruijn32tab), ("math/bits.deBruijn64tab", laid_math_bits_deBruijn64tab), ("internal/strconv.uint64pow10", laid_internal_strconv_uint64pow10), ("unicode/utf8.acceptRanges", laid_unicode_utf8_acceptRanges), ("strconv.ErrRange", laid_strconv_ErrRange), ("strconv.ErrSyntax", laid_strconv_ErrSyntax), ("unicode/utf8.first", laid_unicode_utf8_first)], narrowed := true }
def FnExactOutOfUptoSaid : Prop := fnExactOutOfUptoRow.holds Tryz.pinned (OpenSpec.upto fnExactOutOfSpec)

/-- 'laws.FnExactPathLabels', WHERE WHAT IT READS IS OF BULK AT MOST 1048576: true; the input reads as it did. -/
def fnExactPathLabelsUptoRow : OpenClaim := { program := "ytkgkfbmcnchdbaagreatdoor", sum := "ee436dcced7ecc87aba4fc6023adaf0e29af99bfcdf27dd7df679083d94016a8", func := "loop.example/g01075/laws.FnExactPathLabels", spec := "fnExactPathLabels", inPlace := ["internal/bytealg.IndexByteString", "internal/bytealg.IndexString", "internal/bytealg.CountString", "internal/abi.NoEscape", "internal/bytealg.MakeNoZero"], unfollowed := true, recurses := true, named := ["internal/bytealg.MaxLen", "unicode/utf8.first", "unicode/utf8.acceptRanges", "strconv.ErrSyntax", "strconv.ErrRange", "internal/strconv.uint64pow10", "math/bits.deBruijn32tab", "math/bits.deBruijn64tab"], apart := false, laid := [("math/bits.deBruijn32tab", laid_math_bits_deBruijn32tab), ("math/bits.deBruijn64tab", laid_math_bits_deBruijn64tab), ("internal/strconv.uint64pow10", laid_internal_strconv_uint64pow10), ("unicode/utf8.acceptRanges", laid_unicode_utf8_acceptRanges), ("strconv.ErrRange", laid_strconv_ErrRange), ("strconv.ErrSyntax", laid_strconv_ErrSyntax), ("unicode/utf8.first", laid_unicode_utf8_first)], narrowed := true }
def FnExactPathLabelsUptoSaid : Prop := fnExactPathLabelsUptoRow.holds Tryz.pinned (OpenSpec.upto fnExactPathLabelsSpec)

/-- 'laws.FnExactDistancesOf', WHERE WHAT IT READS IS OF BULK AT MOST 1048576: true; the input reads as it did. -/
def fnExactDistancesOfUptoRow : OpenClaim := { program := "ytkgkfbmcnchdbaagreatdoor", sum := "ee436dcced7ecc87aba4fc6023adaf0e29af99bfcdf27dd7df679083d94016a8", func := "loop.example/g01075/laws.FnExactDistancesOf", spec := "fnExactDistancesOf", inPlace := ["internal/bytealg.IndexByteString", "internal/bytealg.IndexString", "internal/bytealg.CountString", "internal/abi.NoEscape", "internal/bytealg.MakeNoZero"], unfollowed := true, recurses := true, named := ["internal/bytealg.MaxLen", "unicode/utf8.first", "unicode/utf8.acceptRanges", "strconv.ErrSyntax", "strconv.ErrRange", "internal/strconv.uint64pow10", "math/bits.deBruijn32tab", "math/bits.deBruijn64tab"], apart := false, laid := [("math/bits.deBruijn32tab", laid_math_bits_deBruijn32tab), ("math/bits.deBruijn64tab", laid_math_bits_deBruijn64tab), ("internal/strconv.uint64pow10", laid_internal_strconv_uint64pow10), ("unicode/utf8.acceptRanges", laid_unicode_utf8_acceptRanges), ("strconv.ErrRange", laid_strconv_ErrRange), ("strconv.ErrSyntax", laid_strconv_ErrSyntax), ("unicode/utf8.first", laid_unicode_utf8_first)], narrowed := true }
def FnExactDistancesOfUptoSaid : Prop := fnExactDistancesOfUptoRow.holds Tryz.pinned (OpenSpec.upto fnExactDistancesOfSpec)

/-- 'laws.FnExactInertEdges', WHERE WHAT IT READS IS OF BULK AT MOST 1048576: true; the input reads as it did. -/
def fnExactInertEdgesUptoRow : OpenClaim := { program := "ytkgkfbmcnchdbaagreatdoor", sum := "ee436dcced7ecc87aba4fc6023adaf0e29af99bfcdf27dd7df679083d94016a8", func := "loop.example/g01075/laws.FnExactInertEdges", spec := "fnExactInertEdges", inPlace := ["internal/bytealg.IndexByteString", "internal/bytealg.IndexString", "internal/bytealg.CountString", "internal/abi.NoEscape", "internal/bytealg.MakeNoZero"], unfollowed := true, recurses := true, named := ["internal/bytealg.MaxLen", "unicode/utf8.first", "unicode/utf8.acceptRanges", "strconv.ErrSyntax", "strconv.ErrRange", "internal/strconv.uint64pow10", "math/bits.deBruijn32tab", "math/bits.deBruijn64tab"], apart := false, laid := [("math/bits.deBruijn32tab", laid_math_bits_deBruijn32tab), ("math/bits.deBruijn64tab", laid_math_bits_deBruijn64tab), ("internal/strconv.uint64pow10", laid_internal_strconv_uint64pow10), ("unicode/utf8.acceptRanges", laid_unicode_utf8_acceptRanges), ("strconv.ErrRange", laid_strconv_ErrRange), ("strconv.ErrSyntax", laid_strconv_ErrSyntax), ("unicode/utf8.first", laid_unicode_utf8_first)], narrowed := true }
def FnExactInertEdgesUptoSaid : Prop := fnExactInertEdgesUptoRow.holds Tryz.pinned (OpenSpec.upto fnExactInertEdgesSpec)

/-- 'laws.FnExactDivergentStates', WHERE WHAT IT READS IS OF BULK AT MOST 1048576: true; the input reads as it did. -/
def fnExactDivergentStatesUptoRow : OpenClaim := { program := "ytkgkfbmcnchdbaagreatdoor", sum := "ee436dcced7ecc87aba4fc6023adaf0e29af99bfcdf27dd7df679083d94016a8", func := "loop.example/g01075/laws.FnExactDivergentStates", spec := "fnExactDivergentStates", inPlace := ["internal/bytealg.IndexByteString", "internal/bytealg.IndexString", "internal/bytealg.CountString", "internal/abi.NoEscape", "internal/bytealg.MakeNoZero"], unfollowed := true, recurses := true, named := ["internal/bytealg.MaxLen", "unicode/utf8.first", "unicode/utf8.acceptRanges", "strconv.ErrSyntax", "strconv.ErrRange", "internal/strconv.uint64pow10", "math/bits.deBruijn32tab", "math/bits.deBruijn64tab"], apart := false, laid := [("math/bits.deBruijn32tab", laid_math_bits_deBruijn32tab), ("math/bits.deBruijn64tab", laid_math_bits_deBruijn64tab), ("internal/strconv.uint64pow10", laid_internal_strconv_uint64pow10), ("unicode/utf8.acceptRanges", laid_unicode_utf8_acceptRanges), ("strconv.ErrRange", laid_strconv_ErrRange), ("strconv.ErrSyntax", laid_strconv_ErrSyntax), ("unicode/utf8.first", laid_unicode_utf8_first)], narrowed := true }
def FnExactDivergentStatesUptoSaid : Prop := fnExactDivergentStatesUptoRow.holds Tryz.pinned (OpenSpec.upto fnExactDivergentStatesSpec)

/-- 'laws.FnExactReachableStates', WHERE WHAT IT READS IS OF BULK AT MOST 1048576: true; the input reads as it did. -/
def fnExactReachableStatesUptoRow : OpenClaim := { program := "ytkgkfbmcnchdbaagreatdoor", sum := "ee436dcced7ecc87aba4fc6023adaf0e29af99bfcdf27dd7df679083d94016a8", func := "loop.example/g01075/laws.FnExactReachableStates", spec := "fnExactReachableStates", inPlace := ["internal/bytealg.IndexByteString", "internal/bytealg.IndexString", "internal/bytealg.CountString", "internal/abi.NoEscape", "internal/bytealg.MakeNoZero"], unfollowed := true, recurses := true, named := ["internal/bytealg.MaxLen", "unicode/utf8.first", "unicode/utf8.acceptRanges", "strconv.ErrSyntax", "strconv.ErrRange", "internal/strconv.uint64pow10", "math/bits.deBruijn32tab", "math/bits.deBruijn64tab"], apart := false, laid := [("math/bits.deBruijn32tab", laid_math_bits_deBruijn32tab), ("math/bits.deBruijn64tab", laid_math_bits_deBruijn64tab), ("internal/strconv.uint64pow10", laid_internal_strconv_uint64pow10), ("unicode/utf8.acceptRanges", laid_unicode_utf8_acceptRanges), ("strconv.ErrRange", laid_strconv_ErrRange), ("strconv.ErrSyntax", laid_strconv_ErrSyntax), ("unicode/utf8.first", laid_unicode_utf8_first)], narrowed := true }
def FnExactReachableStatesUptoSaid : Prop := fnExactReachableStatesUptoRow.holds Tryz.pinned (OpenSpec.upto fnExactReachableStatesSpec)

/-- 'laws.FnExactDeadlocksOf', WHERE WHAT IT READS IS OF BULK AT MOST 1048576: true; the input reads as it did. -/
def fnExactDeadlocksOfUptoRow : OpenClaim := { program := "ytkgkfbmcnchdbaagreatdoor", sum := "ee436dcced7ecc87aba4fc6023adaf0e29af99bfcdf27dd7df679083d94016a8", func := "loop.example/g01075/laws.FnExactDeadlocksOf", spec := "fnExactDeadlocksOf", inPlace := ["internal/bytealg.IndexByteString", "internal/bytealg.IndexString", "internal/bytealg.CountString", "internal/abi.NoEscape", "internal/bytealg.MakeNoZero"], unfollowed := true, recurses := true, named := ["internal/bytealg.MaxLen", "unicode/utf8.first", "unicode/utf8.acceptRanges", "strconv.ErrSyntax", "strconv.ErrRange", "internal/strconv.uint64pow10", "math/bits.deBruijn32tab", "math/bits.deBruijn64tab"], apart := false, laid := [("math/bits.deBruijn32tab", laid_math_bits_deBruijn32tab), ("math/bits.deBruijn64tab", laid_math_bits_deBruijn64tab), ("internal/strconv.uint64pow10", laid_internal_strconv_uint64pow10), ("unicode/utf8.acceptRanges", laid_unicode_utf8_acceptRanges), ("strconv.ErrRange", laid_strconv_ErrRange), ("strconv.ErrSyntax", laid_strconv_ErrSyntax), ("unicode/utf8.first", laid_unicode_utf8_first)], narrowed := true }
def FnExactDeadlocksOfUptoSaid : Prop := fnExactDeadlocksOfUptoRow.holds Tryz.pinned (OpenSpec.upto fnExactDeadlocksOfSpec)

/-- 'laws.FnExactShortestPath', WHERE WHAT IT READS IS OF BULK AT MOST 1048576: true; the input reads as it did. -/
def fnExactShortestPathUptoRow : OpenClaim := { program := "ytkgkfbmcnchdbaagreatdoor", sum := "ee436dcced7ecc87aba4fc6023adaf0e29af99bfcdf27dd7df679083d94016a8", func := "loop.example/g01075/laws.FnExactShortestPath", spec := "fnExactShortestPath", inPlace := ["internal/bytealg.IndexByteString", "internal/bytealg.IndexString", "internal/bytealg.CountString", "internal/abi.NoEscape", "internal/bytealg.MakeNoZero"], unfollowed := true, recurses := true, named := ["internal/bytealg.MaxLen", "unicode/utf8.first", "unicode/utf8.acceptRanges", "strconv.ErrSyntax", "strconv.ErrRange", "internal/strconv.uint64pow10", "math/bits.deBruijn32tab", "math/bits.deBruijn64tab"], apart := false, laid := [("math/bits.deBruijn32tab", laid_math_bits_deBruijn32tab), ("math/bits.deBruijn64tab", laid_math_bits_deBruijn64tab), ("internal/strconv.uint64pow10", laid_internal_strconv_uint64pow10), ("unicode/utf8.acceptRanges", laid_unicode_utf8_acceptRanges), ("strconv.ErrRange", laid_strconv_ErrRange), ("strconv.ErrSyntax", laid_strconv_ErrSyntax), ("unicode/utf8.first", laid_unicode_utf8_first)], narrowed := true }
def FnExactShortestPathUptoSaid : Prop := fnExactShortestPathUptoRow.holds Tryz.pinned (OpenSpec.upto fnExactShortestPathSpec)

/-- 'laws.FnExactSuccessorsOf', WHERE WHAT IT READS IS OF BULK AT MOST 1048576: true; the input reads as it did. -/
def fnExactSuccessorsOfUptoRow : OpenClaim := { program := "ytkgkfbmcnchdbaagreatdoor", sum := "ee436dcced7ecc87aba4fc6023adaf0e29af99bfcdf27dd7df679083d94016a8", func := "loop.example/g01075/laws.FnExactSuccessorsOf", spec := "fnExactSuccessorsOf", inPlace := ["internal/bytealg.IndexByteString", "internal/bytealg.IndexString", "internal/bytealg.CountString", "internal/abi.NoEscape", "internal/bytealg.MakeNoZero"], unfollowed := true, recurses := true, named := ["internal/bytealg.MaxLen", "unicode/utf8.first", "unicode/utf8.acceptRanges", "strconv.ErrSyntax", "strconv.ErrRange", "internal/strconv.uint64pow10", "math/bits.deBruijn32tab", "math/bits.deBruijn64tab"], apart := false, laid := [("math/bits.deBruijn32tab", laid_math_bits_deBruijn32tab), ("math/bits.deBruijn64tab", laid_math_bits_deBruijn64tab), ("internal/strconv.uint64pow10", laid_internal_strconv_uint64pow10), ("unicode/utf8.acceptRanges", laid_unicode_utf8_acceptRanges), ("strconv.ErrRange", laid_strconv_ErrRange), ("strconv.ErrSyntax", laid_strconv_ErrSyntax), ("unicode/utf8.first", laid_unicode_utf8_first)], narrowed := true }
def FnExactSuccessorsOfUptoSaid : Prop := fnExactSuccessorsOfUptoRow.holds Tryz.pinned (OpenSpec.upto fnExactSuccessorsOfSpec)

/-- 'laws.FnExactSubSystem', WHERE WHAT IT READS IS OF BULK AT MOST 1048576: true; the input reads as it did. -/
def fnExactSubSystemUptoRow : OpenClaim := { program := "ytkgkfbmcnchdbaagreatdoor", sum := "ee436dcced7ecc87aba4fc6023adaf0e29af99bfcdf27dd7df679083d94016a8", func := "loop.example/g01075/laws.FnExactSubSystem", spec := "fnExactSubSystem", inPlace := ["internal/bytealg.IndexByteString", "internal/bytealg.IndexString", "internal/bytealg.CountString", "internal/abi.NoEscape", "internal/bytealg.MakeNoZero"], unfollowed := true, recurses := true, named := ["internal/bytealg.MaxLen", "unicode/utf8.first", "unicode/utf8.acceptRanges", "strconv.ErrSyntax", "strconv.ErrRange", "internal/strconv.uint64pow10", "math/bits.deBruijn32tab", "math/bits.deBruijn64tab"], apart := false, laid := [("math/bits.deBruijn32tab", laid_math_bits_deBruijn32tab), ("math/bits.deBruijn64tab", laid_math_bits_deBruijn64tab), ("internal/strconv.uint64pow10", laid_internal_strconv_uint64pow10), ("unicode/utf8.acceptRanges", laid_unicode_utf8_acceptRanges), ("strconv.ErrRange", laid_strconv_ErrRange), ("strconv.ErrSyntax", laid_strconv_ErrSyntax), ("unicode/utf8.first", laid_unicode_utf8_first)], narrowed := true }
def FnExactSubSystemUptoSaid : Prop := fnExactSubSystemUptoRow.holds Tryz.pinned (OpenSpec.upto fnExactSubSystemSpec)

/-- 'laws.FnExactStableStates', WHERE WHAT IT READS IS OF BULK AT MOST 1048576: true; the input reads as it did. -/
def fnExactStableStatesUptoRow : OpenClaim := { program := "ytkgkfbmcnchdbaagreatdoor", sum := "ee436dcced7ecc87aba4fc6023adaf0e29af99bfcdf27dd7df679083d94016a8", func := "loop.example/g01075/laws.FnExactStableStates", spec := "fnExactStableStates", inPlace := ["internal/bytealg.IndexByteString", "internal/bytealg.IndexString", "internal/bytealg.CountString", "internal/abi.NoEscape", "internal/bytealg.MakeNoZero", "internal/bytealg.abigen_runtime_cmpstring"], unfollowed := true, recurses := true, named := ["internal/bytealg.MaxLen", "unicode/utf8.first", "unicode/utf8.acceptRanges", "strconv.ErrSyntax", "strconv.ErrRange", "internal/strconv.uint64pow10", "math/bits.deBruijn32tab", "math/bits.deBruijn64tab"], apart := false, laid := [("math/bits.deBruijn32tab", laid_math_bits_deBruijn32tab), ("math/bits.deBruijn64tab", laid_math_bits_deBruijn64tab), ("internal/strconv.uint64pow10", laid_internal_strconv_uint64pow10), ("unicode/utf8.acceptRanges", laid_unicode_utf8_acceptRanges), ("strconv.ErrRange", laid_strconv_ErrRange), ("strconv.ErrSyntax", laid_strconv_ErrSyntax), ("unicode/utf8.first", laid_unicode_utf8_first)], narrowed := true }
def FnExactStableStatesUptoSaid : Prop := fnExactStableStatesUptoRow.holds Tryz.pinned (OpenSpec.upto fnExactStableStatesSpec)

/-- 'laws.FnExactInternalClosure', WHERE WHAT IT READS IS OF BULK AT MOST 1048576: true; the input reads as it did. -/
def fnExactInternalClosureUptoRow : OpenClaim := { program := "ytkgkfbmcnchdbaagreatdoor", sum := "ee436dcced7ecc87aba4fc6023adaf0e29af99bfcdf27dd7df679083d94016a8", func := "loop.example/g01075/laws.FnExactInternalClosure", spec := "fnExactInternalClosure", inPlace := ["internal/bytealg.IndexByteString", "internal/bytealg.IndexString", "internal/bytealg.CountString", "internal/abi.NoEscape", "internal/bytealg.MakeNoZero"], unfollowed := true, recurses := true, named := ["internal/bytealg.MaxLen", "unicode/utf8.first", "unicode/utf8.acceptRanges", "strconv.ErrSyntax", "strconv.ErrRange", "internal/strconv.uint64pow10", "math/bits.deBruijn32tab", "math/bits.deBruijn64tab"], apart := false, laid := [("math/bits.deBruijn32tab", laid_math_bits_deBruijn32tab), ("math/bits.deBruijn64tab", laid_math_bits_deBruijn64tab), ("internal/strconv.uint64pow10", laid_internal_strconv_uint64pow10), ("unicode/utf8.acceptRanges", laid_unicode_utf8_acceptRanges), ("strconv.ErrRange", laid_strconv_ErrRange), ("strconv.ErrSyntax", laid_strconv_ErrSyntax), ("unicode/utf8.first", laid_unicode_utf8_first)], narrowed := true }
def FnExactInternalClosureUptoSaid : Prop := fnExactInternalClosureUptoRow.holds Tryz.pinned (OpenSpec.upto fnExactInternalClosureSpec)

/-- 'laws.FnExactIsCompletedTrace', WHERE WHAT IT READS IS OF BULK AT MOST 1048576: true; the input reads as it did. -/
def fnExactIsCompletedTraceUptoRow : OpenClaim := { program := "ytkgkfbmcnchdbaagreatdoor", sum := "ee436dcced7ecc87aba4fc6023adaf0e29af99bfcdf27dd7df679083d94016a8", func := "loop.example/g01075/laws.FnExactIsCompletedTrace", spec := "fnExactIsCompletedTrace", inPlace := ["internal/bytealg.IndexByteString", "internal/bytealg.IndexString", "internal/bytealg.CountString", "internal/abi.NoEscape", "internal/bytealg.MakeNoZero"], unfollowed := true, recurses := true, named := ["internal/bytealg.MaxLen", "unicode/utf8.first", "unicode/utf8.acceptRanges", "strconv.ErrSyntax", "strconv.ErrRange", "internal/strconv.uint64pow10", "math/bits.deBruijn32tab", "math/bits.deBruijn64tab"], apart := false, laid := [("math/bits.deBruijn32tab", laid_math_bits_deBruijn32tab), ("math/bits.deBruijn64tab", laid_math_bits_deBruijn64tab), ("internal/strconv.uint64pow10", laid_internal_strconv_uint64pow10), ("unicode/utf8.acceptRanges", laid_unicode_utf8_acceptRanges), ("strconv.ErrRange", laid_strconv_ErrRange), ("strconv.ErrSyntax", laid_strconv_ErrSyntax), ("unicode/utf8.first", laid_unicode_utf8_first)], narrowed := true }
def FnExactIsCompletedTraceUptoSaid : Prop := fnExactIsCompletedTraceUptoRow.holds Tryz.pinned (OpenSpec.upto fnExactIsCompletedTraceSpec)

end Rows
end Go.Proofs.YtkgkfbmcnchdbaaGreatDoor
