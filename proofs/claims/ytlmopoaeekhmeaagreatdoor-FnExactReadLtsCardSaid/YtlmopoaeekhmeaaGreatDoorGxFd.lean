/-
  What the library knows of strings.FieldsFunc's pieces.
-/
import Derived.Test.YtlmopoaeekhmeaaGreatDoorGxT
import Derived.Laws.RangeString
import Derived.Lib.FieldsP
namespace Go.Gx
open Go.RowKit
theorem decode_at (s : ByteArray) (pos : Nat) (h : pos < s.size) (ha : (s[pos]'h).toNat < 128) : Utf8.decode s pos = ((s[pos]'h).toNat, 1) := decode_ascii s pos h ha
end Go.Gx
