/-
  Trees of at most a depth.
-/
import Derived.Test.YtldmecdkdoipdaaGreatDoorGxM
namespace Go.Gx
/-- Trees of at most a depth: a node and the trees under it. -/
def FtN (α : Type) : Nat → Type
  | 0 => Empty
  | n + 1 => α × List (FtN α n)
end Go.Gx
