/-
  The contracts of the shelf: this program asks for none.
-/
import Derived.Test.YtcaedcalbjkkgaaChecked
namespace Go.Proofs
end Go.Proofs
