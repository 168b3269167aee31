/-
  The contracts of the shelf, laid at this program.
-/
import Derived.Shelf.Lay
import Derived.Shelf.LaySoft
import Derived.Shelf.SlGeneric
import Derived.Test.YtghhodobmlgpfaaChecked
namespace Go.Proofs
open Go.Shelf
shelf_tried
end Go.Proofs
