/- Trees of nodes. -/
import Derived.Test.YtnkpniekdipgaaaGreatDoorF0
import Derived.Test.YtnkpniekdipgaaaGreatDoorGxTg
namespace Go.Proofs.YtnkpniekdipgaaaGreatDoor
open Go.RowKit Go.Gx
abbrev Ft (n : Nat) : Type := FtN Timpl_Node n
abbrev rFt (n : Nat) : Rep (Ft n) := rFtN 93 Rimpl_Node n
end Go.Proofs.YtnkpniekdipgaaaGreatDoor
