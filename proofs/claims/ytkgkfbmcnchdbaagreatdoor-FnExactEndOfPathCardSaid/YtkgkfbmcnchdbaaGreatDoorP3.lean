/-
  Statement 3 in plain words: the models of the law on consistent valuations.
-/
import Derived.Test.YtkgkfbmcnchdbaaGreatDoorF0
import Derived.Test.YtkgkfbmcnchdbaaGreatDoorP1
namespace Go.Proofs.YtkgkfbmcnchdbaaGreatDoor
open Go.Gx

def okv (v : List Bool) (b : Bool) (t : Int) : Bool := match v[t.toNat]? with | some y => y == b | none => true

end Go.Proofs.YtkgkfbmcnchdbaaGreatDoor
