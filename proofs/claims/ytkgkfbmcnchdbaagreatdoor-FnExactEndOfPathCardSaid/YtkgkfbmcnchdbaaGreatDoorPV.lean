/-
  Plain laws of the statements' helpers on games.
-/
import Derived.Test.YtkgkfbmcnchdbaaGreatDoorF0
import Derived.Test.YtkgkfbmcnchdbaaGreatDoorP5
namespace Go.Proofs.YtkgkfbmcnchdbaaGreatDoor
open Go.Gx

end Go.Proofs.YtkgkfbmcnchdbaaGreatDoor
