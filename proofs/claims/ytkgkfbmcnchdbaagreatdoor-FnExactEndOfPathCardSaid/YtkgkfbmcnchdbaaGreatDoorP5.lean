/-
  Statement 5 in plain words: the models of the law on dual equation systems.
-/
import Derived.Test.YtkgkfbmcnchdbaaGreatDoorF0
import Derived.Test.YtkgkfbmcnchdbaaGreatDoorF5
import Derived.Test.YtkgkfbmcnchdbaaGreatDoorP2
namespace Go.Proofs.YtkgkfbmcnchdbaaGreatDoor
open Go.Gx

theorem clone_ints {a : List Int} (hl : a.length ≤ 1048576) : Ev (fun m => slices_Clone__int64_int64_m m a) a := Ev.bindc (app_ok (by simp; omega)) (Ev.pure _)

end Go.Proofs.YtkgkfbmcnchdbaaGreatDoor
