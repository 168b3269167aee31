/-
  Statement ValidLts: the core.
-/
import Derived.Test.YtkgkfbmcnchdbaaGreatDoorF0
import Derived.Test.YtkgkfbmcnchdbaaGreatDoorF3
import Derived.Test.YtkgkfbmcnchdbaaGreatDoorLValidLts
import Derived.Test.YtkgkfbmcnchdbaaGreatDoorPLt
import Derived.Test.YtkgkfbmcnchdbaaGreatDoorPY
namespace Go.Proofs.YtkgkfbmcnchdbaaGreatDoor
open Go.Gx
theorem valid_core {a : Tlaws_Lts} (h : BLts a) : ∃ r, Ev (fun n => spec_ValidLts_m n a) r ∧ Ev (fun n => impl_ValidLts_m n a) r :=
  ⟨validP a, Ev.bind (valid_spec h.1 h.2.1 h.2.2) (Ev.pure _), valid_impl h.1 h.2.1 h.2.2⟩
end Go.Proofs.YtkgkfbmcnchdbaaGreatDoor
