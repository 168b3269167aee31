/-
  Facts of the seat's program that all its rows ask for.
-/
import Derived.Test.YtepcckhcocjgaaaDoorGxV
import Derived.Test.YtepcckhcocjgaaaDoorTie
import Derived.Test.YtepcckhcocjgaaaDoorCards
import Derived.Lay
namespace Go.Proofs.YtepcckhcocjgaaaDoor
open Go.Gx Go.RowKit
namespace JS
theorem own : ownKnob Tryd.prog.godebug = none := by kernel_rfl
theorem laidOut : laidOutB Tryd.prog = true := by kernel_rfl
theorem c_head : Tryd.prog.initOrder.toList.take 77 = ("harness 8b7ebb5f4431836b2c2a444e4b77c0fa77646bbff191e633e79fd26cb0b3a3dd cut " : String).toList := by kernel_rfl
theorem c_words : ∃ T, wordsSigns Tryd.prog.initOrder.toList = "harness".toList :: ("8b7ebb5f4431836b2c2a444e4b77c0fa77646bbff191e633e79fd26cb0b3a3dd" : String).toList :: "cut".toList :: T := head_words "8b7ebb5f4431836b2c2a444e4b77c0fa77646bbff191e633e79fd26cb0b3a3dd" c_head (by kernel_rfl) (by kernel_rfl)
theorem c_sum : isSumSigns ("8b7ebb5f4431836b2c2a444e4b77c0fa77646bbff191e633e79fd26cb0b3a3dd" : String).toList = true := by kernel_rfl
theorem c_later : Tryd.prog.laysLater = false := by kernel_rfl
theorem c_refl : Tryd.prog.bearsReflect = false := by kernel_rfl
theorem c_door : Tryd.prog.doorFits [] = true := by kernel_rfl
theorem c_enter : Tryd.prog.mayEnter = true := by obtain ⟨T, h⟩ := c_words; exact may_enter h c_sum c_later c_refl c_door
theorem c_lift : Tryd.prog.liftsFinal = false := by obtain ⟨T, h⟩ := c_words; exact lifts_final h c_sum
theorem c_make : Tryd.prog.make = some .cut := by obtain ⟨T, h⟩ := c_words; exact make_cut h c_sum
theorem c_main : Tryd.pinned.checked.prog.mainIs = some (true, ("8b7ebb5f4431836b2c2a444e4b77c0fa77646bbff191e633e79fd26cb0b3a3dd" : String).toList) := by obtain ⟨T, h⟩ := c_words; exact main_is h c_sum
theorem c_looks : true = Tryd.pinned.checked.prog.looks [] := by kernel_rfl
theorem c_rowed : mapsRowed Tryd.prog = true := by kernel_rfl
end JS
end Go.Proofs.YtepcckhcocjgaaaDoor
