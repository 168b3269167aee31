/-
  Facts of the seat's program that all its rows ask for.
-/
import Derived.Test.YtnkpniekdipgaaaGreatDoorGxV
import Derived.Test.YtnkpniekdipgaaaGreatDoorTie
import Derived.Test.YtnkpniekdipgaaaGreatDoorCards
import Derived.Lay
namespace Go.Proofs.YtnkpniekdipgaaaGreatDoor
open Go.Gx Go.RowKit
namespace JS
theorem own : ownKnob Tryz.prog.godebug = none := by kernel_rfl
theorem laidOut : laidOutB Tryz.prog = true := by kernel_rfl
theorem c_head : Tryz.prog.initOrder.toList.take 77 = ("harness 4f0eb9f5703239d273387f44dd2c10154d9eeb405473d81a5f1e32493291d8e6 cut " : String).toList := by kernel_rfl
theorem c_words : ∃ T, wordsSigns Tryz.prog.initOrder.toList = "harness".toList :: ("4f0eb9f5703239d273387f44dd2c10154d9eeb405473d81a5f1e32493291d8e6" : String).toList :: "cut".toList :: T := head_words "4f0eb9f5703239d273387f44dd2c10154d9eeb405473d81a5f1e32493291d8e6" c_head (by kernel_rfl) (by kernel_rfl)
theorem c_sum : isSumSigns ("4f0eb9f5703239d273387f44dd2c10154d9eeb405473d81a5f1e32493291d8e6" : String).toList = true := by kernel_rfl
theorem c_later : Tryz.prog.laysLater = false := by kernel_rfl
theorem c_refl : Tryz.prog.bearsReflect = false := by kernel_rfl
theorem c_door : Tryz.prog.doorFits [] = true := by kernel_rfl
theorem c_enter : Tryz.prog.mayEnter = true := by obtain ⟨T, h⟩ := c_words; exact may_enter h c_sum c_later c_refl c_door
theorem c_lift : Tryz.prog.liftsFinal = false := by obtain ⟨T, h⟩ := c_words; exact lifts_final h c_sum
theorem c_make : Tryz.prog.make = some .cut := by obtain ⟨T, h⟩ := c_words; exact make_cut h c_sum
theorem c_main : Tryz.pinned.checked.prog.mainIs = some (true, ("4f0eb9f5703239d273387f44dd2c10154d9eeb405473d81a5f1e32493291d8e6" : String).toList) := by obtain ⟨T, h⟩ := c_words; exact main_is h c_sum
theorem c_looks : true = Tryz.pinned.checked.prog.looks [] := by kernel_rfl
theorem c_rowed : mapsRowed Tryz.prog = true := by kernel_rfl
end JS
end Go.Proofs.YtnkpniekdipgaaaGreatDoor
