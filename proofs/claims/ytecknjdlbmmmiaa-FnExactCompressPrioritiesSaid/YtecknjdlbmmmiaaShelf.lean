/-
  DERIVED: THE SHELF's CONTRACTS AT THIS DUMP, IN PLAIN WORDS (tools/lay-plain.mjs out of 'YtecknjdlbmmmiaaShelf.lean', which tools/lay-shelf.mjs wrote): THE SAME DECLARATIONS UNDER THE SAME NAMES: 'import', 'namespace', 'open', 'def', 'theorem' AND NOTHING ELSE: no command of the shelf's: FOR A HAND-IN. Each laying: the table of numbers ('.._ren') and one theorem, a field a fact of the dump's own or the kernel's comparison; each contract: ONE APPLICATION.
-/
import Derived.Shelf.SlGeneric
import Derived.Shelf.Bits.Mul64
import Derived.Shelf.SortG.Plain
import Derived.Shelf.SortG.SortNone
import Derived.Shelf.SlicesG.CompactI
import Derived.Test.YtecknjdlbmmmiaaChecked
namespace Go.Proofs
open Go.Shelf
def Try.lay123_ren : Go.Shelf.Ren := ⟨fun | 212 => 123 | 263 => 142 | 264 => 143 | n => n, fun | 46 => 123 | 51 => 143 | 146 => 144 | 53 => 146 | 148 => 147 | n => n, fun | n => n⟩
theorem Try.lay123 : Go.Proofs.Lays.n212 Try.prog Try.lay123_ren := {
  mixed := by kernel_rfl
  f212 := Try.func123.trans (congrArg some (by kernel_rfl))
  f263 := Try.func142.trans (congrArg some (by kernel_rfl))
  f264 := Try.func143.trans (congrArg some (by kernel_rfl))
  t46 := Try.underlying123
  a46 := Try.isAgg123
  z46 := Try.sizeOf123
  v46 := Try.zeroValue123
  t51 := Try.underlying143
  a51 := Try.isAgg143
  z51 := Try.sizeOf143
  v51 := Try.zeroValue143
  t53 := Try.underlying146
  a53 := Try.isAgg146
  z53 := Try.sizeOf146
  v53 := Try.zeroValue146
  t146 := Try.underlying144
  a146 := Try.isAgg144
  z146 := Try.sizeOf144
  v146 := Try.zeroValue144
  t148 := Try.underlying147
  a148 := Try.isAgg147
  z148 := Try.sizeOf147
  v148 := Try.zeroValue147 }
def Try.lay133_ren : Go.Shelf.Ren := ⟨fun | 53 => 133 | 64 => 137 | 63 => 148 | 78 => 157 | 79 => 158 | 70 => 159 | 71 => 160 | 72 => 161 | 73 => 162 | 74 => 163 | 75 => 164 | 59 => 165 | 76 => 166 | 77 => 167 | 88 => 173 | 89 => 169 | 90 => 170 | 91 => 174 | 92 => 175 | 68 => 138 | 96 => 177 | n => n, fun | 22 => 23 | 23 => 2 | 3 => 3 | 51 => 123 | 0 => 0 | 67 => 143 | 69 => 146 | 4 => 4 | 61 => 155 | 60 => 154 | 44 => 159 | 5 => 5 | 9 => 9 | 75 => 169 | 79 => 173 | 83 => 177 | 84 => 178 | n => n, fun | n => n⟩
theorem Try.lay133 : Go.Proofs.SlLaysN.n53 Try.prog Try.lay133_ren := {
  mixed := by kernel_rfl
  f53 := ⟨Try.f133.name, by decide, Try.func133.trans (congrArg some (by kernel_rfl))⟩
  f59 := ⟨Try.f165.name, by decide, Try.func165.trans (congrArg some (by kernel_rfl))⟩
  f63 := ⟨Try.f148.name, by decide, Try.func148.trans (congrArg some (by kernel_rfl))⟩
  f64 := Try.func137.trans (congrArg some (by kernel_rfl))
  f68 := ⟨Try.f138.name, by decide, Try.func138.trans (congrArg some (by kernel_rfl))⟩
  f70 := ⟨Try.f159.name, by decide, Try.func159.trans (congrArg some (by kernel_rfl))⟩
  f71 := ⟨Try.f160.name, by decide, Try.func160.trans (congrArg some (by kernel_rfl))⟩
  f72 := ⟨Try.f161.name, by decide, Try.func161.trans (congrArg some (by kernel_rfl))⟩
  f73 := ⟨Try.f162.name, by decide, Try.func162.trans (congrArg some (by kernel_rfl))⟩
  f74 := ⟨Try.f163.name, by decide, Try.func163.trans (congrArg some (by kernel_rfl))⟩
  f75 := ⟨Try.f164.name, by decide, Try.func164.trans (congrArg some (by kernel_rfl))⟩
  f76 := ⟨Try.f166.name, by decide, Try.func166.trans (congrArg some (by kernel_rfl))⟩
  f77 := ⟨Try.f167.name, by decide, Try.func167.trans (congrArg some (by kernel_rfl))⟩
  f78 := Try.func157.trans (congrArg some (by kernel_rfl))
  f79 := Try.func158.trans (congrArg some (by kernel_rfl))
  f88 := ⟨Try.f173.name, by decide, Try.func173.trans (congrArg some (by kernel_rfl))⟩
  f89 := Try.func169.trans (congrArg some (by kernel_rfl))
  f90 := Try.func170.trans (congrArg some (by kernel_rfl))
  f91 := ⟨Try.f174.name, by decide, Try.func174.trans (congrArg some (by kernel_rfl))⟩
  f92 := ⟨Try.f175.name, by decide, Try.func175.trans (congrArg some (by kernel_rfl))⟩
  f96 := ⟨Try.f177.name, by decide, Try.func177.trans (congrArg some (by kernel_rfl))⟩
  t0 := Try.underlying0
  a0 := Try.isAgg0
  z0 := Try.sizeOf0
  v0 := Try.zeroValue0
  t3 := Try.underlying3
  a3 := Try.isAgg3
  z3 := Try.sizeOf3
  v3 := Try.zeroValue3
  t4 := Try.underlying4
  a4 := Try.isAgg4
  z4 := Try.sizeOf4
  v4 := Try.zeroValue4
  t5 := Try.underlying5
  a5 := Try.isAgg5
  z5 := Try.sizeOf5
  v5 := Try.zeroValue5
  t9 := Try.underlying9
  a9 := Try.isAgg9
  z9 := Try.sizeOf9
  v9 := Try.zeroValue9
  t22 := Try.underlying23
  a22 := Try.isAgg23
  z22 := Try.sizeOf23
  v22 := Try.zeroValue23
  t23 := Try.underlying2
  a23 := Try.isAgg2
  z23 := Try.sizeOf2
  v23 := Try.zeroValue2
  t44 := Try.underlying159
  a44 := Try.isAgg159
  z44 := Try.sizeOf159
  v44 := Try.zeroValue159
  t51 := Try.underlying123
  a51 := Try.isAgg123
  z51 := Try.sizeOf123
  v51 := Try.zeroValue123
  t60 := Try.underlying154
  a60 := Try.isAgg154
  z60 := Try.sizeOf154
  v60 := Try.zeroValue154
  t61 := Try.underlying155
  a61 := Try.isAgg155
  z61 := Try.sizeOf155
  v61 := Try.zeroValue155
  t67 := Try.underlying143
  a67 := Try.isAgg143
  z67 := Try.sizeOf143
  v67 := Try.zeroValue143
  t69 := Try.underlying146
  a69 := Try.isAgg146
  z69 := Try.sizeOf146
  v69 := Try.zeroValue146
  t75 := Try.underlying169
  a75 := Try.isAgg169
  z75 := Try.sizeOf169
  v75 := Try.zeroValue169
  t79 := Try.underlying173
  a79 := Try.isAgg173
  z79 := Try.sizeOf173
  v79 := Try.zeroValue173
  t83 := Try.underlying177
  a83 := Try.isAgg177
  z83 := Try.sizeOf177
  v83 := Try.zeroValue177
  t84 := Try.underlying178
  a84 := Try.isAgg178
  z84 := Try.sizeOf178
  v84 := Try.zeroValue178 }
def Try.lay134_ren : Go.Shelf.Ren := ⟨fun | 43 => 134 | n => n, fun | 22 => 23 | 23 => 2 | 3 => 3 | 4 => 4 | 0 => 0 | n => n, fun | n => n⟩
theorem Try.lay134 : Go.Proofs.SlLaysN.n43 Try.prog Try.lay134_ren := {
  mixed := by kernel_rfl
  f43 := ⟨Try.f134.name, by decide, Try.func134.trans (congrArg some (by kernel_rfl))⟩
  t0 := Try.underlying0
  a0 := Try.isAgg0
  z0 := Try.sizeOf0
  v0 := Try.zeroValue0
  t3 := Try.underlying3
  a3 := Try.isAgg3
  z3 := Try.sizeOf3
  v3 := Try.zeroValue3
  t4 := Try.underlying4
  a4 := Try.isAgg4
  z4 := Try.sizeOf4
  v4 := Try.zeroValue4
  t22 := Try.underlying23
  a22 := Try.isAgg23
  z22 := Try.sizeOf23
  v22 := Try.zeroValue23
  t23 := Try.underlying2
  a23 := Try.isAgg2
  z23 := Try.sizeOf2
  v23 := Try.zeroValue2
  i23 := by kernel_rfl }
end Go.Proofs
