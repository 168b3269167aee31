/- Facts on the tables of the loaded program (printed by a program of this repo). -/
import Derived.Test.YtcaedcalbjkkgaaRows
import Derived.Test.YtcaedcalbjkkgaaGxO
import Derived.KernelRfl
namespace Go.Proofs.Ytcaedcalbjkkgaa
open Go.RowKit Go.Gx
theorem mixed : Try.prog.follows .mixedOrders = true := by kernel_rfl
set_option maxRecDepth 100000 in
theorem Try.ti0 : Try.prog.info? 0 = some Try.t0 := Try.type0
set_option maxRecDepth 100000 in
theorem Try.ti1 : Try.prog.info? 1 = some Try.t1 := Try.type1
set_option maxRecDepth 100000 in
theorem Try.ti2 : Try.prog.info? 2 = some Try.t2 := Try.type2
set_option maxRecDepth 100000 in
theorem Try.ti3 : Try.prog.info? 3 = some Try.t3 := Try.type3
set_option maxRecDepth 100000 in
theorem Try.ti4 : Try.prog.info? 4 = some Try.t4 := Try.type4
set_option maxRecDepth 100000 in
theorem Try.ti5 : Try.prog.info? 5 = some Try.t5 := Try.type5
set_option maxRecDepth 100000 in
theorem Try.ti6 : Try.prog.info? 6 = some Try.t6 := Try.type6
set_option maxRecDepth 100000 in
theorem Try.ti7 : Try.prog.info? 7 = some Try.t7 := Try.type7
set_option maxRecDepth 100000 in
theorem Try.ti8 : Try.prog.info? 8 = some Try.t8 := Try.type8
set_option maxRecDepth 100000 in
theorem Try.ti9 : Try.prog.info? 9 = some Try.t9 := Try.type9
set_option maxRecDepth 100000 in
theorem Try.ti10 : Try.prog.info? 10 = some Try.t10 := Try.type10
set_option maxRecDepth 100000 in
theorem Try.ti11 : Try.prog.info? 11 = some Try.t11 := Try.type11
set_option maxRecDepth 100000 in
theorem Try.ti12 : Try.prog.info? 12 = some Try.t12 := Try.type12
set_option maxRecDepth 100000 in
theorem Try.ti13 : Try.prog.info? 13 = some Try.t13 := Try.type13
set_option maxRecDepth 100000 in
theorem Try.ti14 : Try.prog.info? 14 = some Try.t14 := Try.type14
set_option maxRecDepth 100000 in
theorem Try.ti15 : Try.prog.info? 15 = some Try.t15 := Try.type15
set_option maxRecDepth 100000 in
theorem Try.ti16 : Try.prog.info? 16 = some Try.t16 := Try.type16
set_option maxRecDepth 100000 in
theorem Try.ti17 : Try.prog.info? 17 = some Try.t17 := Try.type17
set_option maxRecDepth 100000 in
theorem Try.ti18 : Try.prog.info? 18 = some Try.t18 := Try.type18
set_option maxRecDepth 100000 in
theorem Try.ti19 : Try.prog.info? 19 = some Try.t19 := Try.type19
set_option maxRecDepth 100000 in
theorem Try.ti20 : Try.prog.info? 20 = some Try.t20 := Try.type20
set_option maxRecDepth 100000 in
theorem Try.ti21 : Try.prog.info? 21 = some Try.t21 := Try.type21
set_option maxRecDepth 100000 in
theorem Try.ti22 : Try.prog.info? 22 = some Try.t22 := Try.type22
set_option maxRecDepth 100000 in
theorem Try.ti23 : Try.prog.info? 23 = some Try.t23 := Try.type23
set_option maxRecDepth 100000 in
theorem Try.ti24 : Try.prog.info? 24 = some Try.t24 := Try.type24
set_option maxRecDepth 100000 in
theorem Try.ti25 : Try.prog.info? 25 = some Try.t25 := Try.type25
set_option maxRecDepth 100000 in
theorem Try.ti26 : Try.prog.info? 26 = some Try.t26 := Try.type26
set_option maxRecDepth 100000 in
theorem Try.ti27 : Try.prog.info? 27 = some Try.t27 := Try.type27
set_option maxRecDepth 100000 in
theorem Try.ti28 : Try.prog.info? 28 = some Try.t28 := Try.type28
set_option maxRecDepth 100000 in
theorem Try.ti29 : Try.prog.info? 29 = some Try.t29 := Try.type29
set_option maxRecDepth 100000 in
theorem Try.ti30 : Try.prog.info? 30 = some Try.t30 := Try.type30
set_option maxRecDepth 100000 in
theorem Try.ti31 : Try.prog.info? 31 = some Try.t31 := Try.type31
set_option maxRecDepth 100000 in
theorem Try.ti32 : Try.prog.info? 32 = some Try.t32 := Try.type32
set_option maxRecDepth 100000 in
theorem Try.ti33 : Try.prog.info? 33 = some Try.t33 := Try.type33
set_option maxRecDepth 100000 in
theorem Try.ti34 : Try.prog.info? 34 = some Try.t34 := Try.type34
set_option maxRecDepth 100000 in
theorem Try.ti35 : Try.prog.info? 35 = some Try.t35 := Try.type35
set_option maxRecDepth 100000 in
theorem Try.ti36 : Try.prog.info? 36 = some Try.t36 := Try.type36
set_option maxRecDepth 100000 in
theorem Try.ti37 : Try.prog.info? 37 = some Try.t37 := Try.type37
set_option maxRecDepth 100000 in
theorem Try.ti38 : Try.prog.info? 38 = some Try.t38 := Try.type38
set_option maxRecDepth 100000 in
theorem Try.ti39 : Try.prog.info? 39 = some Try.t39 := Try.type39
set_option maxRecDepth 100000 in
theorem Try.ti40 : Try.prog.info? 40 = some Try.t40 := Try.type40
set_option maxRecDepth 100000 in
theorem Try.ti41 : Try.prog.info? 41 = some Try.t41 := Try.type41
set_option maxRecDepth 100000 in
theorem Try.ti42 : Try.prog.info? 42 = some Try.t42 := Try.type42
set_option maxRecDepth 100000 in
theorem Try.ti43 : Try.prog.info? 43 = some Try.t43 := Try.type43
set_option maxRecDepth 100000 in
theorem Try.ti44 : Try.prog.info? 44 = some Try.t44 := Try.type44
set_option maxRecDepth 100000 in
theorem Try.ti45 : Try.prog.info? 45 = some Try.t45 := Try.type45
set_option maxRecDepth 100000 in
theorem Try.ti46 : Try.prog.info? 46 = some Try.t46 := Try.type46
set_option maxRecDepth 100000 in
theorem Try.ti47 : Try.prog.info? 47 = some Try.t47 := Try.type47
set_option maxRecDepth 100000 in
theorem Try.ti48 : Try.prog.info? 48 = some Try.t48 := Try.type48
set_option maxRecDepth 100000 in
theorem Try.ti49 : Try.prog.info? 49 = some Try.t49 := Try.type49
set_option maxRecDepth 100000 in
theorem Try.ti50 : Try.prog.info? 50 = some Try.t50 := Try.type50
set_option maxRecDepth 100000 in
theorem Try.ti51 : Try.prog.info? 51 = some Try.t51 := Try.type51
set_option maxRecDepth 100000 in
theorem Try.ti52 : Try.prog.info? 52 = some Try.t52 := Try.type52
set_option maxRecDepth 100000 in
theorem Try.ti53 : Try.prog.info? 53 = some Try.t53 := Try.type53
set_option maxRecDepth 100000 in
theorem Try.ti54 : Try.prog.info? 54 = some Try.t54 := Try.type54
set_option maxRecDepth 100000 in
theorem Try.ti55 : Try.prog.info? 55 = some Try.t55 := Try.type55
set_option maxRecDepth 100000 in
theorem Try.ti56 : Try.prog.info? 56 = some Try.t56 := Try.type56
set_option maxRecDepth 100000 in
theorem Try.ti57 : Try.prog.info? 57 = some Try.t57 := Try.type57
set_option maxRecDepth 100000 in
theorem Try.ti58 : Try.prog.info? 58 = some Try.t58 := Try.type58
set_option maxRecDepth 100000 in
theorem Try.ti59 : Try.prog.info? 59 = some Try.t59 := Try.type59
set_option maxRecDepth 100000 in
theorem Try.ti60 : Try.prog.info? 60 = some Try.t60 := Try.type60
set_option maxRecDepth 100000 in
theorem Try.ti61 : Try.prog.info? 61 = some Try.t61 := Try.type61
set_option maxRecDepth 100000 in
theorem Try.ti62 : Try.prog.info? 62 = some Try.t62 := Try.type62
set_option maxRecDepth 100000 in
theorem Try.ti63 : Try.prog.info? 63 = some Try.t63 := Try.type63
set_option maxRecDepth 100000 in
theorem Try.ti64 : Try.prog.info? 64 = some Try.t64 := Try.type64
set_option maxRecDepth 100000 in
theorem Try.ti65 : Try.prog.info? 65 = some Try.t65 := Try.type65
set_option maxRecDepth 100000 in
theorem Try.ti66 : Try.prog.info? 66 = some Try.t66 := Try.type66
/-- laws.Vertex -/
abbrev Tlaws_Vertex := Int × Int × (List Int)
abbrev Rlaws_Vertex : Rep Tlaws_Vertex := (rProd (rInt .i64) (rProd (rInt .i64) (rList (rInt .i64))))
/-- impl.Vertex -/
abbrev Timpl_Vertex := Int × Int × (List Int)
abbrev Rimpl_Vertex : Rep Timpl_Vertex := (rProd (rInt .i64) (rProd (rInt .i64) (rList (rInt .i64))))
end Go.Proofs.Ytcaedcalbjkkgaa
