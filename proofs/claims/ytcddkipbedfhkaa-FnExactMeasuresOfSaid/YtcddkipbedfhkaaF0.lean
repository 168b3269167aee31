/- Facts on the tables of the loaded program (printed by a program of this repo). -/
import Derived.Test.YtcddkipbedfhkaaRows
import Derived.Test.YtcddkipbedfhkaaGxO
import Derived.KernelRfl
namespace Go.Proofs.Ytcddkipbedfhkaa
open Go.RowKit Go.Gx
theorem mixed : Try.prog.follows .mixedOrders = true := by kernel_rfl
set_option maxRecDepth 100000 in
theorem Try.ti0 : Try.prog.info? 0 = some Try.t0 := Try.type0
set_option maxRecDepth 100000 in
theorem Try.ti1 : Try.prog.info? 1 = some Try.t1 := Try.type1
set_option maxRecDepth 100000 in
theorem Try.ti2 : Try.prog.info? 2 = some Try.t2 := Try.type2
set_option maxRecDepth 100000 in
theorem Try.ti3 : Try.prog.info? 3 = some Try.t3 := Try.type3
set_option maxRecDepth 100000 in
theorem Try.ti4 : Try.prog.info? 4 = some Try.t4 := Try.type4
set_option maxRecDepth 100000 in
theorem Try.ti5 : Try.prog.info? 5 = some Try.t5 := Try.type5
set_option maxRecDepth 100000 in
theorem Try.ti6 : Try.prog.info? 6 = some Try.t6 := Try.type6
set_option maxRecDepth 100000 in
theorem Try.ti7 : Try.prog.info? 7 = some Try.t7 := Try.type7
set_option maxRecDepth 100000 in
theorem Try.ti8 : Try.prog.info? 8 = some Try.t8 := Try.type8
set_option maxRecDepth 100000 in
theorem Try.ti9 : Try.prog.info? 9 = some Try.t9 := Try.type9
set_option maxRecDepth 100000 in
theorem Try.ti10 : Try.prog.info? 10 = some Try.t10 := Try.type10
set_option maxRecDepth 100000 in
theorem Try.ti11 : Try.prog.info? 11 = some Try.t11 := Try.type11
set_option maxRecDepth 100000 in
theorem Try.ti12 : Try.prog.info? 12 = some Try.t12 := Try.type12
set_option maxRecDepth 100000 in
theorem Try.ti13 : Try.prog.info? 13 = some Try.t13 := Try.type13
set_option maxRecDepth 100000 in
theorem Try.ti14 : Try.prog.info? 14 = some Try.t14 := Try.type14
set_option maxRecDepth 100000 in
theorem Try.ti15 : Try.prog.info? 15 = some Try.t15 := Try.type15
set_option maxRecDepth 100000 in
theorem Try.ti16 : Try.prog.info? 16 = some Try.t16 := Try.type16
set_option maxRecDepth 100000 in
theorem Try.ti17 : Try.prog.info? 17 = some Try.t17 := Try.type17
set_option maxRecDepth 100000 in
theorem Try.ti18 : Try.prog.info? 18 = some Try.t18 := Try.type18
set_option maxRecDepth 100000 in
theorem Try.ti19 : Try.prog.info? 19 = some Try.t19 := Try.type19
set_option maxRecDepth 100000 in
theorem Try.ti20 : Try.prog.info? 20 = some Try.t20 := Try.type20
set_option maxRecDepth 100000 in
theorem Try.ti21 : Try.prog.info? 21 = some Try.t21 := Try.type21
set_option maxRecDepth 100000 in
theorem Try.ti22 : Try.prog.info? 22 = some Try.t22 := Try.type22
set_option maxRecDepth 100000 in
theorem Try.ti23 : Try.prog.info? 23 = some Try.t23 := Try.type23
set_option maxRecDepth 100000 in
theorem Try.ti24 : Try.prog.info? 24 = some Try.t24 := Try.type24
set_option maxRecDepth 100000 in
theorem Try.ti25 : Try.prog.info? 25 = some Try.t25 := Try.type25
set_option maxRecDepth 100000 in
theorem Try.ti26 : Try.prog.info? 26 = some Try.t26 := Try.type26
set_option maxRecDepth 100000 in
theorem Try.ti27 : Try.prog.info? 27 = some Try.t27 := Try.type27
set_option maxRecDepth 100000 in
theorem Try.ti28 : Try.prog.info? 28 = some Try.t28 := Try.type28
set_option maxRecDepth 100000 in
theorem Try.ti29 : Try.prog.info? 29 = some Try.t29 := Try.type29
set_option maxRecDepth 100000 in
theorem Try.ti30 : Try.prog.info? 30 = some Try.t30 := Try.type30
set_option maxRecDepth 100000 in
theorem Try.ti31 : Try.prog.info? 31 = some Try.t31 := Try.type31
set_option maxRecDepth 100000 in
theorem Try.ti32 : Try.prog.info? 32 = some Try.t32 := Try.type32
set_option maxRecDepth 100000 in
theorem Try.ti33 : Try.prog.info? 33 = some Try.t33 := Try.type33
set_option maxRecDepth 100000 in
theorem Try.ti34 : Try.prog.info? 34 = some Try.t34 := Try.type34
set_option maxRecDepth 100000 in
theorem Try.ti35 : Try.prog.info? 35 = some Try.t35 := Try.type35
set_option maxRecDepth 100000 in
theorem Try.ti36 : Try.prog.info? 36 = some Try.t36 := Try.type36
set_option maxRecDepth 100000 in
theorem Try.ti37 : Try.prog.info? 37 = some Try.t37 := Try.type37
set_option maxRecDepth 100000 in
theorem Try.ti38 : Try.prog.info? 38 = some Try.t38 := Try.type38
set_option maxRecDepth 100000 in
theorem Try.ti39 : Try.prog.info? 39 = some Try.t39 := Try.type39
set_option maxRecDepth 100000 in
theorem Try.ti40 : Try.prog.info? 40 = some Try.t40 := Try.type40
set_option maxRecDepth 100000 in
theorem Try.ti41 : Try.prog.info? 41 = some Try.t41 := Try.type41
set_option maxRecDepth 100000 in
theorem Try.ti42 : Try.prog.info? 42 = some Try.t42 := Try.type42
set_option maxRecDepth 100000 in
theorem Try.ti43 : Try.prog.info? 43 = some Try.t43 := Try.type43
set_option maxRecDepth 100000 in
theorem Try.ti44 : Try.prog.info? 44 = some Try.t44 := Try.type44
set_option maxRecDepth 100000 in
theorem Try.ti45 : Try.prog.info? 45 = some Try.t45 := Try.type45
set_option maxRecDepth 100000 in
theorem Try.ti46 : Try.prog.info? 46 = some Try.t46 := Try.type46
set_option maxRecDepth 100000 in
theorem Try.ti47 : Try.prog.info? 47 = some Try.t47 := Try.type47
set_option maxRecDepth 100000 in
theorem Try.ti48 : Try.prog.info? 48 = some Try.t48 := Try.type48
set_option maxRecDepth 100000 in
theorem Try.ti49 : Try.prog.info? 49 = some Try.t49 := Try.type49
set_option maxRecDepth 100000 in
theorem Try.ti50 : Try.prog.info? 50 = some Try.t50 := Try.type50
set_option maxRecDepth 100000 in
theorem Try.ti51 : Try.prog.info? 51 = some Try.t51 := Try.type51
set_option maxRecDepth 100000 in
theorem Try.ti52 : Try.prog.info? 52 = some Try.t52 := Try.type52
set_option maxRecDepth 100000 in
theorem Try.ti53 : Try.prog.info? 53 = some Try.t53 := Try.type53
set_option maxRecDepth 100000 in
theorem Try.ti54 : Try.prog.info? 54 = some Try.t54 := Try.type54
set_option maxRecDepth 100000 in
theorem Try.ti55 : Try.prog.info? 55 = some Try.t55 := Try.type55
set_option maxRecDepth 100000 in
theorem Try.ti56 : Try.prog.info? 56 = some Try.t56 := Try.type56
set_option maxRecDepth 100000 in
theorem Try.ti57 : Try.prog.info? 57 = some Try.t57 := Try.type57
set_option maxRecDepth 100000 in
theorem Try.ti58 : Try.prog.info? 58 = some Try.t58 := Try.type58
set_option maxRecDepth 100000 in
theorem Try.ti59 : Try.prog.info? 59 = some Try.t59 := Try.type59
set_option maxRecDepth 100000 in
theorem Try.ti60 : Try.prog.info? 60 = some Try.t60 := Try.type60
set_option maxRecDepth 100000 in
theorem Try.ti61 : Try.prog.info? 61 = some Try.t61 := Try.type61
set_option maxRecDepth 100000 in
theorem Try.ti62 : Try.prog.info? 62 = some Try.t62 := Try.type62
set_option maxRecDepth 100000 in
theorem Try.ti63 : Try.prog.info? 63 = some Try.t63 := Try.type63
set_option maxRecDepth 100000 in
theorem Try.ti64 : Try.prog.info? 64 = some Try.t64 := Try.type64
set_option maxRecDepth 100000 in
theorem Try.ti65 : Try.prog.info? 65 = some Try.t65 := Try.type65
set_option maxRecDepth 100000 in
theorem Try.ti66 : Try.prog.info? 66 = some Try.t66 := Try.type66
set_option maxRecDepth 100000 in
theorem Try.ti67 : Try.prog.info? 67 = some Try.t67 := Try.type67
set_option maxRecDepth 100000 in
theorem Try.ti68 : Try.prog.info? 68 = some Try.t68 := Try.type68
set_option maxRecDepth 100000 in
theorem Try.ti69 : Try.prog.info? 69 = some Try.t69 := Try.type69
set_option maxRecDepth 100000 in
theorem Try.ti70 : Try.prog.info? 70 = some Try.t70 := Try.type70
set_option maxRecDepth 100000 in
theorem Try.ti71 : Try.prog.info? 71 = some Try.t71 := Try.type71
set_option maxRecDepth 100000 in
theorem Try.ti72 : Try.prog.info? 72 = some Try.t72 := Try.type72
set_option maxRecDepth 100000 in
theorem Try.ti73 : Try.prog.info? 73 = some Try.t73 := Try.type73
set_option maxRecDepth 100000 in
theorem Try.ti74 : Try.prog.info? 74 = some Try.t74 := Try.type74
set_option maxRecDepth 100000 in
theorem Try.ti75 : Try.prog.info? 75 = some Try.t75 := Try.type75
set_option maxRecDepth 100000 in
theorem Try.ti76 : Try.prog.info? 76 = some Try.t76 := Try.type76
set_option maxRecDepth 100000 in
theorem Try.ti77 : Try.prog.info? 77 = some Try.t77 := Try.type77
set_option maxRecDepth 100000 in
theorem Try.ti78 : Try.prog.info? 78 = some Try.t78 := Try.type78
set_option maxRecDepth 100000 in
theorem Try.ti79 : Try.prog.info? 79 = some Try.t79 := Try.type79
set_option maxRecDepth 100000 in
theorem Try.ti80 : Try.prog.info? 80 = some Try.t80 := Try.type80
set_option maxRecDepth 100000 in
theorem Try.ti81 : Try.prog.info? 81 = some Try.t81 := Try.type81
set_option maxRecDepth 100000 in
theorem Try.ti82 : Try.prog.info? 82 = some Try.t82 := Try.type82
set_option maxRecDepth 100000 in
theorem Try.ti83 : Try.prog.info? 83 = some Try.t83 := Try.type83
set_option maxRecDepth 100000 in
theorem Try.ti84 : Try.prog.info? 84 = some Try.t84 := Try.type84
set_option maxRecDepth 100000 in
theorem Try.ti85 : Try.prog.info? 85 = some Try.t85 := Try.type85
set_option maxRecDepth 100000 in
theorem Try.ti86 : Try.prog.info? 86 = some Try.t86 := Try.type86
set_option maxRecDepth 100000 in
theorem Try.ti87 : Try.prog.info? 87 = some Try.t87 := Try.type87
set_option maxRecDepth 100000 in
theorem Try.ti88 : Try.prog.info? 88 = some Try.t88 := Try.type88
set_option maxRecDepth 100000 in
theorem Try.ti89 : Try.prog.info? 89 = some Try.t89 := Try.type89
set_option maxRecDepth 100000 in
theorem Try.ti90 : Try.prog.info? 90 = some Try.t90 := Try.type90
set_option maxRecDepth 100000 in
theorem Try.ti91 : Try.prog.info? 91 = some Try.t91 := Try.type91
set_option maxRecDepth 100000 in
theorem Try.ti92 : Try.prog.info? 92 = some Try.t92 := Try.type92
set_option maxRecDepth 100000 in
theorem Try.ti93 : Try.prog.info? 93 = some Try.t93 := Try.type93
set_option maxRecDepth 100000 in
theorem Try.ti94 : Try.prog.info? 94 = some Try.t94 := Try.type94
set_option maxRecDepth 100000 in
theorem Try.ti95 : Try.prog.info? 95 = some Try.t95 := Try.type95
set_option maxRecDepth 100000 in
theorem Try.ti96 : Try.prog.info? 96 = some Try.t96 := Try.type96
set_option maxRecDepth 100000 in
theorem Try.ti97 : Try.prog.info? 97 = some Try.t97 := Try.type97
set_option maxRecDepth 100000 in
theorem Try.ti98 : Try.prog.info? 98 = some Try.t98 := Try.type98
set_option maxRecDepth 100000 in
theorem Try.ti99 : Try.prog.info? 99 = some Try.t99 := Try.type99
set_option maxRecDepth 100000 in
theorem Try.ti100 : Try.prog.info? 100 = some Try.t100 := Try.type100
set_option maxRecDepth 100000 in
theorem Try.ti101 : Try.prog.info? 101 = some Try.t101 := Try.type101
set_option maxRecDepth 100000 in
theorem Try.ti102 : Try.prog.info? 102 = some Try.t102 := Try.type102
set_option maxRecDepth 100000 in
theorem Try.ti103 : Try.prog.info? 103 = some Try.t103 := Try.type103
set_option maxRecDepth 100000 in
theorem Try.ti104 : Try.prog.info? 104 = some Try.t104 := Try.type104
set_option maxRecDepth 100000 in
theorem Try.ti105 : Try.prog.info? 105 = some Try.t105 := Try.type105
set_option maxRecDepth 100000 in
theorem Try.ti106 : Try.prog.info? 106 = some Try.t106 := Try.type106
set_option maxRecDepth 100000 in
theorem Try.ti107 : Try.prog.info? 107 = some Try.t107 := Try.type107
set_option maxRecDepth 100000 in
theorem Try.ti108 : Try.prog.info? 108 = some Try.t108 := Try.type108
set_option maxRecDepth 100000 in
theorem Try.ti109 : Try.prog.info? 109 = some Try.t109 := Try.type109
set_option maxRecDepth 100000 in
theorem Try.ti110 : Try.prog.info? 110 = some Try.t110 := Try.type110
set_option maxRecDepth 100000 in
theorem Try.ti111 : Try.prog.info? 111 = some Try.t111 := Try.type111
set_option maxRecDepth 100000 in
theorem Try.ti112 : Try.prog.info? 112 = some Try.t112 := Try.type112
set_option maxRecDepth 100000 in
theorem Try.ti113 : Try.prog.info? 113 = some Try.t113 := Try.type113
set_option maxRecDepth 100000 in
theorem Try.ti114 : Try.prog.info? 114 = some Try.t114 := Try.type114
set_option maxRecDepth 100000 in
theorem Try.ti115 : Try.prog.info? 115 = some Try.t115 := Try.type115
set_option maxRecDepth 100000 in
theorem Try.ti116 : Try.prog.info? 116 = some Try.t116 := Try.type116
set_option maxRecDepth 100000 in
theorem Try.ti117 : Try.prog.info? 117 = some Try.t117 := Try.type117
set_option maxRecDepth 100000 in
theorem Try.ti118 : Try.prog.info? 118 = some Try.t118 := Try.type118
set_option maxRecDepth 100000 in
theorem Try.ti119 : Try.prog.info? 119 = some Try.t119 := Try.type119
set_option maxRecDepth 100000 in
theorem Try.ti120 : Try.prog.info? 120 = some Try.t120 := Try.type120
set_option maxRecDepth 100000 in
theorem Try.ti121 : Try.prog.info? 121 = some Try.t121 := Try.type121
set_option maxRecDepth 100000 in
theorem Try.ti122 : Try.prog.info? 122 = some Try.t122 := Try.type122
set_option maxRecDepth 100000 in
theorem Try.ti123 : Try.prog.info? 123 = some Try.t123 := Try.type123
set_option maxRecDepth 100000 in
theorem Try.ti124 : Try.prog.info? 124 = some Try.t124 := Try.type124
set_option maxRecDepth 100000 in
theorem Try.ti125 : Try.prog.info? 125 = some Try.t125 := Try.type125
set_option maxRecDepth 100000 in
theorem Try.ti126 : Try.prog.info? 126 = some Try.t126 := Try.type126
set_option maxRecDepth 100000 in
theorem Try.ti127 : Try.prog.info? 127 = some Try.t127 := Try.type127
set_option maxRecDepth 100000 in
theorem Try.ti128 : Try.prog.info? 128 = some Try.t128 := Try.type128
set_option maxRecDepth 100000 in
theorem Try.ti129 : Try.prog.info? 129 = some Try.t129 := Try.type129
set_option maxRecDepth 100000 in
theorem Try.ti130 : Try.prog.info? 130 = some Try.t130 := Try.type130
set_option maxRecDepth 100000 in
theorem Try.ti131 : Try.prog.info? 131 = some Try.t131 := Try.type131
set_option maxRecDepth 100000 in
theorem Try.ti132 : Try.prog.info? 132 = some Try.t132 := Try.type132
set_option maxRecDepth 100000 in
theorem Try.ti133 : Try.prog.info? 133 = some Try.t133 := Try.type133
set_option maxRecDepth 100000 in
theorem Try.ti134 : Try.prog.info? 134 = some Try.t134 := Try.type134
set_option maxRecDepth 100000 in
theorem Try.ti135 : Try.prog.info? 135 = some Try.t135 := Try.type135
set_option maxRecDepth 100000 in
theorem Try.ti136 : Try.prog.info? 136 = some Try.t136 := Try.type136
set_option maxRecDepth 100000 in
theorem Try.ti137 : Try.prog.info? 137 = some Try.t137 := Try.type137
set_option maxRecDepth 100000 in
theorem Try.ti138 : Try.prog.info? 138 = some Try.t138 := Try.type138
set_option maxRecDepth 100000 in
theorem Try.ti139 : Try.prog.info? 139 = some Try.t139 := Try.type139
set_option maxRecDepth 100000 in
theorem Try.ti140 : Try.prog.info? 140 = some Try.t140 := Try.type140
set_option maxRecDepth 100000 in
theorem Try.ti141 : Try.prog.info? 141 = some Try.t141 := Try.type141
set_option maxRecDepth 100000 in
theorem Try.ti142 : Try.prog.info? 142 = some Try.t142 := Try.type142
set_option maxRecDepth 100000 in
theorem Try.ti143 : Try.prog.info? 143 = some Try.t143 := Try.type143
set_option maxRecDepth 100000 in
theorem Try.ti144 : Try.prog.info? 144 = some Try.t144 := Try.type144
set_option maxRecDepth 100000 in
theorem Try.ti145 : Try.prog.info? 145 = some Try.t145 := Try.type145
set_option maxRecDepth 100000 in
theorem Try.ti146 : Try.prog.info? 146 = some Try.t146 := Try.type146
set_option maxRecDepth 100000 in
theorem Try.ti147 : Try.prog.info? 147 = some Try.t147 := Try.type147
set_option maxRecDepth 100000 in
theorem Try.ti148 : Try.prog.info? 148 = some Try.t148 := Try.type148
set_option maxRecDepth 100000 in
theorem Try.ti149 : Try.prog.info? 149 = some Try.t149 := Try.type149
set_option maxRecDepth 100000 in
theorem Try.ti150 : Try.prog.info? 150 = some Try.t150 := Try.type150
set_option maxRecDepth 100000 in
theorem Try.ti151 : Try.prog.info? 151 = some Try.t151 := Try.type151
set_option maxRecDepth 100000 in
theorem Try.ti152 : Try.prog.info? 152 = some Try.t152 := Try.type152
/-- laws.Vertex -/
abbrev Tlaws_Vertex := Int × Int × (List Int)
abbrev Rlaws_Vertex : Rep Tlaws_Vertex := (rProd (rInt .i64) (rProd (rInt .i64) (rList (rInt .i64))))
/-- impl.Vertex -/
abbrev Timpl_Vertex := Int × Int × (List Int)
abbrev Rimpl_Vertex : Rep Timpl_Vertex := (rProd (rInt .i64) (rProd (rInt .i64) (rList (rInt .i64))))
/-- impl.Equation -/
abbrev Timpl_Equation := Bool × Bool × (List Int)
abbrev Rimpl_Equation : Rep Timpl_Equation := (rProd rBool (rProd rBool (rList (rInt .i64))))
/-- [5]int64 -/
abbrev T85 := Int × Int × Int × Int × Int
abbrev R85 : Rep T85 := (rProd (rInt .i64) (rProd (rInt .i64) (rProd (rInt .i64) (rProd (rInt .i64) (rInt .i64)))))
/-- impl.measured -/
abbrev Timpl_measured := (List Timpl_Vertex) × Int × T85
abbrev Rimpl_measured : Rep Timpl_measured := (rProd (rList Rimpl_Vertex) (rProd (rInt .i64) R85))
end Go.Proofs.Ytcddkipbedfhkaa
