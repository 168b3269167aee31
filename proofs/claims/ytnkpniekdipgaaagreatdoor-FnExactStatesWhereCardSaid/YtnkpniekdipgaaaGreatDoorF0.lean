/- Facts on the tables of the loaded program (printed by a program of this repo). -/
import Derived.Test.YtnkpniekdipgaaaGreatDoorRows
import Derived.Test.YtnkpniekdipgaaaGreatDoorGxO
import Derived.KernelRfl
namespace Go.Proofs.YtnkpniekdipgaaaGreatDoor
open Go.RowKit Go.Gx
theorem mixed : Tryz.prog.follows .mixedOrders = true := by kernel_rfl
set_option maxRecDepth 100000 in
theorem Tryz.ti0 : Tryz.prog.info? 0 = some Tryz.t0 := Tryz.type0
set_option maxRecDepth 100000 in
theorem Tryz.ti1 : Tryz.prog.info? 1 = some Tryz.t1 := Tryz.type1
set_option maxRecDepth 100000 in
theorem Tryz.ti2 : Tryz.prog.info? 2 = some Tryz.t2 := Tryz.type2
set_option maxRecDepth 100000 in
theorem Tryz.ti3 : Tryz.prog.info? 3 = some Tryz.t3 := Tryz.type3
set_option maxRecDepth 100000 in
theorem Tryz.ti4 : Tryz.prog.info? 4 = some Tryz.t4 := Tryz.type4
set_option maxRecDepth 100000 in
theorem Tryz.ti5 : Tryz.prog.info? 5 = some Tryz.t5 := Tryz.type5
set_option maxRecDepth 100000 in
theorem Tryz.ti6 : Tryz.prog.info? 6 = some Tryz.t6 := Tryz.type6
set_option maxRecDepth 100000 in
theorem Tryz.ti7 : Tryz.prog.info? 7 = some Tryz.t7 := Tryz.type7
set_option maxRecDepth 100000 in
theorem Tryz.ti8 : Tryz.prog.info? 8 = some Tryz.t8 := Tryz.type8
set_option maxRecDepth 100000 in
theorem Tryz.ti9 : Tryz.prog.info? 9 = some Tryz.t9 := Tryz.type9
set_option maxRecDepth 100000 in
theorem Tryz.ti10 : Tryz.prog.info? 10 = some Tryz.t10 := Tryz.type10
set_option maxRecDepth 100000 in
theorem Tryz.ti11 : Tryz.prog.info? 11 = some Tryz.t11 := Tryz.type11
set_option maxRecDepth 100000 in
theorem Tryz.ti12 : Tryz.prog.info? 12 = some Tryz.t12 := Tryz.type12
set_option maxRecDepth 100000 in
theorem Tryz.ti13 : Tryz.prog.info? 13 = some Tryz.t13 := Tryz.type13
set_option maxRecDepth 100000 in
theorem Tryz.ti14 : Tryz.prog.info? 14 = some Tryz.t14 := Tryz.type14
set_option maxRecDepth 100000 in
theorem Tryz.ti15 : Tryz.prog.info? 15 = some Tryz.t15 := Tryz.type15
set_option maxRecDepth 100000 in
theorem Tryz.ti16 : Tryz.prog.info? 16 = some Tryz.t16 := Tryz.type16
set_option maxRecDepth 100000 in
theorem Tryz.ti17 : Tryz.prog.info? 17 = some Tryz.t17 := Tryz.type17
set_option maxRecDepth 100000 in
theorem Tryz.ti18 : Tryz.prog.info? 18 = some Tryz.t18 := Tryz.type18
set_option maxRecDepth 100000 in
theorem Tryz.ti19 : Tryz.prog.info? 19 = some Tryz.t19 := Tryz.type19
set_option maxRecDepth 100000 in
theorem Tryz.ti20 : Tryz.prog.info? 20 = some Tryz.t20 := Tryz.type20
set_option maxRecDepth 100000 in
theorem Tryz.ti21 : Tryz.prog.info? 21 = some Tryz.t21 := Tryz.type21
set_option maxRecDepth 100000 in
theorem Tryz.ti22 : Tryz.prog.info? 22 = some Tryz.t22 := Tryz.type22
set_option maxRecDepth 100000 in
theorem Tryz.ti23 : Tryz.prog.info? 23 = some Tryz.t23 := Tryz.type23
set_option maxRecDepth 100000 in
theorem Tryz.ti24 : Tryz.prog.info? 24 = some Tryz.t24 := Tryz.type24
set_option maxRecDepth 100000 in
theorem Tryz.ti25 : Tryz.prog.info? 25 = some Tryz.t25 := Tryz.type25
set_option maxRecDepth 100000 in
theorem Tryz.ti26 : Tryz.prog.info? 26 = some Tryz.t26 := Tryz.type26
set_option maxRecDepth 100000 in
theorem Tryz.ti27 : Tryz.prog.info? 27 = some Tryz.t27 := Tryz.type27
set_option maxRecDepth 100000 in
theorem Tryz.ti28 : Tryz.prog.info? 28 = some Tryz.t28 := Tryz.type28
set_option maxRecDepth 100000 in
theorem Tryz.ti29 : Tryz.prog.info? 29 = some Tryz.t29 := Tryz.type29
set_option maxRecDepth 100000 in
theorem Tryz.ti30 : Tryz.prog.info? 30 = some Tryz.t30 := Tryz.type30
set_option maxRecDepth 100000 in
theorem Tryz.ti31 : Tryz.prog.info? 31 = some Tryz.t31 := Tryz.type31
set_option maxRecDepth 100000 in
theorem Tryz.ti32 : Tryz.prog.info? 32 = some Tryz.t32 := Tryz.type32
set_option maxRecDepth 100000 in
theorem Tryz.ti33 : Tryz.prog.info? 33 = some Tryz.t33 := Tryz.type33
set_option maxRecDepth 100000 in
theorem Tryz.ti34 : Tryz.prog.info? 34 = some Tryz.t34 := Tryz.type34
set_option maxRecDepth 100000 in
theorem Tryz.ti35 : Tryz.prog.info? 35 = some Tryz.t35 := Tryz.type35
set_option maxRecDepth 100000 in
theorem Tryz.ti36 : Tryz.prog.info? 36 = some Tryz.t36 := Tryz.type36
set_option maxRecDepth 100000 in
theorem Tryz.ti37 : Tryz.prog.info? 37 = some Tryz.t37 := Tryz.type37
set_option maxRecDepth 100000 in
theorem Tryz.ti38 : Tryz.prog.info? 38 = some Tryz.t38 := Tryz.type38
set_option maxRecDepth 100000 in
theorem Tryz.ti39 : Tryz.prog.info? 39 = some Tryz.t39 := Tryz.type39
set_option maxRecDepth 100000 in
theorem Tryz.ti40 : Tryz.prog.info? 40 = some Tryz.t40 := Tryz.type40
set_option maxRecDepth 100000 in
theorem Tryz.ti41 : Tryz.prog.info? 41 = some Tryz.t41 := Tryz.type41
set_option maxRecDepth 100000 in
theorem Tryz.ti42 : Tryz.prog.info? 42 = some Tryz.t42 := Tryz.type42
set_option maxRecDepth 100000 in
theorem Tryz.ti43 : Tryz.prog.info? 43 = some Tryz.t43 := Tryz.type43
set_option maxRecDepth 100000 in
theorem Tryz.ti44 : Tryz.prog.info? 44 = some Tryz.t44 := Tryz.type44
set_option maxRecDepth 100000 in
theorem Tryz.ti45 : Tryz.prog.info? 45 = some Tryz.t45 := Tryz.type45
set_option maxRecDepth 100000 in
theorem Tryz.ti46 : Tryz.prog.info? 46 = some Tryz.t46 := Tryz.type46
set_option maxRecDepth 100000 in
theorem Tryz.ti47 : Tryz.prog.info? 47 = some Tryz.t47 := Tryz.type47
set_option maxRecDepth 100000 in
theorem Tryz.ti48 : Tryz.prog.info? 48 = some Tryz.t48 := Tryz.type48
set_option maxRecDepth 100000 in
theorem Tryz.ti49 : Tryz.prog.info? 49 = some Tryz.t49 := Tryz.type49
set_option maxRecDepth 100000 in
theorem Tryz.ti50 : Tryz.prog.info? 50 = some Tryz.t50 := Tryz.type50
set_option maxRecDepth 100000 in
theorem Tryz.ti51 : Tryz.prog.info? 51 = some Tryz.t51 := Tryz.type51
set_option maxRecDepth 100000 in
theorem Tryz.ti52 : Tryz.prog.info? 52 = some Tryz.t52 := Tryz.type52
set_option maxRecDepth 100000 in
theorem Tryz.ti53 : Tryz.prog.info? 53 = some Tryz.t53 := Tryz.type53
set_option maxRecDepth 100000 in
theorem Tryz.ti54 : Tryz.prog.info? 54 = some Tryz.t54 := Tryz.type54
set_option maxRecDepth 100000 in
theorem Tryz.ti55 : Tryz.prog.info? 55 = some Tryz.t55 := Tryz.type55
set_option maxRecDepth 100000 in
theorem Tryz.ti56 : Tryz.prog.info? 56 = some Tryz.t56 := Tryz.type56
set_option maxRecDepth 100000 in
theorem Tryz.ti57 : Tryz.prog.info? 57 = some Tryz.t57 := Tryz.type57
set_option maxRecDepth 100000 in
theorem Tryz.ti58 : Tryz.prog.info? 58 = some Tryz.t58 := Tryz.type58
set_option maxRecDepth 100000 in
theorem Tryz.ti59 : Tryz.prog.info? 59 = some Tryz.t59 := Tryz.type59
set_option maxRecDepth 100000 in
theorem Tryz.ti60 : Tryz.prog.info? 60 = some Tryz.t60 := Tryz.type60
set_option maxRecDepth 100000 in
theorem Tryz.ti61 : Tryz.prog.info? 61 = some Tryz.t61 := Tryz.type61
set_option maxRecDepth 100000 in
theorem Tryz.ti62 : Tryz.prog.info? 62 = some Tryz.t62 := Tryz.type62
set_option maxRecDepth 100000 in
theorem Tryz.ti63 : Tryz.prog.info? 63 = some Tryz.t63 := Tryz.type63
set_option maxRecDepth 100000 in
theorem Tryz.ti64 : Tryz.prog.info? 64 = some Tryz.t64 := Tryz.type64
set_option maxRecDepth 100000 in
theorem Tryz.ti65 : Tryz.prog.info? 65 = some Tryz.t65 := Tryz.type65
set_option maxRecDepth 100000 in
theorem Tryz.ti66 : Tryz.prog.info? 66 = some Tryz.t66 := Tryz.type66
set_option maxRecDepth 100000 in
theorem Tryz.ti67 : Tryz.prog.info? 67 = some Tryz.t67 := Tryz.type67
set_option maxRecDepth 100000 in
theorem Tryz.ti68 : Tryz.prog.info? 68 = some Tryz.t68 := Tryz.type68
set_option maxRecDepth 100000 in
theorem Tryz.ti69 : Tryz.prog.info? 69 = some Tryz.t69 := Tryz.type69
set_option maxRecDepth 100000 in
theorem Tryz.ti70 : Tryz.prog.info? 70 = some Tryz.t70 := Tryz.type70
set_option maxRecDepth 100000 in
theorem Tryz.ti71 : Tryz.prog.info? 71 = some Tryz.t71 := Tryz.type71
set_option maxRecDepth 100000 in
theorem Tryz.ti72 : Tryz.prog.info? 72 = some Tryz.t72 := Tryz.type72
set_option maxRecDepth 100000 in
theorem Tryz.ti73 : Tryz.prog.info? 73 = some Tryz.t73 := Tryz.type73
set_option maxRecDepth 100000 in
theorem Tryz.ti74 : Tryz.prog.info? 74 = some Tryz.t74 := Tryz.type74
set_option maxRecDepth 100000 in
theorem Tryz.ti75 : Tryz.prog.info? 75 = some Tryz.t75 := Tryz.type75
set_option maxRecDepth 100000 in
theorem Tryz.ti76 : Tryz.prog.info? 76 = some Tryz.t76 := Tryz.type76
set_option maxRecDepth 100000 in
theorem Tryz.ti77 : Tryz.prog.info? 77 = some Tryz.t77 := Tryz.type77
set_option maxRecDepth 100000 in
theorem Tryz.ti78 : Tryz.prog.info? 78 = some Tryz.t78 := Tryz.type78
set_option maxRecDepth 100000 in
theorem Tryz.ti79 : Tryz.prog.info? 79 = some Tryz.t79 := Tryz.type79
set_option maxRecDepth 100000 in
theorem Tryz.ti80 : Tryz.prog.info? 80 = some Tryz.t80 := Tryz.type80
set_option maxRecDepth 100000 in
theorem Tryz.ti81 : Tryz.prog.info? 81 = some Tryz.t81 := Tryz.type81
set_option maxRecDepth 100000 in
theorem Tryz.ti82 : Tryz.prog.info? 82 = some Tryz.t82 := Tryz.type82
set_option maxRecDepth 100000 in
theorem Tryz.ti83 : Tryz.prog.info? 83 = some Tryz.t83 := Tryz.type83
set_option maxRecDepth 100000 in
theorem Tryz.ti84 : Tryz.prog.info? 84 = some Tryz.t84 := Tryz.type84
set_option maxRecDepth 100000 in
theorem Tryz.ti85 : Tryz.prog.info? 85 = some Tryz.t85 := Tryz.type85
set_option maxRecDepth 100000 in
theorem Tryz.ti86 : Tryz.prog.info? 86 = some Tryz.t86 := Tryz.type86
set_option maxRecDepth 100000 in
theorem Tryz.ti87 : Tryz.prog.info? 87 = some Tryz.t87 := Tryz.type87
set_option maxRecDepth 100000 in
theorem Tryz.ti88 : Tryz.prog.info? 88 = some Tryz.t88 := Tryz.type88
set_option maxRecDepth 100000 in
theorem Tryz.ti89 : Tryz.prog.info? 89 = some Tryz.t89 := Tryz.type89
set_option maxRecDepth 100000 in
theorem Tryz.ti90 : Tryz.prog.info? 90 = some Tryz.t90 := Tryz.type90
set_option maxRecDepth 100000 in
theorem Tryz.ti91 : Tryz.prog.info? 91 = some Tryz.t91 := Tryz.type91
set_option maxRecDepth 100000 in
theorem Tryz.ti92 : Tryz.prog.info? 92 = some Tryz.t92 := Tryz.type92
set_option maxRecDepth 100000 in
theorem Tryz.ti93 : Tryz.prog.info? 93 = some Tryz.t93 := Tryz.type93
set_option maxRecDepth 100000 in
theorem Tryz.ti94 : Tryz.prog.info? 94 = some Tryz.t94 := Tryz.type94
set_option maxRecDepth 100000 in
theorem Tryz.ti95 : Tryz.prog.info? 95 = some Tryz.t95 := Tryz.type95
set_option maxRecDepth 100000 in
theorem Tryz.ti96 : Tryz.prog.info? 96 = some Tryz.t96 := Tryz.type96
set_option maxRecDepth 100000 in
theorem Tryz.ti97 : Tryz.prog.info? 97 = some Tryz.t97 := Tryz.type97
set_option maxRecDepth 100000 in
theorem Tryz.ti98 : Tryz.prog.info? 98 = some Tryz.t98 := Tryz.type98
set_option maxRecDepth 100000 in
theorem Tryz.ti99 : Tryz.prog.info? 99 = some Tryz.t99 := Tryz.type99
set_option maxRecDepth 100000 in
theorem Tryz.ti100 : Tryz.prog.info? 100 = some Tryz.t100 := Tryz.type100
set_option maxRecDepth 100000 in
theorem Tryz.ti101 : Tryz.prog.info? 101 = some Tryz.t101 := Tryz.type101
set_option maxRecDepth 100000 in
theorem Tryz.ti102 : Tryz.prog.info? 102 = some Tryz.t102 := Tryz.type102
set_option maxRecDepth 100000 in
theorem Tryz.ti103 : Tryz.prog.info? 103 = some Tryz.t103 := Tryz.type103
set_option maxRecDepth 100000 in
theorem Tryz.ti104 : Tryz.prog.info? 104 = some Tryz.t104 := Tryz.type104
set_option maxRecDepth 100000 in
theorem Tryz.ti105 : Tryz.prog.info? 105 = some Tryz.t105 := Tryz.type105
set_option maxRecDepth 100000 in
theorem Tryz.ti106 : Tryz.prog.info? 106 = some Tryz.t106 := Tryz.type106
set_option maxRecDepth 100000 in
theorem Tryz.ti107 : Tryz.prog.info? 107 = some Tryz.t107 := Tryz.type107
set_option maxRecDepth 100000 in
theorem Tryz.ti108 : Tryz.prog.info? 108 = some Tryz.t108 := Tryz.type108
set_option maxRecDepth 100000 in
theorem Tryz.ti109 : Tryz.prog.info? 109 = some Tryz.t109 := Tryz.type109
set_option maxRecDepth 100000 in
theorem Tryz.ti110 : Tryz.prog.info? 110 = some Tryz.t110 := Tryz.type110
set_option maxRecDepth 100000 in
theorem Tryz.ti111 : Tryz.prog.info? 111 = some Tryz.t111 := Tryz.type111
set_option maxRecDepth 100000 in
theorem Tryz.ti112 : Tryz.prog.info? 112 = some Tryz.t112 := Tryz.type112
set_option maxRecDepth 100000 in
theorem Tryz.ti113 : Tryz.prog.info? 113 = some Tryz.t113 := Tryz.type113
set_option maxRecDepth 100000 in
theorem Tryz.ti114 : Tryz.prog.info? 114 = some Tryz.t114 := Tryz.type114
set_option maxRecDepth 100000 in
theorem Tryz.ti115 : Tryz.prog.info? 115 = some Tryz.t115 := Tryz.type115
set_option maxRecDepth 100000 in
theorem Tryz.ti116 : Tryz.prog.info? 116 = some Tryz.t116 := Tryz.type116
set_option maxRecDepth 100000 in
theorem Tryz.ti117 : Tryz.prog.info? 117 = some Tryz.t117 := Tryz.type117
set_option maxRecDepth 100000 in
theorem Tryz.ti118 : Tryz.prog.info? 118 = some Tryz.t118 := Tryz.type118
set_option maxRecDepth 100000 in
theorem Tryz.ti119 : Tryz.prog.info? 119 = some Tryz.t119 := Tryz.type119
set_option maxRecDepth 100000 in
theorem Tryz.ti120 : Tryz.prog.info? 120 = some Tryz.t120 := Tryz.type120
set_option maxRecDepth 100000 in
theorem Tryz.ti121 : Tryz.prog.info? 121 = some Tryz.t121 := Tryz.type121
set_option maxRecDepth 100000 in
theorem Tryz.ti122 : Tryz.prog.info? 122 = some Tryz.t122 := Tryz.type122
set_option maxRecDepth 100000 in
theorem Tryz.ti123 : Tryz.prog.info? 123 = some Tryz.t123 := Tryz.type123
set_option maxRecDepth 100000 in
theorem Tryz.ti124 : Tryz.prog.info? 124 = some Tryz.t124 := Tryz.type124
set_option maxRecDepth 100000 in
theorem Tryz.ti125 : Tryz.prog.info? 125 = some Tryz.t125 := Tryz.type125
set_option maxRecDepth 100000 in
theorem Tryz.ti126 : Tryz.prog.info? 126 = some Tryz.t126 := Tryz.type126
set_option maxRecDepth 100000 in
theorem Tryz.ti127 : Tryz.prog.info? 127 = some Tryz.t127 := Tryz.type127
set_option maxRecDepth 100000 in
theorem Tryz.ti128 : Tryz.prog.info? 128 = some Tryz.t128 := Tryz.type128
set_option maxRecDepth 100000 in
theorem Tryz.ti129 : Tryz.prog.info? 129 = some Tryz.t129 := Tryz.type129
set_option maxRecDepth 100000 in
theorem Tryz.ti130 : Tryz.prog.info? 130 = some Tryz.t130 := Tryz.type130
set_option maxRecDepth 100000 in
theorem Tryz.ti131 : Tryz.prog.info? 131 = some Tryz.t131 := Tryz.type131
set_option maxRecDepth 100000 in
theorem Tryz.ti132 : Tryz.prog.info? 132 = some Tryz.t132 := Tryz.type132
set_option maxRecDepth 100000 in
theorem Tryz.ti133 : Tryz.prog.info? 133 = some Tryz.t133 := Tryz.type133
set_option maxRecDepth 100000 in
theorem Tryz.ti134 : Tryz.prog.info? 134 = some Tryz.t134 := Tryz.type134
set_option maxRecDepth 100000 in
theorem Tryz.ti135 : Tryz.prog.info? 135 = some Tryz.t135 := Tryz.type135
set_option maxRecDepth 100000 in
theorem Tryz.ti136 : Tryz.prog.info? 136 = some Tryz.t136 := Tryz.type136
set_option maxRecDepth 100000 in
theorem Tryz.ti137 : Tryz.prog.info? 137 = some Tryz.t137 := Tryz.type137
set_option maxRecDepth 100000 in
theorem Tryz.ti138 : Tryz.prog.info? 138 = some Tryz.t138 := Tryz.type138
set_option maxRecDepth 100000 in
theorem Tryz.ti139 : Tryz.prog.info? 139 = some Tryz.t139 := Tryz.type139
set_option maxRecDepth 100000 in
theorem Tryz.ti140 : Tryz.prog.info? 140 = some Tryz.t140 := Tryz.type140
set_option maxRecDepth 100000 in
theorem Tryz.ti141 : Tryz.prog.info? 141 = some Tryz.t141 := Tryz.type141
set_option maxRecDepth 100000 in
theorem Tryz.ti142 : Tryz.prog.info? 142 = some Tryz.t142 := Tryz.type142
set_option maxRecDepth 100000 in
theorem Tryz.ti143 : Tryz.prog.info? 143 = some Tryz.t143 := Tryz.type143
set_option maxRecDepth 100000 in
theorem Tryz.ti144 : Tryz.prog.info? 144 = some Tryz.t144 := Tryz.type144
set_option maxRecDepth 100000 in
theorem Tryz.ti145 : Tryz.prog.info? 145 = some Tryz.t145 := Tryz.type145
set_option maxRecDepth 100000 in
theorem Tryz.ti146 : Tryz.prog.info? 146 = some Tryz.t146 := Tryz.type146
set_option maxRecDepth 100000 in
theorem Tryz.ti147 : Tryz.prog.info? 147 = some Tryz.t147 := Tryz.type147
set_option maxRecDepth 100000 in
theorem Tryz.ti148 : Tryz.prog.info? 148 = some Tryz.t148 := Tryz.type148
set_option maxRecDepth 100000 in
theorem Tryz.ti149 : Tryz.prog.info? 149 = some Tryz.t149 := Tryz.type149
set_option maxRecDepth 100000 in
theorem Tryz.ti150 : Tryz.prog.info? 150 = some Tryz.t150 := Tryz.type150
set_option maxRecDepth 100000 in
theorem Tryz.ti151 : Tryz.prog.info? 151 = some Tryz.t151 := Tryz.type151
set_option maxRecDepth 100000 in
theorem Tryz.ti152 : Tryz.prog.info? 152 = some Tryz.t152 := Tryz.type152
set_option maxRecDepth 100000 in
theorem Tryz.ti153 : Tryz.prog.info? 153 = some Tryz.t153 := Tryz.type153
set_option maxRecDepth 100000 in
theorem Tryz.ti154 : Tryz.prog.info? 154 = some Tryz.t154 := Tryz.type154
set_option maxRecDepth 100000 in
theorem Tryz.ti155 : Tryz.prog.info? 155 = some Tryz.t155 := Tryz.type155
set_option maxRecDepth 100000 in
theorem Tryz.ti156 : Tryz.prog.info? 156 = some Tryz.t156 := Tryz.type156
set_option maxRecDepth 100000 in
theorem Tryz.ti157 : Tryz.prog.info? 157 = some Tryz.t157 := Tryz.type157
set_option maxRecDepth 100000 in
theorem Tryz.ti158 : Tryz.prog.info? 158 = some Tryz.t158 := Tryz.type158
set_option maxRecDepth 100000 in
theorem Tryz.ti159 : Tryz.prog.info? 159 = some Tryz.t159 := Tryz.type159
set_option maxRecDepth 100000 in
theorem Tryz.ti160 : Tryz.prog.info? 160 = some Tryz.t160 := Tryz.type160
set_option maxRecDepth 100000 in
theorem Tryz.ti161 : Tryz.prog.info? 161 = some Tryz.t161 := Tryz.type161
set_option maxRecDepth 100000 in
theorem Tryz.ti162 : Tryz.prog.info? 162 = some Tryz.t162 := Tryz.type162
set_option maxRecDepth 100000 in
theorem Tryz.ti163 : Tryz.prog.info? 163 = some Tryz.t163 := Tryz.type163
set_option maxRecDepth 100000 in
theorem Tryz.ti164 : Tryz.prog.info? 164 = some Tryz.t164 := Tryz.type164
set_option maxRecDepth 100000 in
theorem Tryz.ti165 : Tryz.prog.info? 165 = some Tryz.t165 := Tryz.type165
set_option maxRecDepth 100000 in
theorem Tryz.ti166 : Tryz.prog.info? 166 = some Tryz.t166 := Tryz.type166
set_option maxRecDepth 100000 in
theorem Tryz.ti167 : Tryz.prog.info? 167 = some Tryz.t167 := Tryz.type167
set_option maxRecDepth 100000 in
theorem Tryz.ti168 : Tryz.prog.info? 168 = some Tryz.t168 := Tryz.type168
set_option maxRecDepth 100000 in
theorem Tryz.ti169 : Tryz.prog.info? 169 = some Tryz.t169 := Tryz.type169
set_option maxRecDepth 100000 in
theorem Tryz.ti170 : Tryz.prog.info? 170 = some Tryz.t170 := Tryz.type170
set_option maxRecDepth 100000 in
theorem Tryz.ti171 : Tryz.prog.info? 171 = some Tryz.t171 := Tryz.type171
set_option maxRecDepth 100000 in
theorem Tryz.ti172 : Tryz.prog.info? 172 = some Tryz.t172 := Tryz.type172
set_option maxRecDepth 100000 in
theorem Tryz.ti173 : Tryz.prog.info? 173 = some Tryz.t173 := Tryz.type173
set_option maxRecDepth 100000 in
theorem Tryz.ti174 : Tryz.prog.info? 174 = some Tryz.t174 := Tryz.type174
set_option maxRecDepth 100000 in
theorem Tryz.ti175 : Tryz.prog.info? 175 = some Tryz.t175 := Tryz.type175
set_option maxRecDepth 100000 in
theorem Tryz.ti176 : Tryz.prog.info? 176 = some Tryz.t176 := Tryz.type176
set_option maxRecDepth 100000 in
theorem Tryz.ti177 : Tryz.prog.info? 177 = some Tryz.t177 := Tryz.type177
set_option maxRecDepth 100000 in
theorem Tryz.ti178 : Tryz.prog.info? 178 = some Tryz.t178 := Tryz.type178
set_option maxRecDepth 100000 in
theorem Tryz.ti179 : Tryz.prog.info? 179 = some Tryz.t179 := Tryz.type179
set_option maxRecDepth 100000 in
theorem Tryz.ti180 : Tryz.prog.info? 180 = some Tryz.t180 := Tryz.type180
set_option maxRecDepth 100000 in
theorem Tryz.ti181 : Tryz.prog.info? 181 = some Tryz.t181 := Tryz.type181
set_option maxRecDepth 100000 in
theorem Tryz.ti182 : Tryz.prog.info? 182 = some Tryz.t182 := Tryz.type182
set_option maxRecDepth 100000 in
theorem Tryz.ti183 : Tryz.prog.info? 183 = some Tryz.t183 := Tryz.type183
set_option maxRecDepth 100000 in
theorem Tryz.ti184 : Tryz.prog.info? 184 = some Tryz.t184 := Tryz.type184
set_option maxRecDepth 100000 in
theorem Tryz.ti185 : Tryz.prog.info? 185 = some Tryz.t185 := Tryz.type185
set_option maxRecDepth 100000 in
theorem Tryz.ti186 : Tryz.prog.info? 186 = some Tryz.t186 := Tryz.type186
set_option maxRecDepth 100000 in
theorem Tryz.ti187 : Tryz.prog.info? 187 = some Tryz.t187 := Tryz.type187
set_option maxRecDepth 100000 in
theorem Tryz.ti188 : Tryz.prog.info? 188 = some Tryz.t188 := Tryz.type188
set_option maxRecDepth 100000 in
theorem Tryz.ti189 : Tryz.prog.info? 189 = some Tryz.t189 := Tryz.type189
set_option maxRecDepth 100000 in
theorem Tryz.ti190 : Tryz.prog.info? 190 = some Tryz.t190 := Tryz.type190
set_option maxRecDepth 100000 in
theorem Tryz.ti191 : Tryz.prog.info? 191 = some Tryz.t191 := Tryz.type191
set_option maxRecDepth 100000 in
theorem Tryz.ti192 : Tryz.prog.info? 192 = some Tryz.t192 := Tryz.type192
set_option maxRecDepth 100000 in
theorem Tryz.ti193 : Tryz.prog.info? 193 = some Tryz.t193 := Tryz.type193
set_option maxRecDepth 100000 in
theorem Tryz.ti194 : Tryz.prog.info? 194 = some Tryz.t194 := Tryz.type194
set_option maxRecDepth 100000 in
theorem Tryz.ti195 : Tryz.prog.info? 195 = some Tryz.t195 := Tryz.type195
set_option maxRecDepth 100000 in
theorem Tryz.ti196 : Tryz.prog.info? 196 = some Tryz.t196 := Tryz.type196
set_option maxRecDepth 100000 in
theorem Tryz.ti197 : Tryz.prog.info? 197 = some Tryz.t197 := Tryz.type197
set_option maxRecDepth 100000 in
theorem Tryz.ti198 : Tryz.prog.info? 198 = some Tryz.t198 := Tryz.type198
set_option maxRecDepth 100000 in
theorem Tryz.ti199 : Tryz.prog.info? 199 = some Tryz.t199 := Tryz.type199
set_option maxRecDepth 100000 in
theorem Tryz.ti200 : Tryz.prog.info? 200 = some Tryz.t200 := Tryz.type200
set_option maxRecDepth 100000 in
theorem Tryz.ti201 : Tryz.prog.info? 201 = some Tryz.t201 := Tryz.type201
set_option maxRecDepth 100000 in
theorem Tryz.ti202 : Tryz.prog.info? 202 = some Tryz.t202 := Tryz.type202
set_option maxRecDepth 100000 in
theorem Tryz.ti203 : Tryz.prog.info? 203 = some Tryz.t203 := Tryz.type203
set_option maxRecDepth 100000 in
theorem Tryz.ti204 : Tryz.prog.info? 204 = some Tryz.t204 := Tryz.type204
set_option maxRecDepth 100000 in
theorem Tryz.ti205 : Tryz.prog.info? 205 = some Tryz.t205 := Tryz.type205
set_option maxRecDepth 100000 in
theorem Tryz.ti206 : Tryz.prog.info? 206 = some Tryz.t206 := Tryz.type206
set_option maxRecDepth 100000 in
theorem Tryz.ti207 : Tryz.prog.info? 207 = some Tryz.t207 := Tryz.type207
set_option maxRecDepth 100000 in
theorem Tryz.ti208 : Tryz.prog.info? 208 = some Tryz.t208 := Tryz.type208
set_option maxRecDepth 100000 in
theorem Tryz.ti209 : Tryz.prog.info? 209 = some Tryz.t209 := Tryz.type209
set_option maxRecDepth 100000 in
theorem Tryz.ti210 : Tryz.prog.info? 210 = some Tryz.t210 := Tryz.type210
set_option maxRecDepth 100000 in
theorem Tryz.ti211 : Tryz.prog.info? 211 = some Tryz.t211 := Tryz.type211
set_option maxRecDepth 100000 in
theorem Tryz.ti212 : Tryz.prog.info? 212 = some Tryz.t212 := Tryz.type212
set_option maxRecDepth 100000 in
theorem Tryz.ti213 : Tryz.prog.info? 213 = some Tryz.t213 := Tryz.type213
/-- laws.Edge -/
abbrev Tlaws_Edge := Int × Int × Int
abbrev Rlaws_Edge : Rep Tlaws_Edge := (rProd (rInt .i64) (rProd (rInt .i64) (rInt .i64)))
/-- laws.Lts -/
abbrev Tlaws_Lts := Int × Int × (List Str) × (List Tlaws_Edge)
abbrev Rlaws_Lts : Rep Tlaws_Lts := (rProd (rInt .i64) (rProd (rInt .i64) (rProd (rList rStr) (rList Rlaws_Edge))))
/-- impl.Edge -/
abbrev Timpl_Edge := Int × Int × Int
abbrev Rimpl_Edge : Rep Timpl_Edge := (rProd (rInt .i64) (rProd (rInt .i64) (rInt .i64)))
/-- impl.Lts -/
abbrev Timpl_Lts := Int × Int × (List Str) × (List Timpl_Edge)
abbrev Rimpl_Lts : Rep Timpl_Lts := (rProd (rInt .i64) (rProd (rInt .i64) (rProd (rList rStr) (rList Rimpl_Edge))))
/-- laws.Node -/
abbrev Tlaws_Node := Int × Int × Str × Bool
abbrev Rlaws_Node : Rep Tlaws_Node := (rProd (rInt .i64) (rProd (rInt .i64) (rProd rStr rBool)))
/-- impl.Node -/
abbrev Timpl_Node := Int × Int × Str × Bool
abbrev Rimpl_Node : Rep Timpl_Node := (rProd (rInt .i64) (rProd (rInt .i64) (rProd rStr rBool)))
end Go.Proofs.YtnkpniekdipgaaaGreatDoor
