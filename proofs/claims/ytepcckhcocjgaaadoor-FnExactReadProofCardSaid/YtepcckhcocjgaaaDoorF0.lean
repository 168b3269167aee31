/- Facts on the tables of the loaded program (printed by a program of this repo). -/
import Derived.Test.YtepcckhcocjgaaaDoorRows
import Derived.Test.YtepcckhcocjgaaaDoorGxO
import Derived.KernelRfl
namespace Go.Proofs.YtepcckhcocjgaaaDoor
open Go.RowKit Go.Gx
theorem mixed : Tryd.prog.follows .mixedOrders = true := by kernel_rfl
set_option maxRecDepth 100000 in
theorem Tryd.ti0 : Tryd.prog.info? 0 = some Tryd.t0 := Tryd.type0
set_option maxRecDepth 100000 in
theorem Tryd.ti1 : Tryd.prog.info? 1 = some Tryd.t1 := Tryd.type1
set_option maxRecDepth 100000 in
theorem Tryd.ti2 : Tryd.prog.info? 2 = some Tryd.t2 := Tryd.type2
set_option maxRecDepth 100000 in
theorem Tryd.ti3 : Tryd.prog.info? 3 = some Tryd.t3 := Tryd.type3
set_option maxRecDepth 100000 in
theorem Tryd.ti4 : Tryd.prog.info? 4 = some Tryd.t4 := Tryd.type4
set_option maxRecDepth 100000 in
theorem Tryd.ti5 : Tryd.prog.info? 5 = some Tryd.t5 := Tryd.type5
set_option maxRecDepth 100000 in
theorem Tryd.ti6 : Tryd.prog.info? 6 = some Tryd.t6 := Tryd.type6
set_option maxRecDepth 100000 in
theorem Tryd.ti7 : Tryd.prog.info? 7 = some Tryd.t7 := Tryd.type7
set_option maxRecDepth 100000 in
theorem Tryd.ti8 : Tryd.prog.info? 8 = some Tryd.t8 := Tryd.type8
set_option maxRecDepth 100000 in
theorem Tryd.ti9 : Tryd.prog.info? 9 = some Tryd.t9 := Tryd.type9
set_option maxRecDepth 100000 in
theorem Tryd.ti10 : Tryd.prog.info? 10 = some Tryd.t10 := Tryd.type10
set_option maxRecDepth 100000 in
theorem Tryd.ti11 : Tryd.prog.info? 11 = some Tryd.t11 := Tryd.type11
set_option maxRecDepth 100000 in
theorem Tryd.ti12 : Tryd.prog.info? 12 = some Tryd.t12 := Tryd.type12
set_option maxRecDepth 100000 in
theorem Tryd.ti13 : Tryd.prog.info? 13 = some Tryd.t13 := Tryd.type13
set_option maxRecDepth 100000 in
theorem Tryd.ti14 : Tryd.prog.info? 14 = some Tryd.t14 := Tryd.type14
set_option maxRecDepth 100000 in
theorem Tryd.ti15 : Tryd.prog.info? 15 = some Tryd.t15 := Tryd.type15
set_option maxRecDepth 100000 in
theorem Tryd.ti16 : Tryd.prog.info? 16 = some Tryd.t16 := Tryd.type16
set_option maxRecDepth 100000 in
theorem Tryd.ti17 : Tryd.prog.info? 17 = some Tryd.t17 := Tryd.type17
set_option maxRecDepth 100000 in
theorem Tryd.ti18 : Tryd.prog.info? 18 = some Tryd.t18 := Tryd.type18
set_option maxRecDepth 100000 in
theorem Tryd.ti19 : Tryd.prog.info? 19 = some Tryd.t19 := Tryd.type19
set_option maxRecDepth 100000 in
theorem Tryd.ti20 : Tryd.prog.info? 20 = some Tryd.t20 := Tryd.type20
set_option maxRecDepth 100000 in
theorem Tryd.ti21 : Tryd.prog.info? 21 = some Tryd.t21 := Tryd.type21
set_option maxRecDepth 100000 in
theorem Tryd.ti22 : Tryd.prog.info? 22 = some Tryd.t22 := Tryd.type22
set_option maxRecDepth 100000 in
theorem Tryd.ti23 : Tryd.prog.info? 23 = some Tryd.t23 := Tryd.type23
set_option maxRecDepth 100000 in
theorem Tryd.ti24 : Tryd.prog.info? 24 = some Tryd.t24 := Tryd.type24
set_option maxRecDepth 100000 in
theorem Tryd.ti25 : Tryd.prog.info? 25 = some Tryd.t25 := Tryd.type25
set_option maxRecDepth 100000 in
theorem Tryd.ti26 : Tryd.prog.info? 26 = some Tryd.t26 := Tryd.type26
set_option maxRecDepth 100000 in
theorem Tryd.ti27 : Tryd.prog.info? 27 = some Tryd.t27 := Tryd.type27
set_option maxRecDepth 100000 in
theorem Tryd.ti28 : Tryd.prog.info? 28 = some Tryd.t28 := Tryd.type28
set_option maxRecDepth 100000 in
theorem Tryd.ti29 : Tryd.prog.info? 29 = some Tryd.t29 := Tryd.type29
set_option maxRecDepth 100000 in
theorem Tryd.ti30 : Tryd.prog.info? 30 = some Tryd.t30 := Tryd.type30
set_option maxRecDepth 100000 in
theorem Tryd.ti31 : Tryd.prog.info? 31 = some Tryd.t31 := Tryd.type31
set_option maxRecDepth 100000 in
theorem Tryd.ti32 : Tryd.prog.info? 32 = some Tryd.t32 := Tryd.type32
set_option maxRecDepth 100000 in
theorem Tryd.ti33 : Tryd.prog.info? 33 = some Tryd.t33 := Tryd.type33
set_option maxRecDepth 100000 in
theorem Tryd.ti34 : Tryd.prog.info? 34 = some Tryd.t34 := Tryd.type34
set_option maxRecDepth 100000 in
theorem Tryd.ti35 : Tryd.prog.info? 35 = some Tryd.t35 := Tryd.type35
set_option maxRecDepth 100000 in
theorem Tryd.ti36 : Tryd.prog.info? 36 = some Tryd.t36 := Tryd.type36
set_option maxRecDepth 100000 in
theorem Tryd.ti37 : Tryd.prog.info? 37 = some Tryd.t37 := Tryd.type37
set_option maxRecDepth 100000 in
theorem Tryd.ti38 : Tryd.prog.info? 38 = some Tryd.t38 := Tryd.type38
set_option maxRecDepth 100000 in
theorem Tryd.ti39 : Tryd.prog.info? 39 = some Tryd.t39 := Tryd.type39
set_option maxRecDepth 100000 in
theorem Tryd.ti40 : Tryd.prog.info? 40 = some Tryd.t40 := Tryd.type40
set_option maxRecDepth 100000 in
theorem Tryd.ti41 : Tryd.prog.info? 41 = some Tryd.t41 := Tryd.type41
set_option maxRecDepth 100000 in
theorem Tryd.ti42 : Tryd.prog.info? 42 = some Tryd.t42 := Tryd.type42
set_option maxRecDepth 100000 in
theorem Tryd.ti43 : Tryd.prog.info? 43 = some Tryd.t43 := Tryd.type43
set_option maxRecDepth 100000 in
theorem Tryd.ti44 : Tryd.prog.info? 44 = some Tryd.t44 := Tryd.type44
set_option maxRecDepth 100000 in
theorem Tryd.ti45 : Tryd.prog.info? 45 = some Tryd.t45 := Tryd.type45
set_option maxRecDepth 100000 in
theorem Tryd.ti46 : Tryd.prog.info? 46 = some Tryd.t46 := Tryd.type46
set_option maxRecDepth 100000 in
theorem Tryd.ti47 : Tryd.prog.info? 47 = some Tryd.t47 := Tryd.type47
set_option maxRecDepth 100000 in
theorem Tryd.ti48 : Tryd.prog.info? 48 = some Tryd.t48 := Tryd.type48
set_option maxRecDepth 100000 in
theorem Tryd.ti49 : Tryd.prog.info? 49 = some Tryd.t49 := Tryd.type49
set_option maxRecDepth 100000 in
theorem Tryd.ti50 : Tryd.prog.info? 50 = some Tryd.t50 := Tryd.type50
set_option maxRecDepth 100000 in
theorem Tryd.ti51 : Tryd.prog.info? 51 = some Tryd.t51 := Tryd.type51
set_option maxRecDepth 100000 in
theorem Tryd.ti52 : Tryd.prog.info? 52 = some Tryd.t52 := Tryd.type52
set_option maxRecDepth 100000 in
theorem Tryd.ti53 : Tryd.prog.info? 53 = some Tryd.t53 := Tryd.type53
set_option maxRecDepth 100000 in
theorem Tryd.ti54 : Tryd.prog.info? 54 = some Tryd.t54 := Tryd.type54
set_option maxRecDepth 100000 in
theorem Tryd.ti55 : Tryd.prog.info? 55 = some Tryd.t55 := Tryd.type55
set_option maxRecDepth 100000 in
theorem Tryd.ti56 : Tryd.prog.info? 56 = some Tryd.t56 := Tryd.type56
set_option maxRecDepth 100000 in
theorem Tryd.ti57 : Tryd.prog.info? 57 = some Tryd.t57 := Tryd.type57
set_option maxRecDepth 100000 in
theorem Tryd.ti58 : Tryd.prog.info? 58 = some Tryd.t58 := Tryd.type58
set_option maxRecDepth 100000 in
theorem Tryd.ti59 : Tryd.prog.info? 59 = some Tryd.t59 := Tryd.type59
set_option maxRecDepth 100000 in
theorem Tryd.ti60 : Tryd.prog.info? 60 = some Tryd.t60 := Tryd.type60
set_option maxRecDepth 100000 in
theorem Tryd.ti61 : Tryd.prog.info? 61 = some Tryd.t61 := Tryd.type61
set_option maxRecDepth 100000 in
theorem Tryd.ti62 : Tryd.prog.info? 62 = some Tryd.t62 := Tryd.type62
set_option maxRecDepth 100000 in
theorem Tryd.ti63 : Tryd.prog.info? 63 = some Tryd.t63 := Tryd.type63
set_option maxRecDepth 100000 in
theorem Tryd.ti64 : Tryd.prog.info? 64 = some Tryd.t64 := Tryd.type64
set_option maxRecDepth 100000 in
theorem Tryd.ti65 : Tryd.prog.info? 65 = some Tryd.t65 := Tryd.type65
set_option maxRecDepth 100000 in
theorem Tryd.ti66 : Tryd.prog.info? 66 = some Tryd.t66 := Tryd.type66
set_option maxRecDepth 100000 in
theorem Tryd.ti67 : Tryd.prog.info? 67 = some Tryd.t67 := Tryd.type67
set_option maxRecDepth 100000 in
theorem Tryd.ti68 : Tryd.prog.info? 68 = some Tryd.t68 := Tryd.type68
set_option maxRecDepth 100000 in
theorem Tryd.ti69 : Tryd.prog.info? 69 = some Tryd.t69 := Tryd.type69
set_option maxRecDepth 100000 in
theorem Tryd.ti70 : Tryd.prog.info? 70 = some Tryd.t70 := Tryd.type70
set_option maxRecDepth 100000 in
theorem Tryd.ti71 : Tryd.prog.info? 71 = some Tryd.t71 := Tryd.type71
set_option maxRecDepth 100000 in
theorem Tryd.ti72 : Tryd.prog.info? 72 = some Tryd.t72 := Tryd.type72
set_option maxRecDepth 100000 in
theorem Tryd.ti73 : Tryd.prog.info? 73 = some Tryd.t73 := Tryd.type73
set_option maxRecDepth 100000 in
theorem Tryd.ti74 : Tryd.prog.info? 74 = some Tryd.t74 := Tryd.type74
set_option maxRecDepth 100000 in
theorem Tryd.ti75 : Tryd.prog.info? 75 = some Tryd.t75 := Tryd.type75
set_option maxRecDepth 100000 in
theorem Tryd.ti76 : Tryd.prog.info? 76 = some Tryd.t76 := Tryd.type76
set_option maxRecDepth 100000 in
theorem Tryd.ti77 : Tryd.prog.info? 77 = some Tryd.t77 := Tryd.type77
set_option maxRecDepth 100000 in
theorem Tryd.ti78 : Tryd.prog.info? 78 = some Tryd.t78 := Tryd.type78
set_option maxRecDepth 100000 in
theorem Tryd.ti79 : Tryd.prog.info? 79 = some Tryd.t79 := Tryd.type79
set_option maxRecDepth 100000 in
theorem Tryd.ti80 : Tryd.prog.info? 80 = some Tryd.t80 := Tryd.type80
set_option maxRecDepth 100000 in
theorem Tryd.ti81 : Tryd.prog.info? 81 = some Tryd.t81 := Tryd.type81
set_option maxRecDepth 100000 in
theorem Tryd.ti82 : Tryd.prog.info? 82 = some Tryd.t82 := Tryd.type82
set_option maxRecDepth 100000 in
theorem Tryd.ti83 : Tryd.prog.info? 83 = some Tryd.t83 := Tryd.type83
set_option maxRecDepth 100000 in
theorem Tryd.ti84 : Tryd.prog.info? 84 = some Tryd.t84 := Tryd.type84
set_option maxRecDepth 100000 in
theorem Tryd.ti85 : Tryd.prog.info? 85 = some Tryd.t85 := Tryd.type85
set_option maxRecDepth 100000 in
theorem Tryd.ti86 : Tryd.prog.info? 86 = some Tryd.t86 := Tryd.type86
set_option maxRecDepth 100000 in
theorem Tryd.ti87 : Tryd.prog.info? 87 = some Tryd.t87 := Tryd.type87
set_option maxRecDepth 100000 in
theorem Tryd.ti88 : Tryd.prog.info? 88 = some Tryd.t88 := Tryd.type88
set_option maxRecDepth 100000 in
theorem Tryd.ti89 : Tryd.prog.info? 89 = some Tryd.t89 := Tryd.type89
set_option maxRecDepth 100000 in
theorem Tryd.ti90 : Tryd.prog.info? 90 = some Tryd.t90 := Tryd.type90
set_option maxRecDepth 100000 in
theorem Tryd.ti91 : Tryd.prog.info? 91 = some Tryd.t91 := Tryd.type91
set_option maxRecDepth 100000 in
theorem Tryd.ti92 : Tryd.prog.info? 92 = some Tryd.t92 := Tryd.type92
set_option maxRecDepth 100000 in
theorem Tryd.ti93 : Tryd.prog.info? 93 = some Tryd.t93 := Tryd.type93
set_option maxRecDepth 100000 in
theorem Tryd.ti94 : Tryd.prog.info? 94 = some Tryd.t94 := Tryd.type94
set_option maxRecDepth 100000 in
theorem Tryd.ti95 : Tryd.prog.info? 95 = some Tryd.t95 := Tryd.type95
set_option maxRecDepth 100000 in
theorem Tryd.ti96 : Tryd.prog.info? 96 = some Tryd.t96 := Tryd.type96
set_option maxRecDepth 100000 in
theorem Tryd.ti97 : Tryd.prog.info? 97 = some Tryd.t97 := Tryd.type97
set_option maxRecDepth 100000 in
theorem Tryd.ti98 : Tryd.prog.info? 98 = some Tryd.t98 := Tryd.type98
set_option maxRecDepth 100000 in
theorem Tryd.ti99 : Tryd.prog.info? 99 = some Tryd.t99 := Tryd.type99
set_option maxRecDepth 100000 in
theorem Tryd.ti100 : Tryd.prog.info? 100 = some Tryd.t100 := Tryd.type100
set_option maxRecDepth 100000 in
theorem Tryd.ti101 : Tryd.prog.info? 101 = some Tryd.t101 := Tryd.type101
set_option maxRecDepth 100000 in
theorem Tryd.ti102 : Tryd.prog.info? 102 = some Tryd.t102 := Tryd.type102
set_option maxRecDepth 100000 in
theorem Tryd.ti103 : Tryd.prog.info? 103 = some Tryd.t103 := Tryd.type103
set_option maxRecDepth 100000 in
theorem Tryd.ti104 : Tryd.prog.info? 104 = some Tryd.t104 := Tryd.type104
set_option maxRecDepth 100000 in
theorem Tryd.ti105 : Tryd.prog.info? 105 = some Tryd.t105 := Tryd.type105
set_option maxRecDepth 100000 in
theorem Tryd.ti106 : Tryd.prog.info? 106 = some Tryd.t106 := Tryd.type106
set_option maxRecDepth 100000 in
theorem Tryd.ti107 : Tryd.prog.info? 107 = some Tryd.t107 := Tryd.type107
set_option maxRecDepth 100000 in
theorem Tryd.ti108 : Tryd.prog.info? 108 = some Tryd.t108 := Tryd.type108
set_option maxRecDepth 100000 in
theorem Tryd.ti109 : Tryd.prog.info? 109 = some Tryd.t109 := Tryd.type109
set_option maxRecDepth 100000 in
theorem Tryd.ti110 : Tryd.prog.info? 110 = some Tryd.t110 := Tryd.type110
set_option maxRecDepth 100000 in
theorem Tryd.ti111 : Tryd.prog.info? 111 = some Tryd.t111 := Tryd.type111
set_option maxRecDepth 100000 in
theorem Tryd.ti112 : Tryd.prog.info? 112 = some Tryd.t112 := Tryd.type112
set_option maxRecDepth 100000 in
theorem Tryd.ti113 : Tryd.prog.info? 113 = some Tryd.t113 := Tryd.type113
set_option maxRecDepth 100000 in
theorem Tryd.ti114 : Tryd.prog.info? 114 = some Tryd.t114 := Tryd.type114
set_option maxRecDepth 100000 in
theorem Tryd.ti115 : Tryd.prog.info? 115 = some Tryd.t115 := Tryd.type115
set_option maxRecDepth 100000 in
theorem Tryd.ti116 : Tryd.prog.info? 116 = some Tryd.t116 := Tryd.type116
set_option maxRecDepth 100000 in
theorem Tryd.ti117 : Tryd.prog.info? 117 = some Tryd.t117 := Tryd.type117
set_option maxRecDepth 100000 in
theorem Tryd.ti118 : Tryd.prog.info? 118 = some Tryd.t118 := Tryd.type118
set_option maxRecDepth 100000 in
theorem Tryd.ti119 : Tryd.prog.info? 119 = some Tryd.t119 := Tryd.type119
set_option maxRecDepth 100000 in
theorem Tryd.ti120 : Tryd.prog.info? 120 = some Tryd.t120 := Tryd.type120
set_option maxRecDepth 100000 in
theorem Tryd.ti121 : Tryd.prog.info? 121 = some Tryd.t121 := Tryd.type121
set_option maxRecDepth 100000 in
theorem Tryd.ti122 : Tryd.prog.info? 122 = some Tryd.t122 := Tryd.type122
set_option maxRecDepth 100000 in
theorem Tryd.ti123 : Tryd.prog.info? 123 = some Tryd.t123 := Tryd.type123
set_option maxRecDepth 100000 in
theorem Tryd.ti124 : Tryd.prog.info? 124 = some Tryd.t124 := Tryd.type124
set_option maxRecDepth 100000 in
theorem Tryd.ti125 : Tryd.prog.info? 125 = some Tryd.t125 := Tryd.type125
set_option maxRecDepth 100000 in
theorem Tryd.ti126 : Tryd.prog.info? 126 = some Tryd.t126 := Tryd.type126
set_option maxRecDepth 100000 in
theorem Tryd.ti127 : Tryd.prog.info? 127 = some Tryd.t127 := Tryd.type127
set_option maxRecDepth 100000 in
theorem Tryd.ti128 : Tryd.prog.info? 128 = some Tryd.t128 := Tryd.type128
set_option maxRecDepth 100000 in
theorem Tryd.ti129 : Tryd.prog.info? 129 = some Tryd.t129 := Tryd.type129
set_option maxRecDepth 100000 in
theorem Tryd.ti130 : Tryd.prog.info? 130 = some Tryd.t130 := Tryd.type130
set_option maxRecDepth 100000 in
theorem Tryd.ti131 : Tryd.prog.info? 131 = some Tryd.t131 := Tryd.type131
set_option maxRecDepth 100000 in
theorem Tryd.ti132 : Tryd.prog.info? 132 = some Tryd.t132 := Tryd.type132
set_option maxRecDepth 100000 in
theorem Tryd.ti133 : Tryd.prog.info? 133 = some Tryd.t133 := Tryd.type133
set_option maxRecDepth 100000 in
theorem Tryd.ti134 : Tryd.prog.info? 134 = some Tryd.t134 := Tryd.type134
set_option maxRecDepth 100000 in
theorem Tryd.ti135 : Tryd.prog.info? 135 = some Tryd.t135 := Tryd.type135
set_option maxRecDepth 100000 in
theorem Tryd.ti136 : Tryd.prog.info? 136 = some Tryd.t136 := Tryd.type136
set_option maxRecDepth 100000 in
theorem Tryd.ti137 : Tryd.prog.info? 137 = some Tryd.t137 := Tryd.type137
set_option maxRecDepth 100000 in
theorem Tryd.ti138 : Tryd.prog.info? 138 = some Tryd.t138 := Tryd.type138
set_option maxRecDepth 100000 in
theorem Tryd.ti139 : Tryd.prog.info? 139 = some Tryd.t139 := Tryd.type139
set_option maxRecDepth 100000 in
theorem Tryd.ti140 : Tryd.prog.info? 140 = some Tryd.t140 := Tryd.type140
set_option maxRecDepth 100000 in
theorem Tryd.ti141 : Tryd.prog.info? 141 = some Tryd.t141 := Tryd.type141
set_option maxRecDepth 100000 in
theorem Tryd.ti142 : Tryd.prog.info? 142 = some Tryd.t142 := Tryd.type142
set_option maxRecDepth 100000 in
theorem Tryd.ti143 : Tryd.prog.info? 143 = some Tryd.t143 := Tryd.type143
set_option maxRecDepth 100000 in
theorem Tryd.ti144 : Tryd.prog.info? 144 = some Tryd.t144 := Tryd.type144
set_option maxRecDepth 100000 in
theorem Tryd.ti145 : Tryd.prog.info? 145 = some Tryd.t145 := Tryd.type145
set_option maxRecDepth 100000 in
theorem Tryd.ti146 : Tryd.prog.info? 146 = some Tryd.t146 := Tryd.type146
set_option maxRecDepth 100000 in
theorem Tryd.ti147 : Tryd.prog.info? 147 = some Tryd.t147 := Tryd.type147
set_option maxRecDepth 100000 in
theorem Tryd.ti148 : Tryd.prog.info? 148 = some Tryd.t148 := Tryd.type148
set_option maxRecDepth 100000 in
theorem Tryd.ti149 : Tryd.prog.info? 149 = some Tryd.t149 := Tryd.type149
set_option maxRecDepth 100000 in
theorem Tryd.ti150 : Tryd.prog.info? 150 = some Tryd.t150 := Tryd.type150
set_option maxRecDepth 100000 in
theorem Tryd.ti151 : Tryd.prog.info? 151 = some Tryd.t151 := Tryd.type151
set_option maxRecDepth 100000 in
theorem Tryd.ti152 : Tryd.prog.info? 152 = some Tryd.t152 := Tryd.type152
set_option maxRecDepth 100000 in
theorem Tryd.ti153 : Tryd.prog.info? 153 = some Tryd.t153 := Tryd.type153
set_option maxRecDepth 100000 in
theorem Tryd.ti154 : Tryd.prog.info? 154 = some Tryd.t154 := Tryd.type154
set_option maxRecDepth 100000 in
theorem Tryd.ti155 : Tryd.prog.info? 155 = some Tryd.t155 := Tryd.type155
set_option maxRecDepth 100000 in
theorem Tryd.ti156 : Tryd.prog.info? 156 = some Tryd.t156 := Tryd.type156
set_option maxRecDepth 100000 in
theorem Tryd.ti157 : Tryd.prog.info? 157 = some Tryd.t157 := Tryd.type157
set_option maxRecDepth 100000 in
theorem Tryd.ti158 : Tryd.prog.info? 158 = some Tryd.t158 := Tryd.type158
set_option maxRecDepth 100000 in
theorem Tryd.ti159 : Tryd.prog.info? 159 = some Tryd.t159 := Tryd.type159
set_option maxRecDepth 100000 in
theorem Tryd.ti160 : Tryd.prog.info? 160 = some Tryd.t160 := Tryd.type160
set_option maxRecDepth 100000 in
theorem Tryd.ti161 : Tryd.prog.info? 161 = some Tryd.t161 := Tryd.type161
set_option maxRecDepth 100000 in
theorem Tryd.ti162 : Tryd.prog.info? 162 = some Tryd.t162 := Tryd.type162
set_option maxRecDepth 100000 in
theorem Tryd.ti163 : Tryd.prog.info? 163 = some Tryd.t163 := Tryd.type163
/-- laws.Proof -/
abbrev Tlaws_Proof := Bool × (List (List Int))
abbrev Rlaws_Proof : Rep Tlaws_Proof := (rProd rBool (rList (rList (rInt .i64))))
/-- impl.Proof -/
abbrev Timpl_Proof := Bool × (List (List Int))
abbrev Rimpl_Proof : Rep Timpl_Proof := (rProd rBool (rList (rList (rInt .i64))))
/-- laws.Equation -/
abbrev Tlaws_Equation := Bool × Bool × (List Int)
abbrev Rlaws_Equation : Rep Tlaws_Equation := (rProd rBool (rProd rBool (rList (rInt .i64))))
/-- impl.Equation -/
abbrev Timpl_Equation := Bool × Bool × (List Int)
abbrev Rimpl_Equation : Rep Timpl_Equation := (rProd rBool (rProd rBool (rList (rInt .i64))))
end Go.Proofs.YtepcckhcocjgaaaDoor
