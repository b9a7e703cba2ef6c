/- Parts of the proof: XiTab4, XiTab, XSimp, XFstS, XFstU, Xisum. -/
import Derived.Test.YtjliemjcailckaaGreatDoorXP10
import Derived.Test.YtjliemjcailckaaGreatDoorProg
set_option linter.unusedVariables false
set_option linter.unusedSimpArgs false
set_option linter.unusedSectionVars false
section
open Go Go.X Go.Proofs
set_option maxRecDepth 100000
set_option maxHeartbeats 4000000
namespace Go.X.TryzW
noncomputable def x4:XC:=(cq [ oa 2 (.box (.t 0)),oa 4 (.alloc [(iI 0),iS,iS,iS,(iI 0),(iI 0),(iI 0),iS,iS]),oj 5 iF] (cq [ ov 7 1,oa 8 (.build [(iI 0),iS,iS,iS,(iI 0),(iI 0),(iI 0),iS,iS] [(6,(1,(.t 7)))]),oa 6 (.alloc [(iI 0),iS,iS,iS,(iI 0),(iI 0),(iI 0),iS,iS]),ob (.store 9 (.t 6) (.t 8))] (.seq (cq [ oe 9 0 2,ol 10 9] (.block 0 (cq [ oa 13 (xbc .eql 10 (iI 1)),ov 12 13] (cn 12 (.drawR [(oe 14 1 2,([],false)),(ol 15 14,([],true)),(oe 16 2 2,([],false)),(ol 17 16,([],true)),(oe 18 3 2,([],false)),(ol 19 18,([],true)),(oe 20 0 6,([],false)),(ob (.store 1 (.t 20) (.c (iI 1))),([1,3,5],false)),(oe 21 2 6,([],false)),(ob (xs1 21 15),([3,5],false)),(oe 22 7 6,([],false)),(ob (xs1 22 17),([5],false)),(oe 23 8 6,([],false)),(ob (xs1 23 19),([],false))]) (cq [ oa 25 (xbc .eql 10 (iI 2)),ov 24 25] (cn 24 (.drawR [(oe 26 3 2,([],false)),(ol 27 26,([],true)),(oe 28 6 2,([],false)),(ol 29 28,([],true)),(oe 30 5 2,([],false)),(ol 31 30,([],true)),(oe 32 0 6,([],false)),(ob (.store 1 (.t 32) (.c (iI 7))),([1,3,5],false)),(oe 33 1 6,([],false)),(ob (xs1 33 27),([3,5],false)),(oe 34 5 6,([],false)),(ob (xs1 34 29),([5],false)),(oe 35 3 6,([],false)),(ob (xs1 35 31),([],false))]) (cq [ oa 37 (xbc .eql 10 (iI 3)),ov 36 37] (cn 36 (.drawR [(oe 38 4 2,([],false)),(ol 39 38,([],true)),(oe 40 5 2,([],false)),(ol 41 40,([],true)),(oe 42 0 6,([],false)),(ob (.store 1 (.t 42) (.c (iI 2))),([1,3],false)),(oe 43 2 6,([],false)),(ob (xs1 43 39),([3],false)),(oe 44 3 6,([],false)),(ob (xs1 44 41),([],false))]) (cq [ oa 46 (xbc .eql 10 (iI 4)),ov 45 46] (cn 45 (.drawR [(oe 47 5 2,([],false)),(ol 48 47,([],true)),(oe 49 0 6,([],false)),(ob (.store 1 (.t 49) (.c (iI 8))),([1],false)),(oe 50 3 6,([],false)),(ob (xs1 50 48),([],false))]) (cq [ oa 11 (.build [(iI 0),iS,iS,iS,(iI 0),(iI 0),(iI 0),iS,iS] []),ob (.store 9 (.t 4) (.t 11)),oj 5 iF] .ret))))))))))) (cq [ oa 51 (xln 9 6),ob (.store 9 (.t 4) (.t 51)),oj 5 iT] .ret))))
theorem k4:zi Tryz.prog 4 (pq Tryz.prog Tryz.f4 x4):=trq Tryz.f4 (by rfl) (by kernel_rfl) (by decide) (by kernel_rfl)
noncomputable def x14:XC:=(cq [ oa 4 (.alloc [iS,iS,iS,iS,(iI 0),iS,.nsl,.nsl,(iI 0)]),oj 5 iF] (cq [ ov 14 0,ov 15 1,oa 16 (xca 40 [.t 14,.t 15]),ov 13 16,ox 17 13 0,ox 18 13 1,ov 6 17,ov 7 18] (.seq (cq [ ov 19 7,oa 20 (.un .not (.t 19))] (cn 20 (cq [ oa 21 (.build [iS,iS,iS,iS,(iI 0),iS,.nsl,.nsl,(iI 0)] []),ob (.store 9 (.t 4) (.t 21)),oj 5 iF] .ret) .skip)) (.seq (.drawE [ ov 23 0,og 24 23,oe 25 0 24,ol 26 25,ov 27 6,oa 28 (xcp 42 [.t 27]),oa 29 (xca 41 [.t 26,.t 28]),ov 22 29,ox 30 22 0,ox 31 22 1,ov 8 30,ov 9 31]) (cq [ ov 33 8,oa 34 (.ex (.strB 5) [.t 33]),oa 35 (xca 43 [.t 34]),ov 32 35,ox 36 32 0,ox 37 32 1,ox 38 32 2,oa 10 (.alloc [iS,iS,iS,iS,(iI 0),iS,.nsl,.nsl,(iI 0)]),ob (.store 9 (.t 10) (.t 36)),ov 11 37,ov 12 38] (cq [ oa 39 (xln 9 10),ob (.store 9 (.t 4) (.t 39)),oj 5 iT] .ret))))))
theorem k14:zi Tryz.prog 14 (pq Tryz.prog Tryz.f14 x14):=trq Tryz.f14 (by rfl) (by kernel_rfl) (by decide) (by kernel_rfl)
noncomputable def x28:XC:=(cq [ oa 2 (.alloc [(iI 0),(iI 0)])] (cq [ oa 6 (.build [(iI 0),(iI 0)] [(0,(1,(.c (iI 1)))),(1,(1,(.c (iI 0))))]),oa 3 (.alloc [(iI 0),(iI 0)]),ob (.store 2 (.t 3) (.t 6))] (.seq (cq [ oj 4 (iI 0)] (.block 0 (.loop (.seq (cq [ ov 7 4,ov 8 0,oa 9 (.lenS (.t 8)),oa 10 (xbi .lss 7 9)] (cn 10 .skip (.exit 0))) (.seq (.block 1 (.drawE [ oa 13 (xln 2 3),ov 14 0,ov 15 4,oa 16 (.idx (.t 14) (.t 15)),oa 17 (.cvInt .i64 (.t 16)),oa 18 (xcp 59 [.t 13,.t 17]),ob (.store 2 (.t 3) (.t 18))])) (.ops [ ov 11 4,oa 12 (xbc .add 11 (iI 1)),ov 4 12])))))) (.seq (cq [ oj 5 (iI 0)] (.block 2 (.loop (.seq (cq [ ov 19 5,oa 20 (xbc .lss 19 (iI 3))] (cn 20 .skip (.exit 2))) (.seq (.block 3 (.ops [ oa 23 (xln 2 3),oa 24 (xca 59 [.t 23,(.c (iI 0))]),ob (.store 2 (.t 3) (.t 24))])) (.ops [ ov 21 5,oa 22 (xbc .add 21 (iI 1)),ov 5 22])))))) (cq [ oa 25 (xln 2 3),ob (.store 2 (.t 2) (.t 25))] .ret)))))
theorem k28:zi Tryz.prog 28 (pq Tryz.prog Tryz.f28 x28):=trq Tryz.f28 (by rfl) (by kernel_rfl) (by decide) (by kernel_rfl)
noncomputable def x32:XC:=(cq [ oa 3 (.box (.t 1)),oj 4 (iI 0)] (.seq (cq [ oe 6 0 3,ol 7 6,oa 8 (xbc .neq 7 (iI 1)),ov 9 8,oc 10 (xfa 1 3) 9 false,oc 11 (xld 10) 9 false,oc 12 (xbc .lss 11 (iI 0)) 9 false,oa 13 (.pick (.t 9) (.c iT) (.t 12)),ov 14 13,oc 15 (xfa 1 3) 14 false,oc 16 (xld 15) 14 false,oc 17 (xbc .geq 16 (iI 16)) 14 false,oa 18 (.pick (.t 14) (.c iT) (.t 17)),ov 19 18,oc 20 (xfa 3 3) 19 false,oc 21 (xld 20) 19 false,oc 22 (xbc .lss 21 (iI 1)) 19 false,oa 23 (.pick (.t 19) (.c iT) (.t 22))] (cn 23 (cq [ oj 4 (iI 0)] .ret) .skip)) (.seq (.draw [ ov 24 0,oe 25 1 3,ol 26 25,og 27 24,oe 28 38 27,oa 29 (.idxA 16 1 (.t 28) (.t 26)),ol 30 29,ov 5 30]) (.seq (.block 0 (cq [ oe 32 3 3,ol 33 32,ov 34 5,oa 35 (xbi .leq 33 34),ov 31 35] (cn 31 (cq [ oj 4 (iI 1)] .ret) (cq [ oe 37 3 3,ol 38 37,ov 39 5,oa 40 (xbc .add 39 (iI 1)),oa 41 (xbi .eql 38 40),ov 36 41] (cn 36 (cq [ oj 4 (iI 2)] .ret) .skip))))) (cq [ oj 4 (iI 3)] .ret)))))
theorem k32:zi Tryz.prog 32 (pq Tryz.prog Tryz.f32 x32):=trq Tryz.f32 (by rfl) (by kernel_rfl) (by decide) (by kernel_rfl)
noncomputable def x34:XC:=(cq [ oa 8 (.box (.t 3)),oa 10 (.alloc [(iI 0),(iI 0),(iI 0),(iI 0),(iI 0),iS,iS,iS,iS,iS,(iI 0)]),oj 11 (iI 0)] (.seq (.block 0 (.seq (.drawE [ ov 14 0,oa 15 (.ex (.eqP false) [.t 14,(.c (.raw (.pointer none)))]),ov 16 15,oc 17 (xmw 1) 16 false,oc 18 (.ex (.eqP false) [.t 17,(.c (.raw (.pointer none)))]) 16 false,oa 19 (.pick (.t 16) (.c iT) (.t 18)),ov 20 19,oc 21 (xfa 0 8) 20 false,oc 22 (xld 21) 20 false,oc 23 (xbc .neq 22 (iI 1)) 20 false,oa 24 (.pick (.t 20) (.c iT) (.t 23)),ov 25 24,oc 26 (xfa 2 8) 25 false,oc 27 (xld 26) 25 false,oc 28 (xmw 1) 25 false,oc 29 (xcp 63 [.t 28]) 25 false,oc 30 (xbi .neq 27 29) 25 false,oa 31 (.pick (.t 25) (.c iT) (.t 30)),ov 32 31,oc 33 (xmw 0) 32 false,oc 34 (xln 11 8) 32 false,oc 35 (xca 33 [.t 33,.t 34]) 32 false,oc 36 (xbc .eql 35 (iI 0)) 32 false,oa 37 (.pick (.t 32) (.c iT) (.t 36)),ov 13 37]) (cn 13 (cq [ oa 38 (.build [(iI 0),(iI 0),(iI 0),(iI 0),(iI 0),iS,iS,iS,iS,iS,(iI 0)] []),ob (.store 11 (.t 10) (.t 38)),oj 11 (iI 1)] .ret) (cq [ ov 40 1,oa 41 (xca 67 [.t 40]),oa 42 (.un .not (.t 41)),ov 39 42] (cn 39 (cq [ oa 43 (.build [(iI 0),(iI 0),(iI 0),(iI 0),(iI 0),iS,iS,iS,iS,iS,(iI 0)] []),ob (.store 11 (.t 10) (.t 43)),oj 11 (iI 13)] .ret) .skip))))) (.seq (cq [ ov 44 0,oa 45 (xln 11 8),oa 46 (xca 33 [.t 44,.t 45]),oa 47 (xbc .eql 46 (iI 3))] (cn 47 (cq [ oa 48 (.build [(iI 0),(iI 0),(iI 0),(iI 0),(iI 0),iS,iS,iS,iS,iS,(iI 0)] []),ob (.store 11 (.t 10) (.t 48)),oj 11 (iI 14)] .ret) .skip)) (.seq (cq [ ov 49 0,oa 50 (xln 11 8),oa 51 (xca 33 [.t 49,.t 50]),oa 52 (xbc .eql 51 (iI 2))] (cn 52 (cq [ ov 53 0,ov 54 1,ov 55 2,oa 56 (xln 11 8),ov 57 4,oa 58 (xca 68 [.t 53,.t 54,.t 55,.t 56,.t 57]),ov 12 58] (cq [ ov 59 12,oa 60 (xbc .neq 59 (iI 0))] (cn 60 (cq [ oa 61 (.build [(iI 0),(iI 0),(iI 0),(iI 0),(iI 0),iS,iS,iS,iS,iS,(iI 0)] []),ov 62 12,ob (.store 11 (.t 10) (.t 61)),ov 11 62] .ret) .skip))) .skip)) (.seq (.drawE [ oe 63 2 8,ol 64 63,oe 65 1 8,ol 66 65,ov 67 0,oe 68 1 8,ol 69 68,oa 70 (xcp 15 [.t 67,.t 69]),oa 71 (.build [(iI 0),(iI 0),(iI 0),(iI 0),(iI 0),iS,iS,iS,iS,iS,(iI 0)] [(0,(1,(.c (iI 2)))),(1,(1,(.t 64))),(2,(1,(.t 66))),(3,(1,(.t 70)))]),ob (.store 11 (.t 10) (.t 71)),oj 11 (iI 0)]) .ret)))))
theorem k34:zi Tryz.prog 34 (pq Tryz.prog Tryz.f34 x34):=trq Tryz.f34 (by rfl) (by kernel_rfl) (by decide) (by kernel_rfl)
noncomputable def x35:XC:=(cq [ oa 3 (.box (.t 1)),oa 4 (.alloc [(iI 0),(iI 0),(iI 0),(iI 0),(iI 0),iS,iS,iS,iS,iS,(iI 0)])] (.seq (.drawE [ oe 5 2 3,ol 6 5,oe 7 1 3,ol 8 7,ov 9 0,oe 10 1 3,ol 11 10,og 12 9,oe 13 38 12,oa 14 (.idxA 16 1 (.t 13) (.t 11)),ol 15 14,oa 16 (.build [(iI 0),(iI 0),(iI 0),(iI 0),(iI 0),iS,iS,iS,iS,iS,(iI 0)] [(0,(1,(.c (iI 2)))),(1,(1,(.t 6))),(2,(1,(.t 8))),(3,(1,(.t 15)))]),ob (.store 11 (.t 4) (.t 16))]) .ret))
theorem k35:zi Tryz.prog 35 (pq Tryz.prog Tryz.f35 x35):=trq Tryz.f35 (by rfl) (by kernel_rfl) (by decide) (by kernel_rfl)
noncomputable def x38:XC:=(cq [ oa 5 (.box (.t 1)),oa 8 (.mov (.c (.raw (.pointer none)))),oj 9 .nsl,oj 10 (iI 0)] (cq [ ov 21 0,oa 22 (xca 66 [.t 21]),ov 11 22] (cq [ oj 12 .nsl] (.seq (cq [ oj 13 (iI 0)] (.block 0 (.loop (.seq (cq [ ov 23 13,oe 24 12 5,ol 25 24,oa 26 (.len (.t 25)),oa 27 (xbi .lss 23 26)] (cn 27 .skip (.exit 0))) (.seq (.block 1 (cq [ oe 30 12 5,ol 31 30,ov 32 13,oa 33 (xix 13 31 32),oa 34 (xln 13 33),oa 14 (.alloc [(iI 0),(.raw (.complex .f64 0 0)),iS,iS,(iI 0),(iI 0),(iI 0),iS,iS,iS,iS,iS,(iI 0)]),ob (.store 13 (.t 14) (.t 34))] (.seq (cq [ oe 35 0 14,ol 36 35,oa 37 (xbc .eql 36 (iI 3))] (cn 37 (.ops [ ov 38 11,oe 39 6 14,oa 40 (xln 7 39),oa 41 (xca 71 [.t 38,.t 40])]) (cq [ ov 42 3,oa 43 (xbc .add 42 (iI 1)),ov 3 43] (cq [ ov 44 2,oa 45 (.ex (.itof .f64) [.t 44]),ov 46 3,oa 47 (.ex (.itof .f64) [.t 46]),oa 48 (.ex .cpx [.t 45,.t 47]),oe 49 1 14,ob (xs1 49 48)] (cq [ oe 50 0 14,ol 51 50,oa 52 (xbc .eql 51 (iI 2))] (cn 52 (.drawE [ ov 53 11,ov 54 11,og 55 54,oe 56 5 55,ol 57 56,oa 58 (xln 13 14),oa 59 (xca 72 [.t 57,.t 58]),og 60 53,oe 61 5 60,ob (xs1 61 59)]) (.drawE [ ov 62 11,ov 63 11,og 64 63,oe 65 4 64,ol 66 65,oa 67 (xln 13 14),oa 68 (xca 72 [.t 66,.t 67]),og 69 62,oe 70 4 69,ob (xs1 70 68)]))))))) (.ops [ ov 71 12,oa 72 (xln 13 14),oa 73 (.bslice 13 [(iI 0),(.raw (.complex .f64 0 0)),iS,iS,(iI 0),(iI 0),(iI 0),iS,iS,iS,iS,iS,(iI 0)] 1 [(0,(.t 72))]),oa 74 (.append 13 168 (.t 71) (.t 73)),ov 12 74])))) (.ops [ ov 28 13,oa 29 (xbc .add 28 (iI 1)),ov 13 29])))))) (cq [ ov 76 11,oe 77 0 5,ol 78 77,oa 79 (xca 55 [.t 76,.t 78]),ov 75 79,ox 80 75 0,ox 81 75 1,ov 15 80,ov 16 81] (.seq (cq [ ov 82 16,oa 83 (.un .not (.t 82))] (cn 83 (cq [ oa 84 (.bslice 12 [iS,iS,iS,iS,iS,(iI 0),iS,.nsl,.nsl,(iI 0),.nsl,.nsl] 0 []),ov 85 11,og 86 85,oe 87 3 86,ol 88 87,ov 89 15,oa 90 (.slice 12 (.t 88) none (some (.t 89))),oa 91 (.append 12 208 (.t 84) (.t 90)),ov 17 91] (cq [ ov 92 17,oe 93 0 5,ol 94 93,oa 95 (.build [iS,iS,iS,iS,iS,(iI 0),iS,.nsl,.nsl,(iI 0),.nsl,.nsl] [(0,(1,(.t 94)))]),oa 96 (.bslice 12 [iS,iS,iS,iS,iS,(iI 0),iS,.nsl,.nsl,(iI 0),.nsl,.nsl] 1 [(0,(.t 95))]),oa 97 (.append 12 208 (.t 92) (.t 96)),ov 17 97] (.ops [ ov 98 11,ov 99 17,ov 100 11,og 101 100,oe 102 3 101,ol 103 102,ov 104 15,oa 105 (.slice 12 (.t 103) (some (.t 104)) none),oa 106 (.append 12 208 (.t 99) (.t 105)),og 107 98,oe 108 3 107,ob (xs1 108 106)]))) .skip)) (cq [ ov 109 11,og 110 109,oe 111 3 110,ol 112 111,ov 113 15,oa 114 (xix 12 112 113),oa 115 (xln 12 114),oa 18 (.alloc [iS,iS,iS,iS,iS,(iI 0),iS,.nsl,.nsl,(iI 0),.nsl,.nsl]),ob (.store 12 (.t 18) (.t 115))] (cq [ oe 116 3 5,oa 117 (xln 9 116),oe 118 1 18,ob (.store 9 (.t 118) (.t 117))] (.seq (.drawR [(oa 119 (.bslice 4 [(iI 0),iS,iS,(iI 0)] 0 []),([],true)),(oe 120 10 18,([],false)),(ol 121 120,([0],false)),(oa 122 (.append 4 48 (.t 119) (.t 121)),([],true)),(oe 123 2 5,([],false)),(ol 124 123,([0,3],false)),(oa 125 (.append 4 48 (.t 122) (.t 124)),([],false)),(oe 126 10 18,([],false)),(ob (xs1 126 125),([],false))]) (.seq (cq [ oe 127 13 5,ol 128 127,oa 129 (xbc .neq 128 iS)] (cn 129 (cq [ oj 19 .nsl] (.seq (cq [ oj 20 (iI 0)] (.block 2 (.loop (.seq (cq [ ov 130 20,oe 131 11 18,ol 132 131,oa 133 (.len (.t 132)),oa 134 (xbi .lss 130 133)] (cn 134 .skip (.exit 2))) (.seq (.block 3 (.seq (.draw [ oe 137 11 18,ol 138 137,ov 139 20,oa 140 (xix 2 138 139),oe 141 0 140,ol 142 141,oe 143 13 5,ol 144 143,oa 145 (xbi .neq 142 144)]) (cn 145 (.ops [ ov 146 19,oe 147 11 18,ol 148 147,ov 149 20,oa 150 (xix 2 148 149),oa 151 (xln 2 150),oa 152 (.bslice 2 [iS,iS] 1 [(0,(.t 151))]),oa 153 (.append 2 32 (.t 146) (.t 152)),ov 19 153]) .skip))) (.ops [ ov 135 20,oa 136 (xbc .add 135 (iI 1)),ov 20 136])))))) (cq [ ov 154 19,oe 155 13 5,ol 156 155,oe 157 14 5,ol 158 157,oa 159 (.build [iS,iS] [(0,(1,(.t 156))),(1,(1,(.t 158)))]),oa 160 (.bslice 2 [iS,iS] 1 [(0,(.t 159))]),oa 161 (.append 2 32 (.t 154) (.t 160)),ov 19 161] (.seq (cq [ ov 162 19,oa 163 (.len (.t 162)),oa 164 (xbc .gtr 163 (iI 64))] (cn 164 (.ops [ ov 165 19,oa 166 (.slice 2 (.t 165) (some (.c (iI 1))) none),ov 19 166]) .skip)) (.ops [ ov 167 19,oe 168 11 18,ob (xs1 168 167)]))))) .skip)) (.seq (.drawE [ ov 169 11,og 170 169,oe 171 3 170,ol 172 171,ov 173 15,oa 174 (xln 12 18),oa 175 (xix 12 172 173),ob (.store 12 (.t 175) (.t 174))]) (.seq (cq [ oe 176 16 5,ol 177 176,oa 178 (xbc .gtr 177 (iI 0))] (cn 178 (.drawE [ ov 179 11,oe 180 15 5,ol 181 180,oe 182 16 5,ol 183 182,og 184 179,oe 185 38 184,oa 186 (.idxA 16 1 (.t 185) (.t 181)),ob (xs1 186 183)]) .skip)) (cq [ ov 187 11,ov 188 12,ov 189 3,ov 8 187,ov 9 188,ov 10 189] .ret)))))))))))))
theorem k38:zi Tryz.prog 38 (pq Tryz.prog Tryz.f38 x38):=trq Tryz.f38 (by rfl) (by kernel_rfl) (by decide) (by kernel_rfl)
noncomputable def x40:XC:=(cq [ oa 3 (.box (.t 1)),oa 4 (.alloc [(iI 0)]),oa 5 (.alloc [iF])] (cq [ oa 6 (.alloc [(iI 0)]),ob (.store 1 (.t 6) (.c (iI 0)))] (.seq (cq [ ov 9 0,og 10 9,oe 11 0 10,ol 12 11,oa 13 (xca 74 [.t 12,(.c (.str [110,47])),(.c (.str [110,48]))])] (.block 0 (.rngF (.t 13) 23 [14,15] (.ops [ ov 8 15]) (.block 1 (.seq (cq [ ov 16 8,ol 17 3,oa 18 (xbi .eql 16 17)] (cn 18 (cq [ ol 19 6,ob (xs1 4 19),ob (.store 1 (.t 5) (.c iT))] .ret) .skip)) (.ops [ ol 20 6,oa 21 (xbc .add 20 (iI 1)),ob (xs1 6 21)])))))) (cq [ ol 22 6,ob (xs1 4 22),ob (.store 1 (.t 5) (.c iF))] .ret))))
theorem k40:zi Tryz.prog 40 (pq Tryz.prog Tryz.f40 x40):=trq Tryz.f40 (by rfl) (by kernel_rfl) (by decide) (by kernel_rfl)
noncomputable def x45:XC:=(cq [ oj 4 (iI 0)] (cq [ ov 11 0,og 12 11,oe 13 0 12,ol 14 13,ov 15 1,oa 16 (xca 41 [.t 14,.t 15]),ov 10 16,ox 17 10 0,ox 18 10 1,ov 5 17,ov 6 18] (cq [ ov 20 5,oa 21 (.ex (.strB 5) [.t 20]),oa 22 (xca 51 [.t 21]),ov 19 22,ox 23 19 0,ox 24 19 1,ox 25 19 2,ov 7 23,ov 8 24,ov 9 25] (cq [ ov 26 7,ov 4 26] .ret))))
theorem k45:zi Tryz.prog 45 (pq Tryz.prog Tryz.f45 x45):=trq Tryz.f45 (by rfl) (by kernel_rfl) (by decide) (by kernel_rfl)
noncomputable def x47:XC:=(cq [ oa 4 (.mov (.c (.raw (.pointer none)))),oj 5 (iI 0)] (.seq (cq [ ov 14 0,oa 15 (.ex (.eqP false) [.t 14,(.c (.raw (.pointer none)))]),ov 16 15,oc 17 (xmw 1) 16 false,oc 18 (xbc .lss 17 (iI 0)) 16 false,oa 19 (.pick (.t 16) (.c iT) (.t 18)),ov 20 19,oc 21 (xmw 1) 20 false,oc 22 (xbc .geq 21 (iI 16)) 20 false,oa 23 (.pick (.t 20) (.c iT) (.t 22))] (cn 23 (cq [ oa 4 (.mov (.c (.raw (.pointer none)))),oj 5 (iI 1)] .ret) .skip)) (cq [ ov 24 0,ov 25 1,oa 26 (xbc .mul 25 (iI 1048576)),oa 27 (.build [(.raw (.pointer none)),(iI 0),.nsl,(iI 0),.nsl,iF,iF] [(0,(1,(.t 24))),(1,(1,(.t 26)))]),oa 28 (.box (.t 27)),ov 6 28] (.seq (cq [ ov 29 0,oa 30 (xca 81 [.t 29]),oa 31 (.len (.t 30)),oj 32 (iI 0)] (.block 0 (.loop (cq [ oa 33 (xbi .lss 32 31)] (.seq (cn 33 .skip (.exit 0)) (.seq (.block 1 (cq [ oa 34 (xix 1 30 32),ol 35 34,ov 8 35] (.seq (cq [ ov 36 8,ov 37 6,og 38 37,oe 39 1 38,ol 40 39,oa 41 (xbi .lss 36 40),ov 42 41,oc 43 (xmw 8) 42 false,oc 44 (xmw 6) 42 false,oc 45 (xnk 44) 42 false,oc 46 (xfa 1 45) 42 false,oc 47 (xld 46) 42 false,oc 48 (xbc .add 47 (iI 1048576)) 42 false,oc 49 (xbi .geq 43 48) 42 false,oa 50 (.pick (.t 42) (.c iT) (.t 49))] (cn 50 (.exit 1) .skip)) (cq [ ov 52 6,ov 53 8,oa 54 (xca 82 [.t 52,.t 53]),ov 51 54,ox 55 51 0,ox 56 51 1,oa 9 (.alloc [(iI 0),(iI 0),(iI 0),(iI 0),iF,(iI 0),(iI 0),(iI 0)]),ob (.store 8 (.t 9) (.t 55)),ov 10 56] (.seq (cq [ ov 57 10,oa 58 (.un .not (.t 57))] (cn 58 (cq [ ov 59 6,og 60 59,oe 61 6 60,ob (.store 1 (.t 61) (.c iT))] (.exit 1)) .skip)) (.drawR [(ov 62 6,([],false)),(ov 63 6,([],false)),(og 64 63,([],false)),(oe 65 2 64,([],false)),(ol 66 65,([],true)),(oa 67 (xln 8 9),([],false)),(oa 68 (.bslice 8 [(iI 0),(iI 0),(iI 0),(iI 0),iF,(iI 0),(iI 0),(iI 0)] 1 [(0,(.t 67))]),([4],false)),(oa 69 (.append 8 64 (.t 66) (.t 68)),([],false)),(og 70 62,([],false)),(oe 71 2 70,([],false)),(ob (xs1 71 69),([],false))])))))) (.ops [ oa 72 (xbc .add 32 (iI 1)),ov 32 72]))))))) (cq [ ov 73 6,og 74 73,oe 75 2 74,ol 76 75,oa 77 (xca 83 [.t 76,(.f 84)])] (.seq (cq [ ov 78 6,og 79 78,oe 80 2 79,ol 81 80,oa 82 (.len (.t 81)),oj 83 (iI 0)] (.block 2 (.loop (cq [ oa 84 (xbi .lss 83 82)] (.seq (cn 84 .skip (.exit 2)) (.seq (.block 3 (cq [ ov 85 83,ov 11 85] (cq [ oj 12 (iI 1099511627776)] (.seq (cq [ ov 86 11,oa 87 (xbc .add 86 (iI 1)),ov 88 6,og 89 88,oe 90 2 89,ol 91 90,oa 92 (.len (.t 91)),oa 93 (xbi .lss 87 92)] (cn 93 (.ops [ ov 94 6,og 95 94,oe 96 2 95,ol 97 96,ov 98 11,oa 99 (xbc .add 98 (iI 1)),oa 100 (xix 8 97 99),oe 101 0 100,oe 102 1 101,ol 103 102,ov 12 103]) .skip)) (.ops [ ov 104 6,ov 105 6,og 106 105,oe 107 2 106,ol 108 107,ov 109 11,oa 110 (xix 8 108 109),ov 111 12,oa 112 (xca 86 [.t 104,.t 110,.t 111])]))))) (.ops [ oa 113 (xbc .add 83 (iI 1)),ov 83 113]))))))) (.seq (cq [ ov 114 6,og 115 114,oe 116 2 115,ol 117 116,oa 118 (.len (.t 117)),oa 119 (xbc .gtr 118 (iI 0))] (cn 119 (.seq (.drawE [ ov 120 6,og 121 120,oe 122 2 121,ol 123 122,ov 124 6,og 125 124,oe 126 2 125,ol 127 126,oa 128 (.len (.t 127)),oa 129 (xbc .sub 128 (iI 1)),oa 130 (xix 8 123 129),oa 131 (xln 8 130),oa 13 (.alloc [(iI 0),(iI 0),(iI 0),(iI 0),iF,(iI 0),(iI 0),(iI 0)]),ob (.store 8 (.t 13) (.t 131))]) (.drawE [ ov 132 6,ov 133 6,og 134 133,oe 135 6 134,ol 136 135,ov 137 136,oc 138 (xfa 6 13) 137 false,oc 139 (xld 138) 137 false,oc 140 (xmw 0) 137 false,oc 141 (xfa 5 13) 137 false,oc 142 (xld 141) 137 false,oc 143 (xcp 87 [.t 140,.t 142]) 137 false,oc 144 (.len (.t 143)) 137 false,oc 145 (xbi .neq 139 144) 137 false,oa 146 (.pick (.t 137) (.c iT) (.t 145)),og 147 132,oe 148 6 147,ob (xs1 148 146)])) .skip)) (cq [ ov 149 6,ov 4 149,oj 5 (iI 0)] .ret))))))))
theorem k47:zi Tryz.prog 47 (pq Tryz.prog Tryz.f47 x47):=trq Tryz.f47 (by rfl) (by kernel_rfl) (by decide) (by kernel_rfl)
noncomputable def x49:XC:=(cq [ oa 1 (.box (.t 0)),oj 2 (.raw .nilFunc)] (cq [ oa 3 (.mkfn (.func 88) [] [.t 1]),ov 2 3] .ret))
theorem k49:zi Tryz.prog 49 (pq Tryz.prog Tryz.f49 x49):=trq Tryz.f49 (by rfl) (by kernel_rfl) (by decide) (by kernel_rfl)
noncomputable def x54:XC:=(cq [ oa 8 (.mov (.c (.raw (.pointer none)))),oj 9 (iI 0)] (.seq (cq [ ov 13 0,oa 14 (.ex (.eqP false) [.t 13,(.c (.raw (.pointer none)))]),ov 15 14,oc 16 (xmw 1) 15 false,oc 17 (.ex (.eqP false) [.t 16,(.c (.raw (.pointer none)))]) 15 false,oa 18 (.pick (.t 15) (.c iT) (.t 17))] (cn 18 (cq [ oa 8 (.mov (.c (.raw (.pointer none)))),oj 9 (iI 1)] .ret) .skip)) (cq [ ov 20 0,ov 21 2,oa 22 (xca 99 [.t 20,.t 21]),ov 19 22,ox 23 19 0,ox 24 19 1,oa 10 (.alloc [(iI 0),(iI 0)]),ob (.store 2 (.t 10) (.t 23)),ov 11 24] (.seq (cq [ ov 25 11,oa 26 (xbc .neq 25 (iI 0))] (cn 26 (cq [ ov 27 11,oa 8 (.mov (.c (.raw (.pointer none)))),ov 9 27] .ret) .skip)) (cq [ ov 29 0,ov 30 2,oa 31 (xln 2 10),ov 32 3,oa 33 (xca 100 [.t 29,.t 30,.t 31,.t 32]),ov 28 33,ox 34 28 0,ox 35 28 1,oa 12 (.alloc [(iI 0),(iI 0)]),ob (.store 2 (.t 12) (.t 34)),ov 11 35] (.seq (cq [ ov 36 11,oa 37 (xbc .eql 36 (iI 0))] (cn 37 (.ops [ ov 38 1,oe 39 1 12,ol 40 39,oa 41 (xca 101 [.t 38,.t 40]),ov 11 41]) .skip)) (.seq (cq [ ov 42 11,oa 43 (xbc .neq 42 (iI 0))] (cn 43 (cq [ ov 44 11,oa 8 (.mov (.c (.raw (.pointer none)))),ov 9 44] .ret) .skip)) (cq [ ov 45 0,ov 46 1,ov 47 2,oa 48 (xln 2 12),oe 49 1 12,ol 50 49,oa 51 (.ex (.itof .f64) [.t 50]),oa 52 (.ex .cpx [.t 51,(.c (.raw (.float .f64 0)))]),oa 53 (.build [(.raw (.pointer none)),(.raw (.pointer none)),(iI 0),(iI 0),(iI 0),(.raw (.complex .f64 0 0)),iF] [(0,(1,(.t 45))),(1,(1,(.t 46))),(2,(1,(.t 47))),(3,(2,(.t 48))),(5,(1,(.t 52))),(6,(1,(.c iT)))]),oa 54 (.box (.t 53)),ov 8 54,oj 9 (iI 0)] .ret))))))))
theorem k54:zi Tryz.prog 54 (pq Tryz.prog Tryz.f54 x54):=trq Tryz.f54 (by rfl) (by kernel_rfl) (by decide) (by kernel_rfl)
noncomputable def x56:XC:=(cq [ oa 1 (.box (.t 0)),oa 2 (.alloc [iS,iS,iS,iS,(iI 0),iS,.nsl,.nsl,(iI 0)])] (cq [ oa 3 (.bslice 3 [(iI 0),(iI 0),iS] 0 []),oe 4 6 1,ol 5 4,oa 6 (.append 3 32 (.t 3) (.t 5)),oe 7 6 1,ob (xs1 7 6)] (cq [ oa 8 (.bslice 2 [iS,iS] 0 []),oe 9 7 1,ol 10 9,oa 11 (.append 2 32 (.t 8) (.t 10)),oe 12 7 1,ob (xs1 12 11)] (cq [ oa 13 (xln 9 1),ob (.store 9 (.t 2) (.t 13))] .ret))))
theorem k56:zi Tryz.prog 56 (pq Tryz.prog Tryz.f56 x56):=trq Tryz.f56 (by rfl) (by kernel_rfl) (by decide) (by kernel_rfl)
noncomputable def x57:XC:=(cq [ oa 3 (.box (.t 1)),oj 4 (iI 0)] (.seq (cq [ oe 5 0 3,ol 6 5,oa 7 (xbc .eql 6 (iI 1))] (cn 7 (.seq (cq [ ov 8 0,og 9 8,oe 10 2 9,oe 11 4 10,ol 12 11,oa 13 (xbc .neq 12 (iI 0))] (cn 13 (cq [ oj 4 (iI 7)] .ret) .skip)) (cq [ ov 14 0,oe 15 2 3,ol 16 15,og 17 14,oe 18 2 17,oe 19 1 18,ob (xs1 19 16)] (cq [ ov 20 0,oe 21 8 3,ol 22 21,oe 23 7 3,ol 24 23,oa 25 (xca 102 [.t 20,(.c (iI 1)),.t 22,.t 24,(.c (iI 0))])] (cq [ ov 26 0,oa 27 (xca 103 [.t 26])] (cq [ oj 4 (iI 0)] .ret))))) .skip)) (.seq (cq [ ov 28 0,og 29 28,oe 30 2 29,oe 31 4 30,ol 32 31,oa 33 (xbc .eql 32 (iI 0))] (cn 33 (cq [ oj 4 (iI 6)] .ret) .skip)) (.seq (cq [ ov 34 0,og 35 34,oe 36 2 35,oe 37 4 36,ol 38 37,oa 39 (xbc .neq 38 (iI 1))] (cn 39 (cq [ oj 4 (iI 11)] .ret) .skip)) (.seq (cq [ oe 40 0 3,ol 41 40] (.block 0 (cq [ oa 43 (xbc .eql 41 (iI 2)),ov 42 43] (cn 42 (cq [ ov 44 0,oa 45 (xln 9 3),oa 46 (xca 104 [.t 44,.t 45]),ov 4 46] .ret) (.seq (cq [ oa 48 (xbc .eql 41 (iI 3)),ov 47 48] (cn 47 .skip (cq [ oa 49 (xbc .eql 41 (iI 4)),ov 47 49] (cn 47 .skip (.ops [ oa 50 (xbc .eql 41 (iI 5)),ov 47 50]))))) (cn 47 (cq [ ov 51 0,oa 52 (xln 9 3),oa 53 (xca 105 [.t 51,.t 52]),ov 4 53] .ret) (cq [ oa 55 (xbc .eql 41 (iI 6)),ov 54 55] (cn 54 (cq [ ov 56 0,oa 57 (xln 9 3),oa 58 (xca 106 [.t 56,.t 57]),ov 4 58] .ret) (cq [ oa 60 (xbc .eql 41 (iI 7)),ov 59 60] (cn 59 (cq [ ov 61 0,oa 62 (xln 9 3),oa 63 (xca 107 [.t 61,.t 62]),ov 4 63] .ret) (cq [ oa 65 (xbc .eql 41 (iI 8)),ov 64 65] (cn 64 (.seq (cq [ oe 66 3 3,ol 67 66,oa 68 (.lenS (.t 67)),oa 69 (xbc .gtr 68 (iI 256))] (cn 69 (cq [ oj 4 (iI 9)] .ret) .skip)) (cq [ ov 70 0,oe 71 3 3,ol 72 71,oa 73 (xca 108 [.t 70,(.c (iI 4)),.t 72])] (cq [ oj 4 (iI 0)] .ret))) .skip)))))))))))) (cq [ oj 4 (iI 1)] .ret))))))
theorem k57:zi Tryz.prog 57 (pq Tryz.prog Tryz.f57 x57):=trq Tryz.f57 (by rfl) (by kernel_rfl) (by decide) (by kernel_rfl)
noncomputable def x58:XC:=(cq [ oa 5 (.box (.t 2)),oj 6 .nsl,oj 7 (iI 0)] (.seq (cq [ ov 25 0,ov 26 1,oa 27 (xca 109 [.t 25,.t 26]),ov 8 27] (cq [ ov 28 8,oa 29 (xbc .neq 28 (iI 0))] (cn 29 (cq [ ov 30 8,oj 6 .nsl,ov 7 30] .ret) .skip))) (.seq (.seq (.drawE [ oe 31 0 5,ol 32 31,oa 33 (xcp 110 [.t 32]),oa 34 (.un .not (.t 33)),ov 35 34,oc 36 (xfa 0 5) 35 false,oc 37 (xld 36) 35 false,oc 38 (xmw 0) 35 false,oc 39 (xnk 38) 35 false,oc 40 (xfa 1 39) 35 false,oc 41 (xld 40) 35 false,oc 42 (xcp 111 [.t 37,.t 41]) 35 false,oc 43 (xmw 0) 35 false,oc 44 (xnk 43) 35 false,oc 45 (xfa 2 44) 35 false,oc 46 (xld 45) 35 false,oc 47 (xbi .neq 42 46) 35 false,oa 48 (.pick (.t 35) (.c iT) (.t 47))]) (cn 48 (cq [ oj 6 .nsl,oj 7 (iI 17)] .ret) .skip)) (cq [ ov 50 0,oe 51 0 5,ol 52 51,oa 53 (xca 40 [.t 50,.t 52]),ov 49 53,ox 54 49 0,ox 55 49 1,ov 9 54,ov 10 55] (.seq (cq [ ov 56 0,oa 57 (xln 17 5),ov 58 9,ov 59 10,oa 60 (xca 112 [.t 56,.t 57,.t 58,.t 59]),ov 11 60] (cq [ ov 61 11,oa 62 (xbc .neq 61 (iI 0))] (cn 62 (cq [ ov 63 11,oj 6 .nsl,ov 7 63] .ret) .skip))) (cq [ ov 64 0,oa 65 (xca 113 [.t 64]),ov 12 65] (.seq (cq [ oe 66 2 5,ol 67 66,oa 68 (.len (.t 67)),oj 69 (iI 0)] (.block 0 (.loop (cq [ oa 70 (xbi .lss 69 68)] (.seq (cn 70 .skip (.exit 0)) (.seq (.block 1 (cq [ ov 71 69,oa 72 (xix 4 67 69),oa 73 (xln 4 72),oa 14 (.alloc [(iI 0),iS,iS,(iI 0)]),ov 13 71,ob (.store 4 (.t 14) (.t 73))] (cq [ oa 75 (xln 4 14),oa 76 (xca 114 [.t 75]),ov 74 76,ox 77 74 0,ox 78 74 1,ov 15 77,ov 16 78] (cq [ ov 79 12,ov 80 15,ov 81 16,oa 82 (xca 115 [.t 79,.t 80,.t 81])] (.ops [ ov 83 12,ov 84 9,oe 85 1 5,ol 86 85,ov 87 13,oa 88 (xbi .add 86 87),oa 89 (xca 117 [.t 84,.t 88]),ov 90 15,oa 91 (xca 116 [.t 83,.t 89,.t 90])]))))) (.ops [ oa 92 (xbc .add 69 (iI 1)),ov 69 92]))))))) (cq [ oe 94 3 5,oa 95 (xln 9 94),oa 96 (xca 118 [.t 95]),ov 93 96,ox 97 93 0,ox 98 93 1,ov 17 97,ov 18 98] (cq [ ov 99 12,ov 100 17,ov 101 18,oa 102 (xca 115 [.t 99,.t 100,.t 101])] (.seq (.drawE [ ov 103 12,ov 104 9,oa 105 (xcp 119 [.t 104]),oe 106 0 5,ol 107 106,oa 108 (.ex (.strB 5) [.t 107]),oa 109 (xca 116 [.t 103,.t 105,.t 108])]) (cq [ ov 110 12,ov 111 9,oa 112 (xca 42 [.t 111]),ov 113 17,oa 114 (xca 116 [.t 110,.t 112,.t 113])] (.seq (cq [ oe 115 12 5,ol 116 115,oa 117 (.len (.t 116)),oj 118 (iI 0)] (.block 2 (.loop (cq [ oa 119 (xbi .lss 118 117)] (.seq (cn 119 .skip (.exit 2)) (.seq (.block 3 (cq [ oa 120 (xix 13 116 118),oa 121 (xln 13 120),oa 20 (.alloc [(iI 0),(.raw (.complex .f64 0 0)),iS,iS,(iI 0),(iI 0),(iI 0),iS,iS,iS,iS,iS,(iI 0)]),ob (.store 13 (.t 20) (.t 121))] (cq [ oa 123 (xln 13 20),oa 124 (xca 120 [.t 123]),ov 122 124,ox 125 122 0,ox 126 122 1,ov 21 125,ov 22 126] (cq [ ov 127 12,ov 128 21,ov 129 22,oa 130 (xca 115 [.t 127,.t 128,.t 129])] (cq [ oe 131 0 20,ol 132 131,oa 133 (xbc .eql 132 (iI 3))] (cn 133 (.ops [ ov 134 12,oe 135 6 20,oa 136 (xln 7 135),oa 137 (xca 121 [.t 134,.t 136])]) .skip)))))) (.ops [ oa 138 (xbc .add 118 (iI 1)),ov 118 138]))))))) (.seq (cq [ ov 139 12,og 140 139,oe 141 4 140,ol 142 141,ov 143 142,oc 144 (xmw 12) 143 false,oc 145 (xnk 144) 143 false,oc 146 (xfa 3 145) 143 false,oc 147 (xld 146) 143 false,oc 148 (xbc .gtr 147 (iI 65000)) 143 false,oa 149 (.pick (.t 143) (.c iT) (.t 148)),ov 150 149,oc 151 (xfa 14 5) 150 false,oc 152 (xld 151) 150 false,oc 153 (.lenS (.t 152)) 150 false,oc 154 (xbc .gtr 153 (iI 4096)) 150 false,oa 155 (.pick (.t 150) (.c iT) (.t 154))] (cn 155 (cq [ oj 6 .nsl,oj 7 (iI 2)] .ret) .skip)) (cq [ ov 157 12,ov 158 1,oe 159 12 5,ol 160 159,oa 161 (xca 122 [.t 157,.t 158,.t 160]),ov 156 161,ox 162 156 0,ox 163 156 1,ov 23 162,ov 18 163] (.seq (cq [ ov 164 18,oa 165 (xbc .neq 164 (iI 0))] (cn 165 (cq [ ov 166 18,oj 6 .nsl,ov 7 166] .ret) .skip)) (.seq (cq [ oe 167 16 5,ol 168 167,oa 169 (xbc .gtr 168 (iI 0))] (cn 169 (.drawE [ ov 170 12,oe 171 15 5,ol 172 171,oa 173 (xcp 46 [.t 172]),oe 174 16 5,ol 175 174,oa 176 (xca 123 [.t 170,.t 173,.t 175])]) .skip)) (.seq (cq [ oe 177 13 5,ol 178 177,oa 179 (xbc .neq 178 iS)] (cn 179 (.ops [ ov 180 12,ov 181 9,oe 182 13 5,ol 183 182,oe 184 14 5,ol 185 184,oa 186 (xca 124 [.t 180,.t 181,.t 183,.t 185])]) .skip)) (.seq (cq [ ov 187 1,ov 188 12,og 189 188,oe 190 1 189,ol 191 190,oa 192 (xca 125 [.t 187,.t 191]),ov 24 192] (cq [ ov 193 24,oa 194 (xbc .neq 193 (iI 0))] (cn 194 (cq [ ov 195 24,oj 6 .nsl,ov 7 195] .ret) .skip))) (cq [ ov 196 23,ov 6 196,oj 7 (iI 0)] .ret)))))))))))))))))))
theorem k58:zi Tryz.prog 58 (pq Tryz.prog Tryz.f58 x58):=trq Tryz.f58 (by rfl) (by kernel_rfl) (by decide) (by kernel_rfl)
noncomputable def x65:XC:=(cq [ oj 4 iF] (cq [ ov 5 1,oa 6 (xbc .geq 5 (iI 0)),ov 7 6,oc 8 (xmw 1) 7 true,oc 9 (xmw 0) 7 true,oc 10 (xnk 9) 7 true,oc 11 (xfa 0 10) 7 true,oc 12 (xld 11) 7 true,oc 13 (xbi .lss 8 12) 7 true,oa 14 (.pick (.t 7) (.t 13) (.c iF)),ov 4 14] .ret))
theorem k65:zi Tryz.prog 65 (pq Tryz.prog Tryz.f65 x65):=trq Tryz.f65 (by rfl) (by kernel_rfl) (by decide) (by kernel_rfl)
noncomputable def x67:XC:=(cq [ oj 2 iF] (cq [ ov 3 0,og 4 3,oe 5 6 4,ol 6 5,ov 2 6] .ret))
theorem k67:zi Tryz.prog 67 (pq Tryz.prog Tryz.f67 x67):=trq Tryz.f67 (by rfl) (by kernel_rfl) (by decide) (by kernel_rfl)
noncomputable def x71:XC:=(cq [ oa 3 (.box (.t 1))] (.seq (.drawE [ oe 5 1 3,ol 6 5,ov 7 0,og 8 7,oe 9 0 8,ol 10 9,oa 11 (xcp 11 [.t 6,.t 10]),ov 4 11]) (.seq (.drawE [ ov 12 0,ov 13 4,og 14 12,oe 15 22 14,oa 16 (.idxA 16 1 (.t 15) (.t 13)),ol 17 16,oa 18 (xbc .add 17 (iI 1)),og 19 12,oe 20 22 19,oa 21 (.idxA 16 1 (.t 20) (.t 13)),ob (xs1 21 18)]) (.drawR [(ov 22 0,([],false)),(ov 23 4,([],false)),(oa 24 (.bslice 11 [(iI 0),(iI 0),(iI 0),(iI 0),(iI 0),iS,iS,iS,iS,iS,(iI 0)] 0 []),([],true)),(ov 25 0,([],false)),(ov 26 4,([],false)),(og 27 25,([],false)),(oe 28 6 27,([],false)),(oa 29 (.idxA 16 1 (.t 28) (.t 26)),([],false)),(ol 30 29,([2],true)),(oa 31 (.append 11 128 (.t 24) (.t 30)),([],true)),(ov 32 0,([],false)),(og 33 32,([],false)),(oe 34 1 33,([],false)),(ol 35 34,([2,9],false)),(ov 36 4,([],false)),(ov 37 0,([],false)),(ov 38 4,([],false)),(og 39 37,([],false)),(oe 40 22 39,([],false)),(oa 41 (.idxA 16 1 (.t 40) (.t 38)),([],false)),(ol 42 41,([2,9],false)),(oa 43 (xln 7 3),([2,9],false)),(oa 44 (.build [(iI 0),(iI 0),(iI 0),(iI 0),(iI 0),iS,iS,iS,iS,iS,(iI 0)] [(0,(1,(.c (iI 1)))),(1,(1,(.t 35))),(2,(1,(.t 36))),(3,(1,(.t 42))),(4,(7,(.t 43)))]),([],false)),(oa 45 (.bslice 11 [(iI 0),(iI 0),(iI 0),(iI 0),(iI 0),iS,iS,iS,iS,iS,(iI 0)] 1 [(0,(.t 44))]),([2,8,9],false)),(oa 46 (.append 11 128 (.t 31) (.t 45)),([],false)),(og 47 22,([],false)),(oe 48 6 47,([],false)),(oa 49 (.idxA 16 1 (.t 48) (.t 23)),([],false)),(ob (xs1 49 46),([],false))]))))
theorem k71:zi Tryz.prog 71 (pq Tryz.prog Tryz.f71 x71):=trq Tryz.f71 (by rfl) (by kernel_rfl) (by decide) (by kernel_rfl)
noncomputable def x75:XC:=(cq [ oj 6 iS] (cq [ ov 8 0,ov 9 1,oa 10 (xca 147 [.t 8,.t 9]),ov 7 10] (cq [ ov 11 2,ov 12 7,oa 13 (.lenS (.t 12)),oa 14 (xbi .sub 11 13),oa 15 (.max2 (.c (iI 0)) (.t 14)),oa 16 (xca 148 [(.c (.str [48])),.t 15]),ov 17 7,oa 18 (xbi .add 16 17),ov 6 18] .ret)))
theorem k75:zi Tryz.prog 75 (pq Tryz.prog Tryz.f75 x75):=trq Tryz.f75 (by rfl) (by kernel_rfl) (by decide) (by kernel_rfl)
noncomputable def x81:XC:=(cq [ oj 2 .nsl] (cq [ ov 3 0,og 4 3,oe 5 0 4,ol 6 5,oa 7 (xca 152 [.t 6]),oa 8 (xca 151 [.t 7]),ov 2 8] .ret))
theorem k81:zi Tryz.prog 81 (pq Tryz.prog Tryz.f81 x81):=trq Tryz.f81 (by rfl) (by kernel_rfl) (by decide) (by kernel_rfl)
noncomputable def x85:XC:=(cq [ oj 4 (iI 0)] (cq [ ov 7 0,oa 8 (xca 159 [.t 7]),ov 5 8] (cq [ ov 9 1,oa 10 (xca 159 [.t 9]),ov 6 10] (.seq (cq [ ov 11 5] (cn 11 (.seq (cq [ ov 12 6] (cn 12 (cq [ oj 4 (iI 0)] .ret) .skip)) (cq [ oa 4 (.mov (.c (iI (-1))))] .ret)) .skip)) (.seq (cq [ ov 13 6] (cn 13 (cq [ oj 4 (iI 1)] .ret) .skip)) (.seq (cq [ ov 14 0,ov 15 1,oa 16 (xbi .lss 14 15)] (cn 16 (cq [ oa 4 (.mov (.c (iI (-1))))] .ret) .skip)) (.seq (cq [ ov 17 0,ov 18 1,oa 19 (xbi .gtr 17 18)] (cn 19 (cq [ oj 4 (iI 1)] .ret) .skip)) (cq [ oj 4 (iI 0)] .ret))))))))
theorem k85:zi Tryz.prog 85 (pq Tryz.prog Tryz.f85 x85):=trq Tryz.f85 (by rfl) (by kernel_rfl) (by decide) (by kernel_rfl)
noncomputable def x89:XC:=(cq [ oj 2 .nsl] (.seq (cq [ ov 3 0,oa 4 (.isNil 0 false (.t 3))] (cn 4 (cq [ oj 2 .nsl] .ret) .skip)) (cq [ oa 5 (.bslice 1 [.nsl] 0 []),ov 6 0,oa 7 (.append 1 24 (.t 5) (.t 6)),ov 2 7] .ret)))
theorem k89:zi Tryz.prog 89 (pq Tryz.prog Tryz.f89 x89):=trq Tryz.f89 (by rfl) (by kernel_rfl) (by decide) (by kernel_rfl)
noncomputable def x97:XC:=(cq [ oj 6 .nsl] (cq [ ov 8 0,ov 9 1,ov 10 2,ov 11 0,oa 12 (.len (.t 11)),oa 13 (.ex (.sl3 1) [.t 8,.t 9,.t 10,.t 12])] (.seq (cq [ ov 14 1,ov 15 2,oa 16 (xbi .eql 14 15)] (cn 16 (cq [ ov 17 0,ov 6 17] .ret) .skip)) (cq [ ov 18 0,oa 19 (.len (.t 18)),ov 7 19] (.seq (.drawR [(ov 20 0,([],false)),(ov 21 1,([],false)),(oa 22 (.slice 1 (.t 20) none (some (.t 21))),([],false)),(ov 23 0,([],false)),(ov 24 2,([],false)),(oa 25 (.slice 1 (.t 23) (some (.t 24)) none),([],false)),(oa 26 (.append 1 16 (.t 22) (.t 25)),([],false)),(ov 0 26,([],false))]) (cq [ ov 27 0,ov 28 0,oa 29 (.len (.t 28)),ov 30 7,oa 31 (.slice 1 (.t 27) (some (.t 29)) (some (.t 30))),ob (.ex (.clr [iS]) [.t 31])] (cq [ ov 32 0,ov 6 32] .ret)))))))
theorem k97:zi Tryz.prog 97 (pq Tryz.prog Tryz.f97 x97):=trq Tryz.f97 (by rfl) (by kernel_rfl) (by decide) (by kernel_rfl)
noncomputable def x98:XC:=(cq [ oj 6 .nsl] (cq [ ov 10 0,ov 11 1,oa 12 (.slice 1 (.t 10) (some (.t 11)) none)] (cq [ ov 13 2,oa 14 (.len (.t 13)),ov 7 14] (.seq (cq [ ov 15 7,oa 16 (xbc .eql 15 (iI 0))] (cn 16 (cq [ ov 17 0,ov 6 17] .ret) .skip)) (cq [ ov 18 0,oa 19 (.len (.t 18)),ov 8 19] (.seq (cq [ ov 20 1,ov 21 8,oa 22 (xbi .eql 20 21)] (cn 22 (cq [ ov 23 0,ov 24 2,oa 25 (.append 1 16 (.t 23) (.t 24)),ov 6 25] .ret) .skip)) (.seq (.seq .bad (cn 31 (.seq .bad (cq [ ov 41 9,ov 42 1,oa 43 (.slice 1 (.t 41) (some (.t 42)) none),ov 44 2,oa 45 (.ex (.copy 1) [.t 43,.t 44])] (.seq (.drawE [ ov 46 9,ov 47 1,ov 48 7,oa 49 (xbi .add 47 48),oa 50 (.slice 1 (.t 46) (some (.t 49)) none),ov 51 0,ov 52 1,oa 53 (.slice 1 (.t 51) (some (.t 52)) none),oa 54 (.ex (.copy 1) [.t 50,.t 53])]) (cq [ ov 55 9,ov 6 55] .ret)))) .skip)) (cq [ ov 56 0,ov 57 8,ov 58 7,oa 59 (xbi .add 57 58),oa 60 (.slice 1 (.t 56) none (some (.t 59))),ov 0 60] (.seq (cq [ ov 61 2,ov 62 0,ov 63 1,ov 64 7,oa 65 (xbi .add 63 64),oa 66 (.slice 1 (.t 62) (some (.t 65)) none),oa 67 (xca 166 [.t 61,.t 66]),oa 68 (.un .not (.t 67))] (cn 68 (.seq (.drawE [ ov 69 0,ov 70 1,ov 71 7,oa 72 (xbi .add 70 71),oa 73 (.slice 1 (.t 69) (some (.t 72)) none),ov 74 0,ov 75 1,oa 76 (.slice 1 (.t 74) (some (.t 75)) none),oa 77 (.ex (.copy 1) [.t 73,.t 76])]) (cq [ ov 78 0,ov 79 1,oa 80 (.slice 1 (.t 78) (some (.t 79)) none),ov 81 2,oa 82 (.ex (.copy 1) [.t 80,.t 81])] (cq [ ov 83 0,ov 6 83] .ret))) .skip)) (cq [ ov 84 0,ov 85 8,oa 86 (.slice 1 (.t 84) (some (.t 85)) none),ov 87 2,oa 88 (.ex (.copy 1) [.t 86,.t 87])] (cq [ ov 89 0,ov 90 1,oa 91 (.slice 1 (.t 89) (some (.t 90)) none),ov 92 7,oa 93 (xca 167 [.t 91,.t 92])] (cq [ ov 94 0,ov 6 94] .ret))))))))))))
theorem k98:zi Tryz.prog 98 (pq Tryz.prog Tryz.f98 x98):=trq Tryz.f98 (by rfl) (by kernel_rfl) (by decide) (by kernel_rfl)
noncomputable def x101:XC:=(cq [ oj 4 (iI 0)] (.seq (cq [ ov 7 1,ov 8 0,og 9 8,oe 10 1 9,ol 11 10,oa 12 (xbi .leq 7 11)] (cn 12 (cq [ oj 4 (iI 5)] .ret) .skip)) (.seq (cq [ ov 13 1,oa 14 (xbc .gtr 13 (iI 4503599627370496))] (cn 14 (cq [ oj 4 (iI 1)] .ret) .skip)) (.seq (.seq (.drawE [ ov 16 0,og 17 16,oe 18 0 17,ol 19 18,ov 20 1,oa 21 (xcp 172 [(.c (.int .u8 102)),.t 20]),oa 22 (xca 171 [.t 19,.t 21]),ov 15 22,ox 23 15 0,ox 24 15 1,ov 5 23,ov 6 24]) (cq [ ov 25 6,oa 26 (xbc .neq 25 (iI 0))] (cn 26 (cq [ ov 27 6,ov 4 27] .ret) .skip))) (cq [ ov 28 0,ov 29 1,og 30 28,oe 31 1 30,ob (xs1 31 29)] (cq [ ov 32 0,og 33 32,oe 34 5 33,ol 35 34,oa 36 (xbc .add 35 (iI 1)),og 37 32,oe 38 5 37,ob (xs1 38 36)] (cq [ oj 4 (iI 0)] .ret)))))))
theorem zhq:zi Tryz.prog 101 (pq Tryz.prog Tryz.f101 x101):=trq Tryz.f101 (by rfl) (by kernel_rfl) (by decide) (by kernel_rfl)
noncomputable def x109:XC:=(cq [ oj 4 (iI 0)] (.seq (.block 0 (.seq (.drawE [ ov 6 1,oa 7 (.ex (.eqP false) [.t 6,(.c (.raw (.pointer none)))]),ov 8 7,oc 9 (xmw 1) 8 false,oc 10 (xcp 63 [.t 9]) 8 false,oc 11 (xmw 0) 8 false,oc 12 (xnk 11) 8 false,oc 13 (xfa 2 12) 8 false,oc 14 (xld 13) 8 false,oc 15 (xbi .neq 10 14) 8 false,oa 16 (.pick (.t 8) (.c iT) (.t 15)),ov 5 16]) (cn 5 (cq [ oj 4 (iI 1)] .ret) (cq [ ov 18 1,oa 19 (xca 67 [.t 18]),oa 20 (.un .not (.t 19)),ov 17 20] (cn 17 (cq [ oj 4 (iI 13)] .ret) .skip))))) (cq [ oj 4 (iI 0)] .ret)))
theorem zjI:zi Tryz.prog 109 (pq Tryz.prog Tryz.f109 x109):=trq Tryz.f109 (by rfl) (by kernel_rfl) (by decide) (by kernel_rfl)
noncomputable def x113:XC:=(cq [ oa 2 (.mov (.c (.raw (.pointer none))))] (cq [ ov 3 0,oa 4 (.ex .mmake []),oa 5 (.build [(.raw (.pointer none)),.nsl,(.raw (.map none)),(iI 0),iF] [(0,(1,(.t 3))),(2,(1,(.t 4)))]),oa 6 (.box (.t 5)),ov 2 6] .ret))
theorem zkE:zi Tryz.prog 113 (pq Tryz.prog Tryz.f113 x113):=trq Tryz.f113 (by rfl) (by kernel_rfl) (by decide) (by kernel_rfl)
noncomputable def x118:XC:=(cq [ oa 1 (.box (.t 0)),oj 2 .nsl,oj 3 (iI 0)] (cq [ oa 4 (.mkfn (.func 189) [] [.t 1]),oa 5 (xca 183 [.t 4]),ox 6 5 0,ox 7 5 1,ov 2 6,ov 3 7] .ret))
theorem zlK:zi Tryz.prog 118 (pq Tryz.prog Tryz.f118 x118):=trq Tryz.f118 (by rfl) (by kernel_rfl) (by decide) (by kernel_rfl)
noncomputable def x119:XC:=(cq [ oj 2 iS] (cq [ ov 3 0,oa 4 (xca 75 [.t 3,(.c (iI 10)),(.c (iI 3))]),oa 5 (.bin .add (.c (.str [110,47])) (.t 4)),ov 2 5] .ret))
theorem zkN:zi Tryz.prog 119 (pq Tryz.prog Tryz.f119 x119):=trq Tryz.f119 (by rfl) (by kernel_rfl) (by decide) (by kernel_rfl)
noncomputable def x121:XC:=(cq [ oa 3 (.box (.t 1)),oj 4 (iI 0)] (.seq (.drawE [ oe 13 1 3,ol 14 13,ov 15 0,og 16 15,oe 17 0 16,ol 18 17,og 19 18,oe 20 1 19,ol 21 20,oa 22 (xcp 111 [.t 14,.t 21]),ov 5 22]) (.seq (cq [ ov 24 0,og 25 24,oe 26 2 25,ol 27 26,ov 28 5,oa 29 (.ex (.mlook false (iI 0) true) [.t 27,.t 28]),ov 23 29,ox 30 23 0,ox 31 23 1,ov 6 30,ov 7 31] (cq [ ov 32 7,oa 33 (.un .not (.t 32))] (cn 33 (.drawE [ ov 34 0,og 35 34,oe 36 2 35,ol 37 36,ov 38 5,ov 39 0,og 40 39,oe 41 0 40,ol 42 41,ov 43 5,oa 44 (xcp 131 [.t 42,.t 43]),ob (.ex (.mset false) [.t 37,.t 38,.t 44])]) .skip))) (cq [ ov 45 0,og 46 45,oe 47 2 46,ol 48 47,ov 49 5,oa 50 (.ex (.mlook false (iI 0) false) [.t 48,.t 49]),oa 51 (xbc .add 50 (iI 1)),ob (.ex (.mset false) [.t 48,.t 49,.t 51])] (cq [ oa 52 (xln 7 3),oa 53 (.build [(iI 0),(iI 0),(iI 0),(iI 0),(iI 0),iS,iS,iS,iS,iS,(iI 0)] [(0,(1,(.c (iI 1)))),(4,(7,(.t 52)))]),oa 8 (.alloc [(iI 0),(iI 0),(iI 0),(iI 0),(iI 0),iS,iS,iS,iS,iS,(iI 0)]),ob (.store 11 (.t 8) (.t 53))] (cq [ oa 55 (xln 11 8),oa 56 (xca 195 [.t 55]),ov 54 56,ox 57 54 0,ox 58 54 1,ov 9 57,ov 10 58] (cq [ ov 59 0,ov 60 0,og 61 60,oe 62 4 61,ol 63 62,ov 64 63,oc 65 (xmw 10) 64 false,oc 66 (xbc .neq 65 (iI 0)) 64 false,oa 67 (.pick (.t 64) (.c iT) (.t 66)),ov 68 67,oc 69 (xfa 1 3) 68 false,oc 70 (xld 69) 68 false,oc 71 (xca 110 [.t 70]) 68 false,oc 72 (.un .not (.t 71)) 68 false,oa 73 (.pick (.t 68) (.c iT) (.t 72)),og 74 59,oe 75 4 74,ob (xs1 75 73)] (.seq (.drawR [(ov 76 0,([],false)),(og 77 76,([],false)),(oe 78 0 77,([],false)),(ol 79 78,([],false)),(og 80 79,([],false)),(oe 81 2 80,([],false)),(ol 82 81,([],false)),(ov 83 5,([],false)),(ov 84 0,([],false)),(og 85 84,([],false)),(oe 86 2 85,([],false)),(ol 87 86,([],true)),(ov 88 5,([],false)),(oa 89 (.ex (.mlook false (iI 0) false) [.t 87,.t 88]),([],true)),(oe 90 1 8,([],false)),(ob (xs1 90 82),([11,13],false)),(oe 91 2 8,([],false)),(ob (xs1 91 83),([11,13],false)),(oe 92 3 8,([],false)),(ob (xs1 92 89),([],false))]) (cq [ oa 94 (xln 11 8),oa 95 (xca 195 [.t 94]),ov 93 95,ox 96 93 0,ox 97 93 1,ov 11 96,ov 12 97] (cq [ ov 98 0,ov 99 5,ov 100 0,og 101 100,oe 102 2 101,ol 103 102,ov 104 5,oa 105 (.ex (.mlook false (iI 0) false) [.t 103,.t 104]),oa 106 (xca 133 [.t 99,.t 105]),ov 107 11,oa 108 (xca 116 [.t 98,.t 106,.t 107])] (.seq (.drawE [ ov 109 0,ov 110 5,oa 111 (xcp 196 [.t 110]),ov 112 0,og 113 112,oe 114 2 113,ol 115 114,ov 116 5,oa 117 (.ex (.mlook false (iI 0) false) [.t 115,.t 116]),oa 118 (xca 123 [.t 109,.t 111,.t 117])]) (cq [ ov 119 9,oa 120 (.len (.t 119)),ov 4 120] .ret))))))))))))
theorem ziF:zi Tryz.prog 121 (pq Tryz.prog Tryz.f121 x121):=trq Tryz.f121 (by rfl) (by kernel_rfl) (by decide) (by kernel_rfl)
noncomputable def x125:XC:=(cq [ oj 4 (iI 0)] (.seq (cq [ ov 6 0,og 7 6,oe 8 6 7,ol 9 8,oa 10 (.un .not (.t 9))] (cn 10 (cq [ oj 4 (iI 13)] .ret) .skip)) (.seq (.drawE [ ov 11 0,og 12 11,oe 13 1 12,ol 14 13,ov 15 0,og 16 15,oe 17 3 16,oe 18 1 17,ol 19 18,ov 20 1,oa 21 (xca 209 [.t 14,.t 19,.t 20]),ov 5 21]) (cq [ ov 22 0,ov 23 5,oa 24 (xbc .neq 23 (iI 5)),og 25 22,oe 26 6 25,ob (xs1 26 24)] (cq [ ov 27 5,ov 4 27] .ret)))))
theorem zjt:zi Tryz.prog 125 (pq Tryz.prog Tryz.f125 x125):=trq Tryz.f125 (by rfl) (by kernel_rfl) (by decide) (by kernel_rfl)
noncomputable def x128:XC:=(cq [ oa 4 (.alloc [(iI 0),(iI 0),(iI 0),(iI 0),(iI 0),iS,iS,iS,iS,iS,(iI 0)]),oa 5 (.alloc [(iI 0)]),oa 6 (.alloc [(iI 0)])] (.seq .bad (cq [ ov 9 0,oa 10 (.build [.nsl,(iI 0)] [(0,(1,(.t 9)))]),oa 11 (.box (.t 10)),ov 7 11] (cq [ ov 12 1,ov 13 7,oa 14 (.call (.t 12) [.t 13]),ob (.store 11 (.t 4) (.t 14))] (.seq (cq [ ov 15 7,og 16 15,oe 17 1 16,ol 18 17,ov 19 0,oa 20 (.len (.t 19)),oa 21 (xbi .lss 18 20)] (cn 21 (.ops [ ov 22 7,ov 23 7,og 24 23,oe 25 1 24,ol 26 25,oa 27 (xca 150 [.t 22,.t 26])]) .skip)) (cq [ oa 28 (xln 11 4),ob (.store 11 (.t 4) (.t 28)),ob (.store 1 (.t 5) (.c (iI 0))),ob (.store 1 (.t 6) (.c (iI 0)))] .ret))))))
theorem zlp:zi Tryz.prog 128 (pq Tryz.prog Tryz.f128 x128):=trq Tryz.f128 (by rfl) (by kernel_rfl) (by decide) (by kernel_rfl)
noncomputable def x137:XC:=(cq [ oj 6 iF] (.seq (cq [ oj 7 (iI 0)] (.block 0 (.loop (.seq (cq [ ov 9 7,ov 10 0,oa 11 (.lenS (.t 10)),oa 12 (xbi .lss 9 11)] (cn 12 .skip (.exit 0))) (.seq (.block 1 (cq [ ov 15 0,ov 16 7,oa 17 (.idx (.t 15) (.t 16)),ov 8 17] (cq [ ov 18 8,oa 19 (xbc .geq 18 (.int .u8 97)),ov 20 19,oc 21 (xmw 8) 20 true,oc 22 (xbc .leq 21 (.int .u8 122)) 20 true,oa 23 (.pick (.t 20) (.t 22) (.c iF)),ov 24 23,oc 25 (xmw 8) 24 false,oc 26 (xbc .geq 25 (.int .u8 65)) 24 false,oc 27 (xmw 26) 24 false,oc 28 (xmw 8) 27 true,oc 29 (xbc .leq 28 (.int .u8 90)) 27 true,oc 30 (.pick (.t 27) (.t 29) (.c iF)) 24 false,oa 31 (.pick (.t 24) (.c iT) (.t 30)),ov 32 31,oc 33 (xmw 8) 32 false,oc 34 (xbc .geq 33 (.int .u8 48)) 32 false,oc 35 (xmw 34) 32 false,oc 36 (xmw 8) 35 true,oc 37 (xbc .leq 36 (.int .u8 57)) 35 true,oc 38 (.pick (.t 35) (.t 37) (.c iF)) 32 false,oa 39 (.pick (.t 32) (.c iT) (.t 38)),ov 40 39,oc 41 (xmw 8) 40 false,oc 42 (xbc .eql 41 (.int .u8 46)) 40 false,oa 43 (.pick (.t 40) (.c iT) (.t 42)),ov 44 43,oc 45 (xmw 8) 44 false,oc 46 (xbc .eql 45 (.int .u8 45)) 44 false,oa 47 (.pick (.t 44) (.c iT) (.t 46)),ov 48 47,oc 49 (xmw 8) 48 false,oc 50 (xbc .eql 49 (.int .u8 95)) 48 false,oa 51 (.pick (.t 48) (.c iT) (.t 50)),ov 52 51,oc 53 (xmw 8) 52 false,oc 54 (xbc .eql 53 (.int .u8 47)) 52 false,oc 55 (xmw 54) 52 false,oc 56 (xmw 1) 55 true,oc 57 (.pick (.t 55) (.t 56) (.c iF)) 52 false,oa 58 (.pick (.t 52) (.c iT) (.t 57)),oa 59 (.un .not (.t 58))] (cn 59 (cq [ oj 6 iF] .ret) .skip)))) (.ops [ ov 13 7,oa 14 (xbc .add 13 (iI 1)),ov 7 14])))))) (cq [ ov 60 0,oa 61 (.lenS (.t 60)),oa 62 (xbc .geq 61 (iI 1)),ov 63 62,oc 64 (xmw 0) 63 true,oc 65 (.lenS (.t 64)) 63 true,oc 66 (xmw 2) 63 true,oc 67 (xbi .leq 65 66) 63 true,oa 68 (.pick (.t 63) (.t 67) (.c iF)),ov 6 68] .ret)))
theorem zl9:zi Tryz.prog 137 (pq Tryz.prog Tryz.f137 x137):=trq Tryz.f137 (by rfl) (by kernel_rfl) (by decide) (by kernel_rfl)
noncomputable def x174:XC:=(cq [ oj 2 (iI 0)] (cq [ oj 3 .nsl,oj 4 .nsl] (.seq (cq [ oj 5 (iI 0)] (.block 0 (.loop (.seq (cq [ ov 7 5,ov 8 0,og 9 8,oe 10 2 9,oe 11 6 10,ol 12 11,oa 13 (.len (.t 12)),oa 14 (xbi .lss 7 13)] (cn 14 .skip (.exit 0))) (.seq (.block 1 (cq [ ov 17 3,ov 18 0,og 19 18,oe 20 2 19,oe 21 6 20,ol 22 21,ov 23 5,oa 24 (xix 3 22 23),oe 25 0 24,ol 26 25,oa 27 (xbc .eql 26 (iI 3)),oa 28 (.bslice 1 [iF] 1 [(0,(.t 27))]),oa 29 (.append 1 1 (.t 17) (.t 28)),ov 3 29] (.ops [ ov 30 4,ov 31 0,og 32 31,oe 33 2 32,oe 34 6 33,ol 35 34,ov 36 5,oa 37 (xix 3 35 36),oe 38 0 37,ol 39 38,oa 40 (xbc .neq 39 (iI 0)),oa 41 (.bslice 1 [iF] 1 [(0,(.t 40))]),oa 42 (.append 1 1 (.t 30) (.t 41)),ov 4 42]))) (.ops [ ov 15 5,oa 16 (xbc .add 15 (iI 1)),ov 5 16])))))) (cq [ ov 43 0,og 44 43,oe 45 0 44,oa 46 (xln 2 45),ov 47 3,ov 48 4,oa 49 (xca 253 [.t 46,.t 47,.t 48]),ov 6 49] (.seq (.seq (.draw [ ov 50 6,oa 51 (.len (.t 50)),oa 52 (xbc .eql 51 (iI 0)),ov 53 52,oc 54 (xmw 6) 53 false,oc 55 (.idxS 1 (.t 54) (.c (iI 0))) 53 false,oc 56 (xld 55) 53 false,oc 57 (xmw 0) 53 false,oc 58 (xnk 57) 53 false,oc 59 (xfa 2 58) 53 false,oc 60 (xfa 6 59) 53 false,oc 61 (xld 60) 53 false,oc 62 (.len (.t 61)) 53 false,oc 63 (xbi .geq 56 62) 53 false,oa 64 (.pick (.t 53) (.c iT) (.t 63))]) (cn 64 (cq [ oa 2 (.mov (.c (iI (-1))))] .ret) .skip)) (cq [ ov 65 6,oa 66 (.idxS 1 (.t 65) (.c (iI 0))),ol 67 66,ov 2 67] .ret))))))
theorem zhy:zi Tryz.prog 174 (pq Tryz.prog Tryz.f174 x174):=trq Tryz.f174 (by rfl) (by kernel_rfl) (by decide) (by kernel_rfl)
noncomputable def x175:XC:=(cq [ oa 3 (.box (.t 1))] (cq [ oe 6 1 3,ol 7 6] (.block 0 (cq [ oa 22 (xbc .eql 7 (iI 1)),ov 21 22] (cn 21 (cq [ ov 23 0,oe 24 0 3,ol 25 24,oa 26 (xca 102 [.t 23,(.c (iI 2)),.t 25,(.c iS),(.c (iI 0))])] (.ops [ ov 27 0,oe 28 0 3,ol 29 28,oa 30 (.build [(iI 0),(.raw (.complex .f64 0 0)),iS,iS,(iI 0),(iI 0),(iI 0),iS,iS,iS,iS,iS,(iI 0)] [(0,(1,(.c (iI 1)))),(3,(1,(.t 29))),(4,(1,(.c (iI 1))))]),oa 31 (xca 178 [.t 27,.t 30])])) (cq [ oa 33 (xbc .eql 7 (iI 2)),ov 32 33] (cn 32 (.seq (.drawE [ ov 34 0,oe 35 0 3,ol 36 35,ov 37 0,og 38 37,oe 39 11 38,ol 40 39,oe 41 4 3,ol 42 41,oa 43 (xbi .add 40 42),oa 44 (xca 102 [.t 34,(.c (iI 7)),.t 36,(.c iS),.t 43])]) (.drawE [ ov 45 0,oe 46 0 3,ol 47 46,ov 48 0,og 49 48,oe 50 11 49,ol 51 50,oe 52 4 3,ol 53 52,oa 54 (xbi .add 51 53),oa 55 (.build [(iI 0),(.raw (.complex .f64 0 0)),iS,iS,(iI 0),(iI 0),(iI 0),iS,iS,iS,iS,iS,(iI 0)] [(0,(1,(.c (iI 2)))),(3,(1,(.t 47))),(5,(1,(.t 54)))]),oa 56 (xca 178 [.t 45,.t 55])])) (cq [ oa 58 (xbc .eql 7 (iI 3)),ov 57 58] (cn 57 (.seq (.draw [ ov 59 0,og 60 59,oe 61 2 60,oe 62 1 61,ol 63 62,oa 64 (xbc .add 63 (.str [47])),oe 65 0 3,ol 66 65,oa 67 (xbi .add 64 66),ov 4 67]) (.seq (cq [ ov 68 4,oa 69 (.lenS (.t 68)),oa 70 (xbc .gtr 69 (iI 256))] (cn 70 (cq [ ov 71 0,oe 72 0 3,ol 73 72,oa 74 (xca 102 [.t 71,(.c (iI 6)),.t 73,(.c (.str [108,111,110,103])),(.c (iI 0))])] (cq [ ov 75 0,oa 76 (xca 108 [.t 75,(.c (iI 3)),(.c (.str [108,111,110,103]))])] .ret)) .skip)) (cq [ ov 77 0,oe 78 0 3,ol 79 78,oa 80 (xca 102 [.t 77,(.c (iI 9)),.t 79,(.c iS),(.c (iI 0))])] (.ops [ ov 81 0,ov 82 4,oe 83 0 3,ol 84 83,oe 85 2 3,ol 86 85,oa 87 (.build [(iI 0),iS,iS,iS,iS,iS,(iI 0)] [(0,(1,(.c (iI 1)))),(1,(1,(.t 82))),(3,(1,(.t 84))),(4,(1,(.t 86)))]),oa 88 (xca 180 [.t 81,.t 87])])))) (cq [ oa 90 (xbc .eql 7 (iI 4)),ov 89 90] (cn 89 (.seq (.drawE [ ov 91 0,og 92 91,oe 93 2 92,oa 94 (xln 9 93),oe 95 2 3,ol 96 95,oa 97 (xcp 252 [.t 94,.t 96]),ov 5 97]) (cq [ ov 98 5,oa 99 (xbc .geq 98 (iI 0))] (cn 99 (.drawE [ ov 100 0,oe 101 0 3,ol 102 101,ov 103 0,og 104 103,oe 105 2 104,oe 106 7 105,ol 107 106,ov 108 5,oa 109 (xix 2 107 108),oe 110 1 109,ol 111 110,oa 112 (xca 102 [.t 100,(.c (iI 12)),.t 102,.t 111,(.c (iI 1))])]) (.ops [ ov 113 0,oe 114 0 3,ol 115 114,oa 116 (xca 102 [.t 113,(.c (iI 11)),.t 115,(.c iS),(.c (iI 0))])])))) (cq [ ov 8 0,oe 9 0 3,ol 10 9,oa 11 (xca 102 [.t 8,(.c (iI 14)),.t 10,(.c iS),(.c (iI 0))])] (.ops [ ov 12 0,oe 13 3 3,ol 14 13,oe 15 0 3,ol 16 15,oe 17 2 3,ol 18 17,oa 19 (.build [(iI 0),iS,iS,iS,iS,iS,(iI 0)] [(0,(1,(.c (iI 3)))),(1,(1,(.t 14))),(3,(1,(.t 16))),(4,(1,(.t 18)))]),oa 20 (xca 180 [.t 12,.t 19])])))))))))))))
theorem ziV:zi Tryz.prog 175 (pq Tryz.prog Tryz.f175 x175):=trq Tryz.f175 (by rfl) (by kernel_rfl) (by decide) (by kernel_rfl)
noncomputable def x188:XC:=(cq [ oj 2 iS] (cq [ ov 3 0,oa 4 (xca 75 [.t 3,(.c (iI 10)),(.c (iI 3))]),oa 5 (.bin .add (.c (.str [101,47])) (.t 4)),oa 6 (xbc .add 5 (.str [47])),ov 2 6] .ret))
theorem zlB:zi Tryz.prog 188 (pq Tryz.prog Tryz.f188 x188):=trq Tryz.f188 (by rfl) (by kernel_rfl) (by decide) (by kernel_rfl)
noncomputable def x207:XC:=(cq [ oa 1 (.box (.t 0)),oj 2 .nsl,oj 3 (iI 0)] (cq [ oa 4 (.mkfn (.func 265) [] [.t 1]),oa 5 (xca 183 [.t 4]),ox 6 5 0,ox 7 5 1,ov 2 6,ov 3 7] .ret))
theorem zj1:zi Tryz.prog 207 (pq Tryz.prog Tryz.f207 x207):=trq Tryz.f207 (by rfl) (by kernel_rfl) (by decide) (by kernel_rfl)
noncomputable def x210:XC:=(cq [ oj 4 iF] (cq [ ov 5 0,oa 6 (.lenS (.t 5)),ov 7 1,oa 8 (.lenS (.t 7)),oa 9 (xbi .geq 6 8),ov 10 9,oc 11 (xmw 0) 10 true,oc 12 (xmw 1) 10 true,oc 13 (.lenS (.t 12)) 10 true,oc 14 (.sliceS (.t 11) none (some (.t 13))) 10 true,oc 15 (xmw 1) 10 true,oc 16 (xbi .eql 14 15) 10 true,oa 17 (.pick (.t 10) (.t 16) (.c iF)),ov 4 17] .ret))
theorem ziS:zi Tryz.prog 210 (pq Tryz.prog Tryz.f210 x210):=trq Tryz.f210 (by rfl) (by kernel_rfl) (by decide) (by kernel_rfl)
noncomputable def x232:XC:=(cq [ ov 10 1,oa 11 (xbc .add 10 (iI 1)),ov 8 11] (.block 0 (.loop (.seq (cq [ ov 12 8,ov 13 2,oa 14 (xbi .lss 12 13)] (cn 14 .skip (.exit 0))) (.seq (.block 1 (cq [ ov 17 8,ov 9 17] (.block 2 (.loop (.seq (.seq (.drawE [ ov 18 9,ov 19 1,oa 20 (xbi .gtr 18 19),ov 21 20,oc 22 (xmw 3) 21 true,oc 23 (xmw 0) 21 true,oc 24 (xmw 9) 21 true,oc 25 (xix 8 23 24) 21 true,oc 26 (xln 8 25) 21 true,oc 27 (xmw 0) 21 true,oc 28 (xmw 9) 21 true,oc 29 (xbc .sub 28 (iI 1)) 21 true,oc 30 (xix 8 27 29) 21 true,oc 31 (xln 8 30) 21 true,oc 32 (.pcall (.t 22) [.t 26,.t 31]) 21 true,oc 33 (xbc .lss 32 (iI 0)) 21 true,oa 34 (.pick (.t 21) (.t 33) (.c iF))]) (cn 34 .skip (.exit 2))) (.seq (.block 3 (.drawE [ ov 37 0,ov 38 9,ov 39 0,ov 40 9,oa 41 (xbc .sub 40 (iI 1)),ov 42 0,ov 43 9,oa 44 (xbc .sub 43 (iI 1)),oa 45 (xix 8 42 44),oa 46 (xln 8 45),ov 47 0,ov 48 9,oa 49 (xix 8 47 48),oa 50 (xln 8 49),oa 51 (xix 8 37 38),ob (.store 8 (.t 51) (.t 46)),oa 52 (xix 8 39 41),ob (.store 8 (.t 52) (.t 50))])) (.ops [ ov 35 9,oa 36 (xbc .sub 35 (iI 1)),ov 9 36]))))))) (.ops [ ov 15 8,oa 16 (xbc .add 15 (iI 1)),ov 8 16]))))))
theorem zia:zi Tryz.prog 232 (pq Tryz.prog Tryz.f232 x232):=trq Tryz.f232 (by rfl) (by kernel_rfl) (by decide) (by kernel_rfl)
noncomputable def x234:XC:=(cq [ ov 13 2,ov 14 1,oa 15 (xbi .sub 13 14),ov 8 15] (cq [ ov 16 8,oa 17 (xbc .geq 16 (iI 8))] (cn 17 (cq [ ov 18 8,oa 19 (.cvInt .u64 (.t 18)),oa 9 (.alloc [(.int .u64 0)]),ob (xs1 9 19)] (cq [ ov 20 8,oa 21 (xca 293 [.t 20]),ov 10 21] (cq [ ov 22 1,ov 23 8,oa 24 (xbc .quo 23 (iI 4)),oa 25 (xbc .mul 24 (iI 2)),oa 26 (xbi .add 22 25),oa 27 (xbc .sub 26 (iI 1)),ov 11 27] (.block 0 (.loop (.seq (cq [ ov 28 11,ov 29 1,ov 30 8,oa 31 (xbc .quo 30 (iI 4)),oa 32 (xbc .mul 31 (iI 2)),oa 33 (xbi .add 29 32),oa 34 (xbc .add 33 (iI 1)),oa 35 (xbi .leq 28 34)] (cn 35 .skip (.exit 0))) (.seq (.block 1 (cq [ oa 38 (xca 294 [.t 9]),ov 39 10,oa 40 (xbc .sub 39 (.int .u64 1)),oa 41 (xbi .and 38 40),oa 42 (.cvInt .i64 (.t 41)),ov 12 42] (.seq (cq [ ov 43 12,ov 44 8,oa 45 (xbi .geq 43 44)] (cn 45 (.ops [ ov 46 12,ov 47 8,oa 48 (xbi .sub 46 47),ov 12 48]) .skip)) (.drawE [ ov 49 0,ov 50 11,ov 51 0,ov 52 1,ov 53 12,oa 54 (xbi .add 52 53),ov 55 0,ov 56 1,ov 57 12,oa 58 (xbi .add 56 57),oa 59 (xix 8 55 58),oa 60 (xln 8 59),ov 61 0,ov 62 11,oa 63 (xix 8 61 62),oa 64 (xln 8 63),oa 65 (xix 8 49 50),ob (.store 8 (.t 65) (.t 60)),oa 66 (xix 8 51 54),ob (.store 8 (.t 66) (.t 64))])))) (.ops [ ov 36 11,oa 37 (xbc .add 36 (iI 1)),ov 11 37])))))))) .skip)))
theorem zib:zi Tryz.prog 234 (pq Tryz.prog Tryz.f234 x234):=trq Tryz.f234 (by rfl) (by kernel_rfl) (by decide) (by kernel_rfl)
noncomputable def x238:XC:=(cq [ oj 10 (iI 0)] (.seq (.drawE [ ov 13 0,ov 14 1,ov 15 0,ov 16 3,ov 17 0,ov 18 3,oa 19 (xix 8 17 18),oa 20 (xln 8 19),ov 21 0,ov 22 1,oa 23 (xix 8 21 22),oa 24 (xln 8 23),oa 25 (xix 8 13 14),ob (.store 8 (.t 25) (.t 20)),oa 26 (xix 8 15 16),ob (.store 8 (.t 26) (.t 24))]) (cq [ ov 27 1,oa 28 (xbc .add 27 (iI 1)),ov 29 2,oa 30 (xbc .sub 29 (iI 1)),ov 11 28,ov 12 30] (.seq (.block 0 (.loop (.block 1 (.seq (.block 2 (.loop (.seq (.seq (.drawE [ ov 31 11,ov 32 12,oa 33 (xbi .leq 31 32),ov 34 33,oc 35 (xmw 4) 34 true,oc 36 (xmw 0) 34 true,oc 37 (xmw 1) 34 true,oc 38 (xix 8 36 37) 34 true,oc 39 (xln 8 38) 34 true,oc 40 (xmw 0) 34 true,oc 41 (xmw 11) 34 true,oc 42 (xix 8 40 41) 34 true,oc 43 (xln 8 42) 34 true,oc 44 (.pcall (.t 35) [.t 39,.t 43]) 34 true,oc 45 (xbc .lss 44 (iI 0)) 34 true,oc 46 (.un .not (.t 45)) 34 true,oa 47 (.pick (.t 34) (.t 46) (.c iF))]) (cn 47 .skip (.exit 2))) (.block 3 (.ops [ ov 48 11,oa 49 (xbc .add 48 (iI 1)),ov 11 49]))))) (.seq (.block 4 (.loop (.seq (.seq (.drawE [ ov 50 11,ov 51 12,oa 52 (xbi .leq 50 51),ov 53 52,oc 54 (xmw 4) 53 true,oc 55 (xmw 0) 53 true,oc 56 (xmw 1) 53 true,oc 57 (xix 8 55 56) 53 true,oc 58 (xln 8 57) 53 true,oc 59 (xmw 0) 53 true,oc 60 (xmw 12) 53 true,oc 61 (xix 8 59 60) 53 true,oc 62 (xln 8 61) 53 true,oc 63 (.pcall (.t 54) [.t 58,.t 62]) 53 true,oc 64 (xbc .lss 63 (iI 0)) 53 true,oa 65 (.pick (.t 53) (.t 64) (.c iF))]) (cn 65 .skip (.exit 4))) (.block 5 (.ops [ ov 66 12,oa 67 (xbc .sub 66 (iI 1)),ov 12 67]))))) (.seq (cq [ ov 68 11,ov 69 12,oa 70 (xbi .gtr 68 69)] (cn 70 (.exit 0) .skip)) (.seq (.drawE [ ov 71 0,ov 72 11,ov 73 0,ov 74 12,ov 75 0,ov 76 12,oa 77 (xix 8 75 76),oa 78 (xln 8 77),ov 79 0,ov 80 11,oa 81 (xix 8 79 80),oa 82 (xln 8 81),oa 83 (xix 8 71 72),ob (.store 8 (.t 83) (.t 78)),oa 84 (xix 8 73 74),ob (.store 8 (.t 84) (.t 82))]) (cq [ ov 85 11,oa 86 (xbc .add 85 (iI 1)),ov 11 86] (.ops [ ov 87 12,oa 88 (xbc .sub 87 (iI 1)),ov 12 88]))))))))) (cq [ ov 89 11,ov 10 89] .ret)))))
theorem zkB:zi Tryz.prog 238 (pq Tryz.prog Tryz.f238 x238):=trq Tryz.f238 (by rfl) (by kernel_rfl) (by decide) (by kernel_rfl)
noncomputable def x242:XC:=(cq [ oj 2 iF] (cq [ ov 3 0,ov 4 0,oa 5 (xbi .neq 3 4),ov 2 5] .ret))
theorem zis:zi Tryz.prog 242 (pq Tryz.prog Tryz.f242 x242):=trq Tryz.f242 (by rfl) (by kernel_rfl) (by decide) (by kernel_rfl)
noncomputable def x243:XC:=(cq [ ov 4 0,ov 5 1,oa 6 (.slice 1 (.t 4) none (some (.t 5))),oa 7 (xca 297 [.t 6])] (cq [ ov 8 0,ov 9 1,oa 10 (.slice 1 (.t 8) (some (.t 9)) none),oa 11 (xca 297 [.t 10])] (.ops [ ov 12 0,oa 13 (xca 297 [.t 12])])))
theorem zj7:zi Tryz.prog 243 (pq Tryz.prog Tryz.f243 x243):=trq Tryz.f243 (by rfl) (by kernel_rfl) (by decide) (by kernel_rfl)
noncomputable def x244:XC:=(cq [ oj 2 iS] (cq [ ov 3 0,oa 4 (xca 298 [.t 3]),oa 5 (.bin .add (.c (.str [108,101,97,115,101,47])) (.t 4)),ov 2 5] .ret))
theorem ziQ:zi Tryz.prog 244 (pq Tryz.prog Tryz.f244 x244):=trq Tryz.f244 (by rfl) (by kernel_rfl) (by decide) (by kernel_rfl)
noncomputable def x248:XC:=(cq [ oj 4 .nsl] (cq [ ov 5 0,oa 6 (.bslice 1 [(iI 0)] 1 [(0,(.t 5))]),oa 7 (xca 306 [(.c (.int .u8 114)),.t 6]),ov 8 1,oa 9 (xca 307 [.t 8]),oa 10 (.ex (.appT 5 1) [.t 7,.t 9]),ov 4 10] .ret))
theorem zjT:zi Tryz.prog 248 (pq Tryz.prog Tryz.f248 x248):=trq Tryz.f248 (by rfl) (by kernel_rfl) (by decide) (by kernel_rfl)
noncomputable def x251:XC:=(cq [ oa 2 (.box (.t 0)),oj 4 (iI 0),oj 5 iF] (.seq (cq [ oj 6 (iI 0)] (.block 0 (.loop (.seq (cq [ ov 7 6,oe 8 1 2,ol 9 8,oa 10 (.len (.t 9)),oa 11 (xbi .lss 7 10)] (cn 11 .skip (.exit 0))) (.seq (.block 1 (cq [ oe 14 1 2,ol 15 14,ov 16 6,oa 17 (xix 7 15 16),oe 18 0 17,ol 19 18,ov 20 1,oa 21 (xbi .eql 19 20)] (cn 21 (cq [ ov 22 6,ov 4 22,oj 5 iT] .ret) .skip))) (.ops [ ov 12 6,oa 13 (xbc .add 12 (iI 1)),ov 6 13])))))) (cq [ oj 4 (iI 0),oj 5 iF] .ret)))
theorem ziR:zi Tryz.prog 251 (pq Tryz.prog Tryz.f251 x251):=trq Tryz.f251 (by rfl) (by kernel_rfl) (by decide) (by kernel_rfl)
noncomputable def x255:XC:=(cq [ oa 4 (.mov (.c (.raw (.complex .f64 0 0))))] (cq [ ov 5 0,oa 6 (.bin .mul (.t 5) (.c (.raw (.complex .f64 4613937818241073152 4611686018427387904)))),ov 7 1,oa 8 (.ex (.itof .f64) [.t 7]),oa 9 (.ex .cpx [.t 8,(.c (.raw (.float .f64 4607182418800017408)))]),oa 10 (xbi .add 6 9),ov 0 10] (cq [ ov 11 0,oa 12 (.ex (.ru .re) [.t 11]),oa 13 (xca 312 [.t 12]),ov 14 0,oa 15 (.ex (.ru .im) [.t 14]),oa 16 (xca 312 [.t 15]),oa 17 (.ex .cpx [.t 13,.t 16]),ov 4 17] .ret)))
theorem ziN:zi Tryz.prog 255 (pq Tryz.prog Tryz.f255 x255):=trq Tryz.f255 (by rfl) (by kernel_rfl) (by decide) (by kernel_rfl)
noncomputable def x257:XC:=(cq [ oj 2 (iI 0),oj 3 (iI 0),oj 4 iF] (cq [ ov 8 0,oa 9 (.ex (.ru .re) [.t 8]),oa 10 (xca 313 [.t 9]),ov 7 10,ox 11 7 0,ox 12 7 1,ov 2 11,ov 5 12] (cq [ ov 14 0,oa 15 (.ex (.ru .im) [.t 14]),oa 16 (xca 313 [.t 15]),ov 13 16,ox 17 13 0,ox 18 13 1,ov 3 17,ov 6 18] (cq [ ov 19 2,ov 20 3,ov 21 5,ov 22 21,oc 23 (xmw 6) 22 true,oa 24 (.pick (.t 22) (.t 23) (.c iF)),ov 2 19,ov 3 20,ov 4 24] .ret))))
theorem zkF:zi Tryz.prog 257 (pq Tryz.prog Tryz.f257 x257):=trq Tryz.f257 (by rfl) (by kernel_rfl) (by decide) (by kernel_rfl)
noncomputable def x258:XC:=(cq [ ov 3 0,oe 4 0 1,ol 5 4,oa 6 (xca 185 [.t 3,.t 5,(.c (iI 1)),(.c (iI 2))])] (cq [ ov 7 0,oe 8 1 1,ol 9 8,oa 10 (xca 191 [.t 7,.t 9])] (cq [ ov 11 0,oe 12 2 1,ol 13 12,oa 14 (xca 191 [.t 11,.t 13])] (cq [ ov 15 0,oe 16 3 1,ol 17 16,oa 18 (xca 191 [.t 15,.t 17])] (.ops [ ov 19 0,oe 20 4 1,oa 21 (xln 7 20),oa 22 (xca 194 [.t 19,.t 21])])))))
theorem zlM:zi Tryz.prog 258 (pq Tryz.prog Tryz.f258 x258):=trq Tryz.f258 (by rfl) (by kernel_rfl) (by decide) (by kernel_rfl)
noncomputable def x267:XC:=(cq [ oa 1 (.box (.t 0)),oj 2 iF] (cq [ oa 3 (xln 3 1),oa 4 (xca 268 [.t 3]),oa 5 (.un .not (.t 4)),ov 2 5] .ret))
theorem zhV:zi Tryz.prog 267 (pq Tryz.prog Tryz.f267 x267):=trq Tryz.f267 (by rfl) (by kernel_rfl) (by decide) (by kernel_rfl)
noncomputable def x271:XC:=(cq [ oj 2 .nsl] (.seq (cq [ ov 3 0,oa 4 (.isNil 0 false (.t 3))] (cn 4 (cq [ oj 2 .nsl] .ret) .skip)) (cq [ oa 5 (.bslice 3 [(iI 0),(iI 0),iS] 0 []),ov 6 0,oa 7 (.append 3 32 (.t 5) (.t 6)),ov 2 7] .ret)))
theorem zky:zi Tryz.prog 271 (pq Tryz.prog Tryz.f271 x271):=trq Tryz.f271 (by rfl) (by kernel_rfl) (by decide) (by kernel_rfl)
noncomputable def x273:XC:=(cq [ oa 3 (.box (.t 1))] (.seq (.drawE [ ov 5 0,ov 6 0,og 7 6,oe 8 0 7,oa 9 (xln 2 8),ov 10 0,og 11 10,oe 12 2 11,oa 13 (xln 9 12),oa 14 (xln 4 3),oa 15 (xcp 321 [.t 9,.t 13,.t 14]),ov 4 15,ox 16 4 0,ox 17 4 1,og 18 5,oe 19 2 18,ob (.store 9 (.t 19) (.t 16))]) (.drawR [(ov 20 0,([],false)),(ov 21 0,([],false)),(og 22 21,([],false)),(oe 23 12 22,([],false)),(ol 24 23,([],true)),(oa 25 (xln 4 3),([],false)),(oa 26 (.bslice 4 [(iI 0),iS,iS,(iI 0)] 1 [(0,(.t 25))]),([4],false)),(oa 27 (.append 4 48 (.t 24) (.t 26)),([],false)),(og 28 20,([],false)),(oe 29 12 28,([],false)),(ob (xs1 29 27),([],false))])))
theorem zhZ:zi Tryz.prog 273 (pq Tryz.prog Tryz.f273 x273):=trq Tryz.f273 (by rfl) (by kernel_rfl) (by decide) (by kernel_rfl)
noncomputable def x274:XC:=(.scope (.seq (.drawR [(ov 7 0,([],false)),(og 8 7,([],false)),(oe 9 0 8,([],false)),(oe 10 1 9,([],false)),(ol 11 10,([],true)),(oa 12 (.len (.t 11)),([],false)),(oa 13 (.mkslice [iF] 1 (.t 12) (.t 12)),([],true)),(ov 14 0,([],false)),(og 15 14,([],false)),(oe 16 0 15,([],false)),(oe 17 1 16,([],false)),(ol 18 17,([6],false)),(oa 19 (.len (.t 18)),([],false)),(oa 20 (.mkslice [iF] 1 (.t 19) (.t 19)),([4,6],false)),(ov 2 13,([],false)),(ov 3 20,([],false))]) (.seq (.label 0) (.seq (cq [ ov 21 0,og 22 21,oe 23 2 22,oe 24 6 23,ol 25 24,oa 26 (.len (.t 25)),oj 27 (iI 0)] (.block 0 (.loop (cq [ oa 28 (xbi .lss 27 26)] (.seq (cn 28 .skip (.exit 0)) (.seq (.block 1 (cq [ ov 29 27,oa 30 (xix 3 25 27),oa 31 (xln 3 30),oa 5 (.alloc [(iI 0),(iI 0),iS]),ov 4 29,ob (.store 3 (.t 5) (.t 31))] (.drawR [(ov 32 2,([],false)),(ov 33 4,([],false)),(ov 34 3,([],false)),(ov 35 4,([],false)),(oe 36 0 5,([],false)),(ol 37 36,([],false)),(oa 38 (xbc .eql 37 (iI 3)),([],false)),(oe 39 0 5,([],false)),(ol 40 39,([],true)),(oa 41 (xbc .neq 40 (iI 0)),([],false)),(oa 42 (xix 1 32 33),([],false)),(ob (xs1 42 38),([8],false)),(oa 43 (xix 1 34 35),([],false)),(ob (xs1 43 41),([],false))]))) (.ops [ oa 44 (xbc .add 27 (iI 1)),ov 27 44]))))))) (cq [ ov 45 0,og 46 45,oe 47 0 46,oa 48 (xln 2 47),ov 49 2,ov 50 3,oa 51 (xca 322 [.t 48,.t 49,.t 50]),ov 6 51] (.seq (cq [ ov 52 6,oa 53 (.len (.t 52)),oa 54 (xbc .gtr 53 (iI 0)),ov 55 54,oc 56 (xmw 0) 55 true,oc 57 (xnk 56) 55 true,oc 58 (xfa 2 57) 55 true,oc 59 (xfa 4 58) 55 true,oc 60 (xld 59) 55 true,oc 61 (xbc .eql 60 (iI 1)) 55 true,oa 62 (.pick (.t 55) (.t 61) (.c iF))] (cn 62 (.seq (.drawE [ ov 63 0,ov 64 0,og 65 64,oe 66 0 65,oe 67 1 66,ol 68 67,ov 69 6,oa 70 (.idxS 1 (.t 69) (.c (iI 0))),ol 71 70,oa 72 (xix 7 68 71),oa 73 (xln 7 72),oa 74 (xca 323 [.t 63,.t 73])]) (.goto 0)) .skip)) (cq [ ov 75 0,og 76 75,oe 77 2 76,oa 78 (xln 9 77),oa 79 (xca 324 [.t 78]),oa 80 (.ex (.ru .im) [.t 79]),oa 81 (.bin .eql (.t 80) (.c (.raw (.float .f64 0)))),ov 82 81,oc 83 (xmw 0) 82 true,oc 84 (xnk 83) 82 true,oc 85 (xfa 2 84) 82 true,oc 86 (xfa 4 85) 82 true,oc 87 (xld 86) 82 true,oc 88 (xbc .eql 87 (iI 1)) 82 true,oa 89 (.pick (.t 82) (.t 88) (.c iF))] (cn 89 (.drawE [ ov 90 0,ov 91 0,og 92 91,oe 93 2 92,oe 94 6 93,ol 95 94,ov 96 0,og 97 96,oe 98 2 97,oe 99 6 98,ol 100 99,oa 101 (.len (.t 100)),oa 102 (xbc .sub 101 (iI 1)),oa 103 (xix 3 95 102),oe 104 2 103,ol 105 104,oa 106 (xca 279 [.t 90,(.c (iI 2)),.t 105])]) .skip))))))) (.cons 0 (.seq .skip (.seq (cq [ ov 21 0,og 22 21,oe 23 2 22,oe 24 6 23,ol 25 24,oa 26 (.len (.t 25)),oj 27 (iI 0)] (.block 0 (.loop (cq [ oa 28 (xbi .lss 27 26)] (.seq (cn 28 .skip (.exit 0)) (.seq (.block 1 (cq [ ov 29 27,oa 30 (xix 3 25 27),oa 31 (xln 3 30),oa 5 (.alloc [(iI 0),(iI 0),iS]),ov 4 29,ob (.store 3 (.t 5) (.t 31))] (.drawR [(ov 32 2,([],false)),(ov 33 4,([],false)),(ov 34 3,([],false)),(ov 35 4,([],false)),(oe 36 0 5,([],false)),(ol 37 36,([],false)),(oa 38 (xbc .eql 37 (iI 3)),([],false)),(oe 39 0 5,([],false)),(ol 40 39,([],true)),(oa 41 (xbc .neq 40 (iI 0)),([],false)),(oa 42 (xix 1 32 33),([],false)),(ob (xs1 42 38),([8],false)),(oa 43 (xix 1 34 35),([],false)),(ob (xs1 43 41),([],false))]))) (.ops [ oa 44 (xbc .add 27 (iI 1)),ov 27 44]))))))) (cq [ ov 45 0,og 46 45,oe 47 0 46,oa 48 (xln 2 47),ov 49 2,ov 50 3,oa 51 (xca 322 [.t 48,.t 49,.t 50]),ov 6 51] (.seq (cq [ ov 52 6,oa 53 (.len (.t 52)),oa 54 (xbc .gtr 53 (iI 0)),ov 55 54,oc 56 (xmw 0) 55 true,oc 57 (xnk 56) 55 true,oc 58 (xfa 2 57) 55 true,oc 59 (xfa 4 58) 55 true,oc 60 (xld 59) 55 true,oc 61 (xbc .eql 60 (iI 1)) 55 true,oa 62 (.pick (.t 55) (.t 61) (.c iF))] (cn 62 (.seq (.drawE [ ov 63 0,ov 64 0,og 65 64,oe 66 0 65,oe 67 1 66,ol 68 67,ov 69 6,oa 70 (.idxS 1 (.t 69) (.c (iI 0))),ol 71 70,oa 72 (xix 7 68 71),oa 73 (xln 7 72),oa 74 (xca 323 [.t 63,.t 73])]) (.goto 0)) .skip)) (cq [ ov 75 0,og 76 75,oe 77 2 76,oa 78 (xln 9 77),oa 79 (xca 324 [.t 78]),oa 80 (.ex (.ru .im) [.t 79]),oa 81 (.bin .eql (.t 80) (.c (.raw (.float .f64 0)))),ov 82 81,oc 83 (xmw 0) 82 true,oc 84 (xnk 83) 82 true,oc 85 (xfa 2 84) 82 true,oc 86 (xfa 4 85) 82 true,oc 87 (xld 86) 82 true,oc 88 (xbc .eql 87 (iI 1)) 82 true,oa 89 (.pick (.t 82) (.t 88) (.c iF))] (cn 89 (.drawE [ ov 90 0,ov 91 0,og 92 91,oe 93 2 92,oe 94 6 93,ol 95 94,ov 96 0,og 97 96,oe 98 2 97,oe 99 6 98,ol 100 99,oa 101 (.len (.t 100)),oa 102 (xbc .sub 101 (iI 1)),oa 103 (xix 3 95 102),oe 104 2 103,ol 105 104,oa 106 (xca 279 [.t 90,(.c (iI 2)),.t 105])]) .skip)))))) .nil))
theorem zkh:zi Tryz.prog 274 (pq Tryz.prog Tryz.f274 x274):=trq Tryz.f274 (by rfl) (by kernel_rfl) (by decide) (by kernel_rfl)
noncomputable def x281:XC:=(cq [ oj 2 iS] (.seq (cq [ ov 3 0,oa 4 (xbc .lss 3 (iI 10))] (cn 4 (cq [ ov 5 0,ov 6 0,oa 7 (xbc .add 6 (iI 1)),oa 8 (.sliceS (.c (.str [48,49,50,51,52,53,54,55,56,57,97,98,99,100,101,102,103,104,105,106,107,108,109,110,111,112,113,114,115,116,117,118,119,120,121,122])) (some (.t 5)) (some (.t 7))),ov 2 8] .ret) .skip)) (cq [ ov 9 0,oa 10 (xbc .mul 9 (iI 2)),ov 11 0,oa 12 (xbc .mul 11 (iI 2)),oa 13 (xbc .add 12 (iI 2)),oa 14 (.sliceS (.c (.str [48,48,48,49,48,50,48,51,48,52,48,53,48,54,48,55,48,56,48,57,49,48,49,49,49,50,49,51,49,52,49,53,49,54,49,55,49,56,49,57,50,48,50,49,50,50,50,51,50,52,50,53,50,54,50,55,50,56,50,57,51,48,51,49,51,50,51,51,51,52,51,53,51,54,51,55,51,56,51,57,52,48,52,49,52,50,52,51,52,52,52,53,52,54,52,55,52,56,52,57,53,48,53,49,53,50,53,51,53,52,53,53,53,54,53,55,53,56,53,57,54,48,54,49,54,50,54,51,54,52,54,53,54,54,54,55,54,56,54,57,55,48,55,49,55,50,55,51,55,52,55,53,55,54,55,55,55,56,55,57,56,48,56,49,56,50,56,51,56,52,56,53,56,54,56,55,56,56,56,57,57,48,57,49,57,50,57,51,57,52,57,53,57,54,57,55,57,56,57,57])) (some (.t 10)) (some (.t 13))),ov 2 14] .ret)))
theorem zhE:zi Tryz.prog 281 (pq Tryz.prog Tryz.f281 x281):=trq Tryz.f281 (by rfl) (by kernel_rfl) (by decide) (by kernel_rfl)
noncomputable def x282:XC:=(cq [ oj 2 (iI 0)] (cq [ ov 4 0,oa 5 (xca 241 [.t 4]),oa 6 (xca 331 [.t 5]),ov 3 6] (cq [ ov 7 3,ov 8 0,ov 9 3,oa 10 (.idxA 20 1 (.g 0) (.t 9)),ol 11 10,oa 12 (xbi .geq 8 11),oa 13 (xca 332 [.t 12]),oa 14 (xbi .add 7 13),ov 2 14] .ret)))
theorem ziB:zi Tryz.prog 282 (pq Tryz.prog Tryz.f282 x282):=trq Tryz.f282 (by rfl) (by kernel_rfl) (by decide) (by kernel_rfl)
noncomputable def x294:XC:=(cq [ oj 2 (.int .u64 0)] (.seq (.drawE [ ov 3 0,og 4 3,ol 5 4,ov 6 0,og 7 6,ol 8 7,oa 9 (xbc .shl 8 (.int .u64 13)),oa 10 (xbi .xor 5 9),og 11 3,ob (xs1 11 10)]) (.seq (.drawE [ ov 12 0,og 13 12,ol 14 13,ov 15 0,og 16 15,ol 17 16,oa 18 (xbc .shr 17 (.int .u64 7)),oa 19 (xbi .xor 14 18),og 20 12,ob (xs1 20 19)]) (.seq (.drawE [ ov 21 0,og 22 21,ol 23 22,ov 24 0,og 25 24,ol 26 25,oa 27 (xbc .shl 26 (.int .u64 17)),oa 28 (xbi .xor 23 27),og 29 21,ob (xs1 29 28)]) (cq [ ov 30 0,og 31 30,ol 32 31,ov 2 32] .ret)))))
theorem zlW:zi Tryz.prog 294 (pq Tryz.prog Tryz.f294 x294):=trq Tryz.f294 (by rfl) (by kernel_rfl) (by decide) (by kernel_rfl)
noncomputable def x298:XC:=(cq [ oj 2 iS] (cq [ ov 3 0,oa 4 (xca 347 [.t 3]),ov 2 4] .ret))
theorem zjR:zi Tryz.prog 298 (pq Tryz.prog Tryz.f298 x298):=trq Tryz.f298 (by rfl) (by kernel_rfl) (by decide) (by kernel_rfl)
noncomputable def x304:XC:=(cq [ oa 6 (.box (.t 2)),oj 8 (iI 0)] (cq [ ov 18 0,ov 19 0,og 20 18,oe 21 6 20,ob (.store 1 (.t 21) (.c iT)),og 22 19,oe 23 5 22,ob (.store 1 (.t 23) (.c iT))] (cq [ ov 25 0,oa 26 (xca 351 [.t 25]),ov 24 26,ox 27 24 0,ox 28 24 1,ov 9 27,ov 10 28] (.seq (cq [ ov 29 10,oa 30 (.len (.t 29)),oj 31 (iI 0)] (.block 0 (.loop (cq [ oa 32 (xbi .lss 31 30)] (.seq (cn 32 .skip (.exit 0)) (.seq (.block 1 (cq [ oa 33 (xix 1 29 31),ol 34 33,ov 12 34] (cq [ ov 35 0,og 36 35,oe 37 0 36,ol 38 37,ov 39 12,oa 40 (xca 308 [.t 38,.t 39]),ov 13 40] (cq [ ov 41 13,oa 42 (xbc .neq 41 (iI 0))] (cn 42 (cq [ ov 43 13,ov 8 43] .ret) .skip))))) (.ops [ oa 44 (xbc .add 31 (iI 1)),ov 31 44]))))))) (cq [ oe 45 0 6,ob (.store 1 (.t 45) (.c (iI 1)))] (.seq (cq [ ov 46 0,og 47 46,oe 48 2 47,ol 49 48,oa 50 (.len (.t 49)),ov 14 50] (cq [ ov 51 14,oa 52 (xbc .gtr 51 (iI 0))] (cn 52 (.drawR [(ov 53 0,([],false)),(og 54 53,([],false)),(oe 55 2 54,([],false)),(ol 56 55,([],false)),(ov 57 14,([],false)),(oa 58 (xbc .sub 57 (iI 1)),([],false)),(oa 59 (xix 8 56 58),([],false)),(oe 60 0 59,([],false)),(oe 61 0 60,([],false)),(ol 62 61,([],false)),(oa 63 (xbc .add 62 (iI 1)),([],false)),(ov 64 0,([],false)),(og 65 64,([],false)),(oe 66 2 65,([],false)),(ol 67 66,([],true)),(ov 68 14,([],false)),(oa 69 (xbc .sub 68 (iI 1)),([],false)),(oa 70 (xix 8 67 69),([],true)),(oe 71 6 70,([],false)),(ol 72 71,([],true)),(oe 73 0 6,([],false)),(ob (xs1 73 63),([14,17,19],false)),(oe 74 1 6,([],false)),(ob (xs1 74 72),([],false))]) .skip))) (.seq (.drawE [ ov 75 1,oe 76 0 6,ol 77 76,oe 78 1 6,ol 79 78,oe 80 2 6,ol 81 80,oe 82 3 6,ol 83 82,ov 84 3,oa 85 (.len (.t 84)),ov 86 3,oa 87 (xcp 156 [.t 86]),oa 88 (.cvInt .i64 (.t 87)),oa 89 (.bslice 1 [(iI 0)] 6 [(0,(.t 77)),(1,(.t 79)),(2,(.t 81)),(3,(.t 83)),(4,(.t 85)),(5,(.t 88))]),oa 90 (xca 306 [.t 75,.t 89]),ov 91 3,oa 92 (.ex (.appT 5 1) [.t 90,.t 91]),ov 15 92]) (.seq (cq [ ov 93 0,ov 94 9,ov 95 15,oa 96 (xca 303 [.t 93,.t 94,.t 95]),ov 16 96] (cq [ ov 97 16,oa 98 (xbc .neq 97 (iI 0))] (cn 98 (cq [ ov 99 16,ov 8 99] .ret) .skip))) (.seq (cq [ ov 100 1,oa 101 (xbc .eql 100 (.int .u8 119))] (cn 101 (cq [ ov 102 0,og 103 102,oe 104 2 103,ol 105 104,oa 106 (.len (.t 105)),oj 107 (iI 0)] (.block 2 (.loop (cq [ oa 108 (xbi .lss 107 106)] (.seq (cn 108 .skip (.exit 2)) (.seq (.block 3 (cq [ ov 109 107,ov 17 109] (.drawE [ ov 110 0,og 111 110,oe 112 2 111,ol 113 112,ov 114 17,oe 115 2 6,ol 116 115,oa 117 (xix 8 113 114),oe 118 7 117,ob (xs1 118 116)]))) (.ops [ oa 119 (xbc .add 107 (iI 1)),ov 107 119]))))))) .skip)) (.seq (.drawR [(ov 120 0,([],false)),(ov 121 0,([],false)),(og 122 121,([],false)),(oe 123 2 122,([],false)),(ol 124 123,([],true)),(oa 125 (xln 4 6),([],false)),(ov 126 9,([],false)),(ov 127 15,([],false)),(oa 128 (.len (.t 127)),([],false)),(ov 129 0,([],false)),(oa 130 (xcp 161 [.t 129]),([],false)),(oa 131 (.build [(iI 0),(iI 0),(iI 0),(iI 0),iF,(iI 0),(iI 0),(iI 0)] [(0,(4,(.t 125))),(5,(1,(.t 126))),(6,(1,(.t 128))),(7,(1,(.t 130)))]),([],false)),(oa 132 (.bslice 8 [(iI 0),(iI 0),(iI 0),(iI 0),iF,(iI 0),(iI 0),(iI 0)] 1 [(0,(.t 131))]),([4],false)),(oa 133 (.append 8 64 (.t 124) (.t 132)),([],false)),(og 134 120,([],false)),(oe 135 2 134,([],false)),(ob (xs1 135 133),([],false))]) (cq [ ov 136 0,ov 137 0,og 138 136,oe 139 6 138,ob (.store 1 (.t 139) (.c iF)),og 140 137,oe 141 5 140,ob (.store 1 (.t 141) (.c iF))] (cq [ oj 8 (iI 0)] .ret))))))))))))
theorem zhO:zi Tryz.prog 304 (pq Tryz.prog Tryz.f304 x304):=trq Tryz.f304 (by rfl) (by kernel_rfl) (by decide) (by kernel_rfl)
noncomputable def x310:XC:=(cq [ oa 3 (.box (.t 0)),oj 6 iF] (.seq (cq [ oj 7 (iI 0)] (.block 0 (.loop (.seq (cq [ ov 10 7,oe 11 1 3,ol 12 11,ov 13 1,oa 14 (xix 7 12 13),oe 15 6 14,ol 16 15,oa 17 (.len (.t 16)),oa 18 (xbi .lss 10 17)] (cn 18 .skip (.exit 0))) (.seq (.block 1 (.seq (.drawE [ oa 22 (xln 2 3),oe 23 1 3,ol 24 23,ov 25 1,oa 26 (xix 7 24 25),oe 27 6 26,ol 28 27,ov 29 7,oa 30 (xix 1 28 29),ol 31 30,oa 32 (xcp 251 [.t 22,.t 31]),ov 21 32,ox 33 21 0,ox 34 21 1,ov 8 33,ov 9 34]) (cq [ ov 35 9,oa 36 (.un .not (.t 35)),ov 37 36,oc 38 (xmw 8) 37 false,oc 39 (xmw 1) 37 false,oc 40 (xbi .eql 38 39) 37 false,oa 41 (.pick (.t 37) (.c iT) (.t 40)),ov 42 41,oc 43 (xmw 2) 42 false,oc 44 (xmw 8) 42 false,oc 45 (xca 309 [.t 43,.t 44]) 42 false,oc 46 (.un .not (.t 45)) 42 false,oa 47 (.pick (.t 42) (.c iT) (.t 46))] (cn 47 (cq [ oj 6 iF] .ret) .skip)))) (.ops [ ov 19 7,oa 20 (xbc .add 19 (iI 1)),ov 7 20])))))) (cq [ oj 6 iT] .ret)))
theorem zj5:zi Tryz.prog 310 (pq Tryz.prog Tryz.f310 x310):=trq Tryz.f310 (by rfl) (by kernel_rfl) (by decide) (by kernel_rfl)
noncomputable def x313:XC:=(cq [ oj 2 (iI 0),oj 3 iF] (.seq (cq [ ov 4 0,oa 5 (.bin .geq (.t 4) (.c (.raw (.float .f64 0)))),ov 6 5,oc 7 (xmw 0) 6 true,oc 8 (.bin .leq (.t 7) (.c (.raw (.float .f64 4841369599423283200)))) 6 true,oa 9 (.pick (.t 6) (.t 8) (.c iF)),oa 10 (.un .not (.t 9)),ov 11 10,oc 12 (xmw 0) 11 false,oc 13 (xca 357 [.t 12]) 11 false,oa 14 (.pick (.t 11) (.c iT) (.t 13)),ov 15 14,oc 16 (xmw 0) 15 false,oc 17 (xmw 0) 15 false,oc 18 (xca 358 [.t 17]) 15 false,oc 19 (xbi .neq 16 18) 15 false,oa 20 (.pick (.t 15) (.c iT) (.t 19))] (cn 20 (cq [ oj 2 (iI 0),oj 3 iF] .ret) .skip)) (cq [ ov 21 0,oa 22 (.ex (.ru (.toInt .i64)) [.t 21]),ov 2 22,oj 3 iT] .ret)))
theorem zk4:zi Tryz.prog 313 (pq Tryz.prog Tryz.f313 x313):=trq Tryz.f313 (by rfl) (by kernel_rfl) (by decide) (by kernel_rfl)
noncomputable def x320:XC:=(cq [ oj 4 (iI 0)] (.seq (cq [ ov 6 0,oa 7 (.len (.t 6)),oj 8 (iI 0)] (.block 0 (.loop (cq [ oa 9 (xbi .lss 8 7)] (.seq (cn 9 .skip (.exit 0)) (.seq (.block 1 (cq [ ov 10 8,ov 5 10] (cq [ ov 11 1,ov 12 0,ov 13 5,oa 14 (xix 3 12 13),oa 15 (xln 3 14),oa 16 (.call (.t 11) [.t 15])] (cn 16 (cq [ ov 17 5,ov 4 17] .ret) .skip)))) (.ops [ oa 18 (xbc .add 8 (iI 1)),ov 8 18]))))))) (cq [ oa 4 (.mov (.c (iI (-1))))] .ret)))
theorem zhX:zi Tryz.prog 320 (pq Tryz.prog Tryz.f320 x320):=trq Tryz.f320 (by rfl) (by kernel_rfl) (by decide) (by kernel_rfl)
noncomputable def x338:XC:=(cq [ ov 11 1,ov 6 11] (cq [ oj 7 (iI 0)] (cq [ ov 12 2,ov 13 1,oa 14 (xbi .sub 12 13),ov 8 14] (.seq (cq [ ov 15 8,oa 16 (xbc .sub 15 (iI 1)),oa 17 (xbc .quo 16 (iI 2)),ov 9 17] (.block 0 (.loop (.seq (cq [ ov 18 9,oa 19 (xbc .geq 18 (iI 0))] (cn 19 .skip (.exit 0))) (.seq (.block 1 (.ops [ ov 22 0,ov 23 9,ov 24 8,ov 25 6,oa 26 (xca 371 [.t 22,.t 23,.t 24,.t 25])])) (.ops [ ov 20 9,oa 21 (xbc .sub 20 (iI 1)),ov 9 21])))))) (cq [ ov 27 8,oa 28 (xbc .sub 27 (iI 1)),ov 10 28] (.block 2 (.loop (.seq (cq [ ov 29 10,oa 30 (xbc .geq 29 (iI 0))] (cn 30 .skip (.exit 2))) (.seq (.block 3 (.seq (.drawE [ ov 33 0,ov 34 6,ov 35 0,ov 36 6,ov 37 10,oa 38 (xbi .add 36 37),ov 39 0,ov 40 6,ov 41 10,oa 42 (xbi .add 40 41),oa 43 (xix 1 39 42),ol 44 43,ov 45 0,ov 46 6,oa 47 (xix 1 45 46),ol 48 47,oa 49 (xix 1 33 34),ob (xs1 49 44),oa 50 (xix 1 35 38),ob (xs1 50 48)]) (.ops [ ov 51 0,ov 52 7,ov 53 10,ov 54 6,oa 55 (xca 371 [.t 51,.t 52,.t 53,.t 54])]))) (.ops [ ov 31 10,oa 32 (xbc .sub 31 (iI 1)),ov 10 32]))))))))))
theorem zlf:zi Tryz.prog 338 (pq Tryz.prog Tryz.f338 x338):=trq Tryz.f338 (by rfl) (by kernel_rfl) (by decide) (by kernel_rfl)
noncomputable def x343:XC:=(cq [ oj 4 iF] (cq [ ov 5 0,oa 6 (xca 159 [.t 5]),ov 7 6,oc 8 (xmw 1) 7 true,oc 9 (xca 159 [.t 8]) 7 true,oc 10 (.un .not (.t 9)) 7 true,oa 11 (.pick (.t 7) (.t 10) (.c iF)),ov 12 11,oc 13 (xmw 0) 12 false,oc 14 (xmw 1) 12 false,oc 15 (xbi .lss 13 14) 12 false,oa 16 (.pick (.t 12) (.c iT) (.t 15)),ov 4 16] .ret))
theorem zlt:zi Tryz.prog 343 (pq Tryz.prog Tryz.f343 x343):=trq Tryz.f343 (by rfl) (by kernel_rfl) (by decide) (by kernel_rfl)
noncomputable def x349:XC:=(cq [ oj 6 (iI 0)] (cq [ ov 10 0,ov 11 1,oa 12 (xca 354 [.t 10,.t 11]),ov 9 12,ox 13 9 0,ox 14 9 1,ov 7 13,ov 8 14] (.seq (.block 0 (cq [ ov 16 8,oa 17 (xbc .eql 16 (iI 0)),ov 15 17] (cn 15 (.ops [ ov 18 0,ov 19 1,ov 20 2,oa 21 (xca 374 [.t 18,.t 19,.t 20])]) (cq [ ov 23 8,oa 24 (xbc .eql 23 (iI 3)),ov 25 24,oc 26 (xmw 7) 25 true,oc 27 (xbc .eql 26 (iI 2)) 25 true,oa 28 (.pick (.t 25) (.t 27) (.c iF)),ov 29 28,oc 30 (xmw 1) 29 true,oc 31 (xbc .geq 30 (iI 0)) 29 true,oa 32 (.pick (.t 29) (.t 31) (.c iF)),ov 22 32] (cn 22 (.ops [ ov 33 0,ov 34 1,ov 35 2,ov 36 2,oa 37 (.len (.t 36)),oa 38 (xbc .quo 37 (iI 2)),oa 39 (.slice 1 (.t 35) none (some (.t 38))),oa 40 (xca 374 [.t 33,.t 34,.t 39])]) .skip))))) (cq [ ov 41 8,ov 6 41] .ret))))
theorem zif:zi Tryz.prog 349 (pq Tryz.prog Tryz.f349 x349):=trq Tryz.f349 (by rfl) (by kernel_rfl) (by decide) (by kernel_rfl)
noncomputable def x357:XC:=(cq [ oj 2 iF] (cq [ ov 3 0,oa 4 (xca 383 [.t 3]),oa 5 (.cvInt .i64 (.t 4)),oa 6 (xbc .lss 5 (iI 0)),ov 2 6] .ret))
theorem zlw:zi Tryz.prog 357 (pq Tryz.prog Tryz.f357 x357):=trq Tryz.f357 (by rfl) (by kernel_rfl) (by decide) (by kernel_rfl)
noncomputable def x364:XC:=(cq [ oj 4 iF] (cq [ ov 5 1,ov 6 0,oa 7 (.len (.t 6)),oa 8 (xbi .lss 5 7),ov 9 8,oc 10 (xmw 0) 9 true,oc 11 (xmw 1) 9 true,oc 12 (xix 1 10 11) 9 true,oc 13 (xld 12) 9 true,oa 14 (.pick (.t 9) (.t 13) (.c iF)),ov 4 14] .ret))
theorem zk0:zi Tryz.prog 364 (pq Tryz.prog Tryz.f364 x364):=trq Tryz.f364 (by rfl) (by kernel_rfl) (by decide) (by kernel_rfl)
noncomputable def x365:XC:=(cq [ oa 3 (.box (.t 0)),oj 6 iF] (.seq (cq [ oe 11 1 3,ol 12 11,ov 13 1,oa 14 (xix 7 12 13),oe 15 6 14,ol 16 15,oa 17 (.len (.t 16)),oj 18 (iI 0)] (.block 0 (.loop (cq [ oa 19 (xbi .lss 18 17)] (.seq (cn 19 .skip (.exit 0)) (.seq (.block 1 (cq [ oa 20 (xix 1 16 18),ol 21 20,ov 8 21] (cq [ oa 23 (xln 2 3),ov 24 8,oa 25 (xca 368 [.t 23,.t 24]),ov 22 25,ox 26 22 0,ox 27 22 1,ov 9 26,ov 10 27] (cq [ ov 28 10,oa 29 (.un .not (.t 28)),ov 30 29,oc 31 (xmw 9) 30 false,oc 32 (xmw 1) 30 false,oc 33 (xbi .eql 31 32) 30 false,oa 34 (.pick (.t 30) (.c iT) (.t 33)),ov 35 34,oc 36 (xmw 2) 35 false,oc 37 (xmw 9) 35 false,oc 38 (.call (.t 36) [.t 37]) 35 false,oc 39 (.un .not (.t 38)) 35 false,oa 40 (.pick (.t 35) (.c iT) (.t 39))] (cn 40 (cq [ oj 6 iF] .ret) .skip))))) (.ops [ oa 41 (xbc .add 18 (iI 1)),ov 18 41]))))))) (cq [ oj 6 iT] .ret)))
theorem zks:zi Tryz.prog 365 (pq Tryz.prog Tryz.f365 x365):=trq Tryz.f365 (by rfl) (by kernel_rfl) (by decide) (by kernel_rfl)
noncomputable def x370:XC:=(cq [ oj 2 (iI 0)] (.seq (cq [ ov 3 0,oa 4 (xbc .eql 3 (.int .u64 0))] (cn 4 (cq [ oj 2 (iI 64)] .ret) .skip)) (cq [ ov 5 0,ov 6 0,oa 7 (.un .neg (.t 6)),oa 8 (xbi .and 5 7),oa 9 (xbc .mul 8 (.int .u64 285870213051353865)),oa 10 (xbc .shr 9 (.int .u64 58)),oa 11 (.idxA 64 1 (.g 6) (.t 10)),ol 12 11,oa 13 (.cvInt .i64 (.t 12)),ov 2 13] .ret)))
theorem zli:zi Tryz.prog 370 (pq Tryz.prog Tryz.f370 x370):=trq Tryz.f370 (by rfl) (by kernel_rfl) (by decide) (by kernel_rfl)
noncomputable def x377:XC:=(cq [ oj 4 (iI 0)] (cq [ ov 5 0,ov 6 1,oa 7 (xca 393 [.t 5,.t 6]),ov 4 7] .ret))
theorem zhx:zi Tryz.prog 377 (pq Tryz.prog Tryz.f377 x377):=trq Tryz.f377 (by rfl) (by kernel_rfl) (by decide) (by kernel_rfl)
noncomputable def x390:XC:=(cq [ oa 2 (.box (.t 0)),oj 3 iF] (cq [ oe 4 0 2,ol 5 4,ol 6 1,oa 7 (xbi .eql 5 6),ov 3 7] .ret))
theorem zjm:zi Tryz.prog 390 (pq Tryz.prog Tryz.f390 x390):=trq Tryz.f390 (by rfl) (by kernel_rfl) (by decide) (by kernel_rfl)
noncomputable def x400:XC:=(cq [ oa 4 (.mov (.c (.raw (.float .f64 0))))] (.seq (.cond (.c iF) (cq [ ov 5 0,ov 6 1,oa 7 (xca 407 [.t 5,.t 6]),ov 4 7] .ret) .skip) (cq [ ov 8 0,ov 9 1,oa 10 (xca 408 [.t 8,.t 9]),ov 4 10] .ret)))
theorem zjr:zi Tryz.prog 400 (pq Tryz.prog Tryz.f400 x400):=trq Tryz.f400 (by rfl) (by kernel_rfl) (by decide) (by kernel_rfl)
noncomputable def x401:XC:=(cq [ oa 4 (.mov (.c (.raw (.float .f64 0))))] (cq [ ov 5 0,oa 6 (xca 383 [.t 5]),oa 7 (xbc .andNot 6 (.int .u64 9223372036854775808)),ov 8 1,oa 9 (xca 383 [.t 8]),oa 10 (xbc .and 9 (.int .u64 9223372036854775808)),oa 11 (xbi .or 7 10),oa 12 (xca 402 [.t 11]),ov 4 12] .ret))
theorem zlQ:zi Tryz.prog 401 (pq Tryz.prog Tryz.f401 x401):=trq Tryz.f401 (by rfl) (by kernel_rfl) (by decide) (by kernel_rfl)
noncomputable def x403:XC:=(cq [ oj 6 iF] (cq [ oe 7 1 2,ol 8 7,ov 9 0,oa 10 (xbi .eql 8 9),ov 11 10,oc 12 (xld 3) 11 true,oc 13 (xnk 12) 11 true,oc 14 (xfa 0 13) 11 true,oc 15 (xld 14) 11 true,oc 16 (xmw 1) 11 true,oc 17 (xbi .eql 15 16) 11 true,oa 18 (.pick (.t 11) (.t 17) (.c iF)),ov 6 18] .ret))
theorem zhJ:zi Tryz.prog 403 (pq Tryz.prog Tryz.f403 x403):=trq Tryz.f403 (by rfl) (by kernel_rfl) (by decide) (by kernel_rfl)
noncomputable def x407:XC:=(cq [ oa 4 (.mov (.c (.raw (.float .f64 0))))] (.ops [ oa 5 (.ex (.mkif 9) [(.c (.str [110,111,116,32,105,109,112,108,101,109,101,110,116,101,100]))]),ob (.ex .panic [.t 5])]))
theorem zku:zi Tryz.prog 407 (pq Tryz.prog Tryz.f407 x407):=trq Tryz.f407 (by rfl) (by kernel_rfl) (by decide) (by kernel_rfl)
noncomputable def x409:XC:=(cq [ oa 2 (.mov (.c (.raw (.float .f64 0)))),oj 3 (iI 0)] (.seq (cq [ ov 4 0,oa 5 (xca 398 [.t 4]),oa 6 (.bin .lss (.t 5) (.c (.raw (.float .f64 4503599627370496))))] (cn 6 (cq [ ov 7 0,oa 8 (.bin .mul (.t 7) (.c (.raw (.float .f64 4841369599423283200)))),ov 2 8,oa 3 (.mov (.c (iI (-52))))] .ret) .skip)) (cq [ ov 9 0,ov 2 9,oj 3 (iI 0)] .ret)))
theorem zjd:zi Tryz.prog 409 (pq Tryz.prog Tryz.f409 x409):=trq Tryz.f409 (by rfl) (by kernel_rfl) (by decide) (by kernel_rfl)
noncomputable def x410:XC:=(cq [ oa 2 (.mov (.c (.raw (.float .f64 0))))] (cq [ oj 3 (.int .u64 0)] (.seq (cq [ ov 4 0,oa 5 (xbc .geq 4 (iI 0))] (cn 5 (.ops [ oj 3 (.int .u64 9218868437227405312)]) (.ops [ oj 3 (.int .u64 18442240474082181120)]))) (cq [ ov 6 3,oa 7 (xca 402 [.t 6]),ov 2 7] .ret))))
theorem zhv:zi Tryz.prog 410 (pq Tryz.prog Tryz.f410 x410):=trq Tryz.f410 (by rfl) (by kernel_rfl) (by decide) (by kernel_rfl)
noncomputable def tabR:RT (Option (Nat × XFn)):=(.node none (.node none (.node none (.node (some (pq Tryz.prog Tryz.f7 x7)) (.node (some (pq Tryz.prog Tryz.f15 x15)) (.node none (.node (some (pq Tryz.prog Tryz.f63 x63)) (.node (some (pq Tryz.prog Tryz.f127 x127)) (.node (some (pq Tryz.prog Tryz.f255 x255)) .nil .nil) .nil) (.node (some (pq Tryz.prog Tryz.f191 x191)) .nil .nil)) (.node (some (pq Tryz.prog Tryz.f95 x95)) (.node (some (pq Tryz.prog Tryz.f159 x159)) .nil .nil) (.node none (.node (some (pq Tryz.prog Tryz.f351 x351)) .nil .nil) .nil))) (.node (some (pq Tryz.prog Tryz.f47 x47)) (.node (some (pq Tryz.prog Tryz.f79 x79)) (.node (some (pq Tryz.prog Tryz.f143 x143)) (.node (some (pq Tryz.prog Tryz.f271 x271)) .nil .nil) (.node (some (pq Tryz.prog Tryz.f399 x399)) .nil .nil)) (.node (some (pq Tryz.prog Tryz.f207 x207)) .nil .nil)) (.node (some (pq Tryz.prog Tryz.f111 x111)) (.node (some (pq Tryz.prog Tryz.f175 x175)) (.node (some (pq Tryz.prog Tryz.f303 x303)) .nil .nil) .nil) (.node (some (pq Tryz.prog Tryz.f239 x239)) (.node (some (pq Tryz.prog Tryz.f367 x367)) .nil .nil) .nil)))) (.node (some (pq Tryz.prog Tryz.f23 x23)) (.node none (.node (some (pq Tryz.prog Tryz.f71 x71)) (.node (some (pq Tryz.prog Tryz.f135 x135)) .nil (.node (some (pq Tryz.prog Tryz.f391 x391)) .nil .nil)) .nil) (.node (some (pq Tryz.prog Tryz.f103 x103)) (.node (some (pq Tryz.prog Tryz.f167 x167)) (.node (some (pq Tryz.prog Tryz.f295 x295)) .nil .nil) .nil) .nil)) (.node (some (pq Tryz.prog Tryz.f55 x55)) (.node none (.node (some (pq Tryz.prog Tryz.f151 x151)) .nil (.node (some (pq Tryz.prog Tryz.f407 x407)) .nil .nil)) (.node (some (pq Tryz.prog Tryz.f215 x215)) (.node (some (pq Tryz.prog Tryz.f343 x343)) .nil .nil) .nil)) (.node (some (pq Tryz.prog Tryz.f119 x119)) (.node (some (pq Tryz.prog Tryz.f183 x183)) (.node (some (pq Tryz.prog Tryz.f311 x311)) .nil .nil) .nil) (.node (some (pq Tryz.prog Tryz.f247 x247)) (.node (some (pq Tryz.prog Tryz.f375 x375)) .nil .nil) .nil))))) (.node (some (pq Tryz.prog Tryz.f11 x11)) (.node (some (pq Tryz.prog Tryz.f19 x19)) (.node (some (pq Tryz.prog Tryz.f35 x35)) (.node (some (pq Tryz.prog Tryz.f67 x67)) (.node (some (pq Tryz.prog Tryz.f131 x131)) .nil (.node (some (pq Tryz.prog Tryz.f387 x387)) .nil .nil)) (.node (some (pq Tryz.prog Tryz.f195 x195)) (.node (some (pq Tryz.prog Tryz.f323 x323)) .nil .nil) .nil)) (.node (some (pq Tryz.prog Tryz.f99 x99)) .nil (.node (some (pq Tryz.prog Tryz.f227 x227)) (.node (some (pq Tryz.prog Tryz.f355 x355)) .nil .nil) .nil))) (.node (some (pq Tryz.prog Tryz.f51 x51)) (.node (some (pq Tryz.prog Tryz.f83 x83)) (.node (some (pq Tryz.prog Tryz.f147 x147)) .nil (.node (some (pq Tryz.prog Tryz.f403 x403)) .nil .nil)) (.node none (.node (some (pq Tryz.prog Tryz.f339 x339)) .nil .nil) .nil)) (.node (some (pq Tryz.prog Tryz.f115 x115)) (.node none (.node (some (pq Tryz.prog Tryz.f307 x307)) .nil .nil) .nil) (.node (some (pq Tryz.prog Tryz.f243 x243)) (.node (some (pq Tryz.prog Tryz.f371 x371)) .nil .nil) .nil)))) (.node (some (pq Tryz.prog Tryz.f27 x27)) (.node (some (pq Tryz.prog Tryz.f43 x43)) (.node (some (pq Tryz.prog Tryz.f75 x75)) (.node (some (pq Tryz.prog Tryz.f139 x139)) (.node (some (pq Tryz.prog Tryz.f267 x267)) .nil .nil) (.node (some (pq Tryz.prog Tryz.f395 x395)) .nil .nil)) (.node none (.node (some (pq Tryz.prog Tryz.f331 x331)) .nil .nil) .nil)) (.node none (.node (some (pq Tryz.prog Tryz.f171 x171)) .nil .nil) (.node (some (pq Tryz.prog Tryz.f235 x235)) (.node (some (pq Tryz.prog Tryz.f363 x363)) .nil .nil) .nil))) (.node (some (pq Tryz.prog Tryz.f59 x59)) (.node none .nil (.node (some (pq Tryz.prog Tryz.f219 x219)) (.node (some (pq Tryz.prog Tryz.f347 x347)) .nil .nil) .nil)) (.node (some (pq Tryz.prog Tryz.f123 x123)) (.node (some (pq Tryz.prog Tryz.f187 x187)) .nil .nil) (.node (some (pq Tryz.prog Tryz.f251 x251)) (.node (some (pq Tryz.prog Tryz.f379 x379)) .nil .nil) .nil)))))) (.node (some (pq Tryz.prog Tryz.f5 x5)) (.node (some (pq Tryz.prog Tryz.f9 x9)) (.node (some (pq Tryz.prog Tryz.f17 x17)) (.node (some (pq Tryz.prog Tryz.f33 x33)) (.node (some (pq Tryz.prog Tryz.f65 x65)) (.node (some (pq Tryz.prog Tryz.f129 x129)) (.node (some (pq Tryz.prog Tryz.f257 x257)) .nil .nil) (.node (some (pq Tryz.prog Tryz.f385 x385)) .nil .nil)) (.node (some (pq Tryz.prog Tryz.f193 x193)) (.node (some (pq Tryz.prog Tryz.f321 x321)) .nil .nil) .nil)) (.node (some (pq Tryz.prog Tryz.f97 x97)) (.node (some (pq Tryz.prog Tryz.f161 x161)) (.node (some (pq Tryz.prog Tryz.f289 x289)) .nil .nil) .nil) (.node none (.node (some (pq Tryz.prog Tryz.f353 x353)) .nil .nil) .nil))) (.node (some (pq Tryz.prog Tryz.f49 x49)) (.node (some (pq Tryz.prog Tryz.f81 x81)) (.node (some (pq Tryz.prog Tryz.f145 x145)) (.node (some (pq Tryz.prog Tryz.f273 x273)) .nil .nil) (.node (some (pq Tryz.prog Tryz.f401 x401)) .nil .nil)) (.node (some (pq Tryz.prog Tryz.f209 x209)) (.node (some (pq Tryz.prog Tryz.f337 x337)) .nil .nil) .nil)) (.node (some (pq Tryz.prog Tryz.f113 x113)) .nil (.node (some (pq Tryz.prog Tryz.f241 x241)) (.node (some (pq Tryz.prog Tryz.f369 x369)) .nil .nil) .nil)))) (.node (some (pq Tryz.prog Tryz.f25 x25)) (.node (some (pq Tryz.prog Tryz.f41 x41)) (.node none (.node (some (pq Tryz.prog Tryz.f137 x137)) (.node (some (pq Tryz.prog Tryz.f265 x265)) .nil .nil) .nil) (.node (some (pq Tryz.prog Tryz.f201 x201)) .nil .nil)) (.node none (.node (some (pq Tryz.prog Tryz.f169 x169)) (.node (some (pq Tryz.prog Tryz.f297 x297)) .nil .nil) .nil) (.node (some (pq Tryz.prog Tryz.f233 x233)) .nil .nil))) (.node (some (pq Tryz.prog Tryz.f57 x57)) (.node (some (pq Tryz.prog Tryz.f89 x89)) (.node none (.node (some (pq Tryz.prog Tryz.f281 x281)) .nil .nil) (.node (some (pq Tryz.prog Tryz.f409 x409)) .nil .nil)) (.node (some (pq Tryz.prog Tryz.f217 x217)) (.node (some (pq Tryz.prog Tryz.f345 x345)) .nil .nil) .nil)) (.node (some (pq Tryz.prog Tryz.f121 x121)) (.node (some (pq Tryz.prog Tryz.f185 x185)) (.node (some (pq Tryz.prog Tryz.f313 x313)) .nil .nil) .nil) (.node (some (pq Tryz.prog Tryz.f249 x249)) (.node (some (pq Tryz.prog Tryz.f377 x377)) .nil .nil) .nil))))) (.node (some (pq Tryz.prog Tryz.f13 x13)) (.node (some (pq Tryz.prog Tryz.f21 x21)) (.node (some (pq Tryz.prog Tryz.f37 x37)) (.node (some (pq Tryz.prog Tryz.f69 x69)) (.node (some (pq Tryz.prog Tryz.f133 x133)) (.node (some (pq Tryz.prog Tryz.f261 x261)) .nil .nil) (.node (some (pq Tryz.prog Tryz.f389 x389)) .nil .nil)) (.node (some (pq Tryz.prog Tryz.f197 x197)) .nil .nil)) (.node (some (pq Tryz.prog Tryz.f101 x101)) (.node (some (pq Tryz.prog Tryz.f165 x165)) (.node (some (pq Tryz.prog Tryz.f293 x293)) .nil .nil) .nil) (.node (some (pq Tryz.prog Tryz.f229 x229)) (.node (some (pq Tryz.prog Tryz.f357 x357)) .nil .nil) .nil))) (.node (some (pq Tryz.prog Tryz.f53 x53)) (.node (some (pq Tryz.prog Tryz.f85 x85)) (.node none .nil (.node (some (pq Tryz.prog Tryz.f405 x405)) .nil .nil)) (.node (some (pq Tryz.prog Tryz.f213 x213)) (.node (some (pq Tryz.prog Tryz.f341 x341)) .nil .nil) .nil)) (.node (some (pq Tryz.prog Tryz.f117 x117)) (.node (some (pq Tryz.prog Tryz.f181 x181)) (.node (some (pq Tryz.prog Tryz.f309 x309)) .nil .nil) .nil) (.node none (.node (some (pq Tryz.prog Tryz.f373 x373)) .nil .nil) .nil)))) (.node (some (pq Tryz.prog Tryz.f29 x29)) (.node (some (pq Tryz.prog Tryz.f45 x45)) (.node (some (pq Tryz.prog Tryz.f77 x77)) (.node none (.node (some (pq Tryz.prog Tryz.f269 x269)) .nil .nil) (.node (some (pq Tryz.prog Tryz.f397 x397)) .nil .nil)) (.node none (.node (some (pq Tryz.prog Tryz.f333 x333)) .nil .nil) .nil)) (.node (some (pq Tryz.prog Tryz.f109 x109)) (.node (some (pq Tryz.prog Tryz.f173 x173)) .nil .nil) (.node (some (pq Tryz.prog Tryz.f237 x237)) (.node (some (pq Tryz.prog Tryz.f365 x365)) .nil .nil) .nil))) (.node (some (pq Tryz.prog Tryz.f61 x61)) (.node none (.node (some (pq Tryz.prog Tryz.f157 x157)) .nil .nil) (.node (some (pq Tryz.prog Tryz.f221 x221)) (.node (some (pq Tryz.prog Tryz.f349 x349)) .nil .nil) .nil)) (.node (some (pq Tryz.prog Tryz.f125 x125)) (.node (some (pq Tryz.prog Tryz.f189 x189)) .nil .nil) (.node (some (pq Tryz.prog Tryz.f253 x253)) (.node (some (pq Tryz.prog Tryz.f381 x381)) .nil .nil) .nil))))))) (.node none (.node (some (pq Tryz.prog Tryz.f4 x4)) (.node (some (pq Tryz.prog Tryz.f8 x8)) (.node (some (pq Tryz.prog Tryz.f16 x16)) (.node (some (pq Tryz.prog Tryz.f32 x32)) (.node none (.node (some (pq Tryz.prog Tryz.f128 x128)) .nil .nil) (.node (some (pq Tryz.prog Tryz.f192 x192)) (.node (some (pq Tryz.prog Tryz.f320 x320)) .nil .nil) .nil)) (.node (some (pq Tryz.prog Tryz.f96 x96)) .nil .nil)) (.node (some (pq Tryz.prog Tryz.f48 x48)) (.node (some (pq Tryz.prog Tryz.f80 x80)) (.node (some (pq Tryz.prog Tryz.f144 x144)) (.node (some (pq Tryz.prog Tryz.f272 x272)) .nil .nil) (.node (some (pq Tryz.prog Tryz.f400 x400)) .nil .nil)) .nil) (.node (some (pq Tryz.prog Tryz.f112 x112)) (.node none (.node (some (pq Tryz.prog Tryz.f304 x304)) .nil .nil) .nil) (.node (some (pq Tryz.prog Tryz.f240 x240)) (.node (some (pq Tryz.prog Tryz.f368 x368)) .nil .nil) .nil)))) (.node (some (pq Tryz.prog Tryz.f24 x24)) (.node (some (pq Tryz.prog Tryz.f40 x40)) (.node none (.node none .nil (.node (some (pq Tryz.prog Tryz.f392 x392)) .nil .nil)) .nil) (.node none (.node (some (pq Tryz.prog Tryz.f168 x168)) (.node (some (pq Tryz.prog Tryz.f296 x296)) .nil .nil) .nil) (.node (some (pq Tryz.prog Tryz.f232 x232)) .nil .nil))) (.node (some (pq Tryz.prog Tryz.f56 x56)) (.node (some (pq Tryz.prog Tryz.f88 x88)) (.node (some (pq Tryz.prog Tryz.f152 x152)) (.node (some (pq Tryz.prog Tryz.f280 x280)) .nil .nil) (.node (some (pq Tryz.prog Tryz.f408 x408)) .nil .nil)) (.node none (.node (some (pq Tryz.prog Tryz.f344 x344)) .nil .nil) .nil)) (.node (some (pq Tryz.prog Tryz.f120 x120)) (.node (some (pq Tryz.prog Tryz.f184 x184)) (.node (some (pq Tryz.prog Tryz.f312 x312)) .nil .nil) .nil) (.node (some (pq Tryz.prog Tryz.f248 x248)) (.node (some (pq Tryz.prog Tryz.f376 x376)) .nil .nil) .nil))))) (.node (some (pq Tryz.prog Tryz.f12 x12)) (.node (some (pq Tryz.prog Tryz.f20 x20)) (.node (some (pq Tryz.prog Tryz.f36 x36)) (.node (some (pq Tryz.prog Tryz.f68 x68)) (.node none .nil (.node (some (pq Tryz.prog Tryz.f388 x388)) .nil .nil)) (.node (some (pq Tryz.prog Tryz.f196 x196)) (.node (some (pq Tryz.prog Tryz.f324 x324)) .nil .nil) .nil)) (.node (some (pq Tryz.prog Tryz.f100 x100)) (.node (some (pq Tryz.prog Tryz.f164 x164)) (.node (some (pq Tryz.prog Tryz.f292 x292)) .nil .nil) .nil) (.node (some (pq Tryz.prog Tryz.f228 x228)) (.node (some (pq Tryz.prog Tryz.f356 x356)) .nil .nil) .nil))) (.node (some (pq Tryz.prog Tryz.f52 x52)) (.node (some (pq Tryz.prog Tryz.f84 x84)) (.node none .nil (.node (some (pq Tryz.prog Tryz.f404 x404)) .nil .nil)) (.node (some (pq Tryz.prog Tryz.f212 x212)) (.node (some (pq Tryz.prog Tryz.f340 x340)) .nil .nil) .nil)) (.node (some (pq Tryz.prog Tryz.f116 x116)) (.node (some (pq Tryz.prog Tryz.f180 x180)) .nil .nil) (.node (some (pq Tryz.prog Tryz.f244 x244)) (.node (some (pq Tryz.prog Tryz.f372 x372)) .nil .nil) .nil)))) (.node (some (pq Tryz.prog Tryz.f28 x28)) (.node (some (pq Tryz.prog Tryz.f44 x44)) (.node (some (pq Tryz.prog Tryz.f76 x76)) (.node (some (pq Tryz.prog Tryz.f140 x140)) (.node (some (pq Tryz.prog Tryz.f268 x268)) .nil .nil) (.node (some (pq Tryz.prog Tryz.f396 x396)) .nil .nil)) (.node none (.node (some (pq Tryz.prog Tryz.f332 x332)) .nil .nil) .nil)) (.node none (.node (some (pq Tryz.prog Tryz.f172 x172)) .nil .nil) (.node (some (pq Tryz.prog Tryz.f236 x236)) (.node (some (pq Tryz.prog Tryz.f364 x364)) .nil .nil) .nil))) (.node (some (pq Tryz.prog Tryz.f60 x60)) (.node none (.node none (.node (some (pq Tryz.prog Tryz.f284 x284)) .nil .nil) .nil) (.node (some (pq Tryz.prog Tryz.f220 x220)) .nil .nil)) (.node none (.node (some (pq Tryz.prog Tryz.f188 x188)) .nil .nil) (.node (some (pq Tryz.prog Tryz.f252 x252)) (.node (some (pq Tryz.prog Tryz.f380 x380)) .nil .nil) .nil)))))) (.node none (.node (some (pq Tryz.prog Tryz.f10 x10)) (.node (some (pq Tryz.prog Tryz.f18 x18)) (.node (some (pq Tryz.prog Tryz.f34 x34)) (.node (some (pq Tryz.prog Tryz.f66 x66)) (.node (some (pq Tryz.prog Tryz.f130 x130)) (.node (some (pq Tryz.prog Tryz.f258 x258)) .nil .nil) (.node (some (pq Tryz.prog Tryz.f386 x386)) .nil .nil)) (.node (some (pq Tryz.prog Tryz.f194 x194)) (.node (some (pq Tryz.prog Tryz.f322 x322)) .nil .nil) .nil)) (.node (some (pq Tryz.prog Tryz.f98 x98)) (.node none (.node (some (pq Tryz.prog Tryz.f290 x290)) .nil .nil) .nil) (.node none (.node (some (pq Tryz.prog Tryz.f354 x354)) .nil .nil) .nil))) (.node none (.node none (.node (some (pq Tryz.prog Tryz.f146 x146)) (.node (some (pq Tryz.prog Tryz.f274 x274)) .nil .nil) .nil) (.node (some (pq Tryz.prog Tryz.f210 x210)) (.node (some (pq Tryz.prog Tryz.f338 x338)) .nil .nil) .nil)) (.node (some (pq Tryz.prog Tryz.f114 x114)) (.node (some (pq Tryz.prog Tryz.f178 x178)) (.node (some (pq Tryz.prog Tryz.f306 x306)) .nil .nil) .nil) (.node (some (pq Tryz.prog Tryz.f242 x242)) (.node (some (pq Tryz.prog Tryz.f370 x370)) .nil .nil) .nil)))) (.node (some (pq Tryz.prog Tryz.f26 x26)) (.node (some (pq Tryz.prog Tryz.f42 x42)) (.node (some (pq Tryz.prog Tryz.f74 x74)) (.node (some (pq Tryz.prog Tryz.f138 x138)) (.node (some (pq Tryz.prog Tryz.f266 x266)) .nil .nil) (.node (some (pq Tryz.prog Tryz.f394 x394)) .nil .nil)) .nil) (.node none (.node (some (pq Tryz.prog Tryz.f170 x170)) (.node (some (pq Tryz.prog Tryz.f298 x298)) .nil .nil) .nil) (.node (some (pq Tryz.prog Tryz.f234 x234)) .nil .nil))) (.node (some (pq Tryz.prog Tryz.f58 x58)) (.node (some (pq Tryz.prog Tryz.f90 x90)) (.node none (.node (some (pq Tryz.prog Tryz.f282 x282)) .nil .nil) (.node (some (pq Tryz.prog Tryz.f410 x410)) .nil .nil)) (.node (some (pq Tryz.prog Tryz.f218 x218)) (.node (some (pq Tryz.prog Tryz.f346 x346)) .nil .nil) .nil)) (.node (some (pq Tryz.prog Tryz.f122 x122)) (.node (some (pq Tryz.prog Tryz.f186 x186)) .nil .nil) (.node (some (pq Tryz.prog Tryz.f250 x250)) .nil .nil))))) (.node (some (pq Tryz.prog Tryz.f14 x14)) (.node (some (pq Tryz.prog Tryz.f22 x22)) (.node (some (pq Tryz.prog Tryz.f38 x38)) (.node (some (pq Tryz.prog Tryz.f70 x70)) (.node (some (pq Tryz.prog Tryz.f134 x134)) .nil (.node (some (pq Tryz.prog Tryz.f390 x390)) .nil .nil)) .nil) (.node (some (pq Tryz.prog Tryz.f102 x102)) (.node none (.node (some (pq Tryz.prog Tryz.f294 x294)) .nil .nil) .nil) (.node none (.node (some (pq Tryz.prog Tryz.f358 x358)) .nil .nil) .nil))) (.node (some (pq Tryz.prog Tryz.f54 x54)) (.node none (.node (some (pq Tryz.prog Tryz.f150 x150)) .nil (.node (some (pq Tryz.prog Tryz.f406 x406)) .nil .nil)) (.node (some (pq Tryz.prog Tryz.f214 x214)) (.node (some (pq Tryz.prog Tryz.f342 x342)) .nil .nil) .nil)) (.node (some (pq Tryz.prog Tryz.f118 x118)) (.node (some (pq Tryz.prog Tryz.f182 x182)) (.node (some (pq Tryz.prog Tryz.f310 x310)) .nil .nil) .nil) (.node (some (pq Tryz.prog Tryz.f246 x246)) (.node (some (pq Tryz.prog Tryz.f374 x374)) .nil .nil) .nil)))) (.node none (.node (some (pq Tryz.prog Tryz.f46 x46)) (.node (some (pq Tryz.prog Tryz.f78 x78)) (.node none (.node (some (pq Tryz.prog Tryz.f270 x270)) .nil .nil) (.node (some (pq Tryz.prog Tryz.f398 x398)) .nil .nil)) (.node none (.node (some (pq Tryz.prog Tryz.f334 x334)) .nil .nil) .nil)) (.node (some (pq Tryz.prog Tryz.f110 x110)) (.node (some (pq Tryz.prog Tryz.f174 x174)) (.node (some (pq Tryz.prog Tryz.f302 x302)) .nil .nil) .nil) (.node (some (pq Tryz.prog Tryz.f238 x238)) (.node (some (pq Tryz.prog Tryz.f366 x366)) .nil .nil) .nil))) (.node (some (pq Tryz.prog Tryz.f62 x62)) (.node (some (pq Tryz.prog Tryz.f94 x94)) (.node (some (pq Tryz.prog Tryz.f158 x158)) .nil .nil) (.node none (.node (some (pq Tryz.prog Tryz.f350 x350)) .nil .nil) .nil)) (.node (some (pq Tryz.prog Tryz.f126 x126)) (.node (some (pq Tryz.prog Tryz.f190 x190)) .nil .nil) (.node (some (pq Tryz.prog Tryz.f254 x254)) (.node (some (pq Tryz.prog Tryz.f382 x382)) .nil .nil) .nil))))))))
theorem z7j:tabR.All (zi Tryz.prog) id:=⟨(fun _ h=>by cases h),⟨(fun _ h=>by cases h),⟨(fun _ h=>by cases h),⟨zf k7,⟨zf k15,⟨(fun _ h=>by cases h),⟨zf k63,⟨zf zkc,⟨zf ziN,trivial,trivial⟩,trivial⟩,⟨zf zjJ,trivial,trivial⟩⟩,⟨zf k95,⟨zf zj2,trivial,trivial⟩,⟨(fun _ h=>by cases h),⟨zf zlC,trivial,trivial⟩,trivial⟩⟩⟩,⟨zf k47,⟨zf k79,⟨zf zie,⟨zf zky,trivial,trivial⟩,⟨zf zkw,trivial,trivial⟩⟩,⟨zf zj1,trivial,trivial⟩⟩,⟨zf zlx,⟨zf ziV,⟨zf zhQ,trivial,trivial⟩,trivial⟩,⟨zf zjH,⟨zf zl8,trivial,trivial⟩,trivial⟩⟩⟩⟩,⟨zf k23,⟨(fun _ h=>by cases h),⟨zf k71,⟨zf zkD,trivial,⟨zf zj4,trivial,trivial⟩⟩,trivial⟩,⟨zf zlg,⟨zf zhL,⟨zf zjO,trivial,trivial⟩,trivial⟩,trivial⟩⟩,⟨zf k55,⟨(fun _ h=>by cases h),⟨zf zhF,trivial,⟨zf zku,trivial,trivial⟩⟩,⟨zf zjY,⟨zf zlt,trivial,trivial⟩,trivial⟩⟩,⟨zf zkN,⟨zf zhj,⟨zf zjP,trivial,trivial⟩,trivial⟩,⟨zf zih,⟨zf ziX,trivial,trivial⟩,trivial⟩⟩⟩⟩⟩,⟨zf k11,⟨zf k19,⟨zf k35,⟨zf k67,⟨zf zk5,trivial,⟨zf ziL,trivial,trivial⟩⟩,⟨zf zlF,⟨zf zi3,trivial,trivial⟩,trivial⟩⟩,⟨zf k99,trivial,⟨zf zjM,⟨zf zjZ,trivial,trivial⟩,trivial⟩⟩⟩,⟨zf k51,⟨zf k83,⟨zf ziW,trivial,⟨zf zhJ,trivial,trivial⟩⟩,⟨(fun _ h=>by cases h),⟨zf zi4,trivial,trivial⟩,trivial⟩⟩,⟨zf ziE,⟨(fun _ h=>by cases h),⟨zf zkP,trivial,trivial⟩,trivial⟩,⟨zf zj7,⟨zf ziq,trivial,trivial⟩,trivial⟩⟩⟩⟩,⟨zf k27,⟨zf k43,⟨zf k75,⟨zf zjg,⟨zf zhV,trivial,trivial⟩,⟨zf zlL,trivial,trivial⟩⟩,⟨(fun _ h=>by cases h),⟨zf zhp,trivial,trivial⟩,trivial⟩⟩,⟨(fun _ h=>by cases h),⟨zf zhm,trivial,trivial⟩,⟨zf ziD,⟨zf zlO,trivial,trivial⟩,trivial⟩⟩⟩,⟨zf k59,⟨(fun _ h=>by cases h),trivial,⟨zf zi2,⟨zf ziO,trivial,trivial⟩,trivial⟩⟩,⟨zf zkp,⟨zf zkn,trivial,trivial⟩,⟨zf ziR,⟨zf zjw,trivial,trivial⟩,trivial⟩⟩⟩⟩⟩⟩,⟨zf k5,⟨zf k9,⟨zf k17,⟨zf k33,⟨zf k65,⟨zf zjn,⟨zf zkF,trivial,trivial⟩,⟨zf zlV,trivial,trivial⟩⟩,⟨zf zkW,⟨zf zla,trivial,trivial⟩,trivial⟩⟩,⟨zf k97,⟨zf zjK,⟨zf zk2,trivial,trivial⟩,trivial⟩,⟨(fun _ h=>by cases h),⟨zf zhW,trivial,trivial⟩,trivial⟩⟩⟩,⟨zf k49,⟨zf k81,⟨zf zlU,⟨zf zhZ,trivial,trivial⟩,⟨zf zlQ,trivial,trivial⟩⟩,⟨zf zhD,⟨zf zjU,trivial,trivial⟩,trivial⟩⟩,⟨zf zkE,trivial,⟨zf zjl,⟨zf zln,trivial,trivial⟩,trivial⟩⟩⟩⟩,⟨zf k25,⟨zf k41,⟨(fun _ h=>by cases h),⟨zf zl9,⟨zf zkb,trivial,trivial⟩,trivial⟩,⟨zf zka,trivial,trivial⟩⟩,⟨(fun _ h=>by cases h),⟨zf zle,⟨zf zkY,trivial,trivial⟩,trivial⟩,⟨zf ziK,trivial,trivial⟩⟩⟩,⟨zf k57,⟨zf k89,⟨(fun _ h=>by cases h),⟨zf zhE,trivial,trivial⟩,⟨zf zjd,trivial,trivial⟩⟩,⟨zf zlR,⟨zf zkJ,trivial,trivial⟩,trivial⟩⟩,⟨zf ziF,⟨zf zlc,⟨zf zk4,trivial,trivial⟩,trivial⟩,⟨zf zhI,⟨zf zhx,trivial,trivial⟩,trivial⟩⟩⟩⟩⟩,⟨zf k13,⟨zf k21,⟨zf k37,⟨zf k69,⟨zf zjA,⟨zf ziw,trivial,trivial⟩,⟨zf zjS,trivial,trivial⟩⟩,⟨zf zhi,trivial,trivial⟩⟩,⟨zf zhq,⟨zf zkv,⟨zf zhk,trivial,trivial⟩,trivial⟩,⟨zf ziY,⟨zf zlw,trivial,trivial⟩,trivial⟩⟩⟩,⟨zf k53,⟨zf k85,⟨(fun _ h=>by cases h),trivial,⟨zf zlI,trivial,trivial⟩⟩,⟨zf zit,⟨zf zkx,trivial,trivial⟩,trivial⟩⟩,⟨zf zhn,⟨zf zju,⟨zf ziA,trivial,trivial⟩,trivial⟩,⟨(fun _ h=>by cases h),⟨zf zki,trivial,trivial⟩,trivial⟩⟩⟩⟩,⟨zf k29,⟨zf k45,⟨zf k77,⟨(fun _ h=>by cases h),⟨zf zlb,trivial,trivial⟩,⟨zf zkT,trivial,trivial⟩⟩,⟨(fun _ h=>by cases h),⟨zf zl3,trivial,trivial⟩,trivial⟩⟩,⟨zf zjI,⟨zf zlA,trivial,trivial⟩,⟨zf zhU,⟨zf zks,trivial,trivial⟩,trivial⟩⟩⟩,⟨zf k61,⟨(fun _ h=>by cases h),⟨zf zhC,trivial,trivial⟩,⟨zf zlh,⟨zf zif,trivial,trivial⟩,trivial⟩⟩,⟨zf zjt,⟨zf ziT,trivial,trivial⟩,⟨zf zkO,⟨zf zhs,trivial,trivial⟩,trivial⟩⟩⟩⟩⟩⟩⟩,⟨(fun _ h=>by cases h),⟨zf k4,⟨zf k8,⟨zf k16,⟨zf k32,⟨(fun _ h=>by cases h),⟨zf zlp,trivial,trivial⟩,⟨zf zlq,⟨zf zhX,trivial,trivial⟩,trivial⟩⟩,⟨zf k96,trivial,trivial⟩⟩,⟨zf k48,⟨zf k80,⟨zf zhz,⟨zf zlT,trivial,trivial⟩,⟨zf zjr,trivial,trivial⟩⟩,trivial⟩,⟨zf zji,⟨(fun _ h=>by cases h),⟨zf zhO,trivial,trivial⟩,trivial⟩,⟨zf zhP,⟨zf zjs,trivial,trivial⟩,trivial⟩⟩⟩⟩,⟨zf k24,⟨zf k40,⟨(fun _ h=>by cases h),⟨(fun _ h=>by cases h),trivial,⟨zf zix,trivial,trivial⟩⟩,trivial⟩,⟨(fun _ h=>by cases h),⟨zf zjN,⟨zf zlu,trivial,trivial⟩,trivial⟩,⟨zf zia,trivial,trivial⟩⟩⟩,⟨zf k56,⟨zf k88,⟨zf zke,⟨zf zjo,trivial,trivial⟩,⟨zf zii,trivial,trivial⟩⟩,⟨(fun _ h=>by cases h),⟨zf zhh,trivial,trivial⟩,trivial⟩⟩,⟨zf zk6,⟨zf zlN,⟨zf zls,trivial,trivial⟩,trivial⟩,⟨zf zjT,⟨zf zhA,trivial,trivial⟩,trivial⟩⟩⟩⟩⟩,⟨zf k12,⟨zf k20,⟨zf k36,⟨zf k68,⟨(fun _ h=>by cases h),trivial,⟨zf zlm,trivial,trivial⟩⟩,⟨zf zin,⟨zf zk8,trivial,trivial⟩,trivial⟩⟩,⟨zf zkf,⟨zf zkC,⟨zf ziz,trivial,trivial⟩,trivial⟩,⟨zf zkl,⟨zf zhT,trivial,trivial⟩,trivial⟩⟩⟩,⟨zf k52,⟨zf k84,⟨(fun _ h=>by cases h),trivial,⟨zf ziP,trivial,trivial⟩⟩,⟨zf zkS,⟨zf zlH,trivial,trivial⟩,trivial⟩⟩,⟨zf zj3,⟨zf zj8,trivial,trivial⟩,⟨zf ziQ,⟨zf zjW,trivial,trivial⟩,trivial⟩⟩⟩⟩,⟨zf k28,⟨zf k44,⟨zf k76,⟨zf zkq,⟨zf ziI,trivial,trivial⟩,⟨zf zlS,trivial,trivial⟩⟩,⟨(fun _ h=>by cases h),⟨zf zid,trivial,trivial⟩,trivial⟩⟩,⟨(fun _ h=>by cases h),⟨zf zl2,trivial,trivial⟩,⟨zf zlk,⟨zf zk0,trivial,trivial⟩,trivial⟩⟩⟩,⟨zf k60,⟨(fun _ h=>by cases h),⟨(fun _ h=>by cases h),⟨zf zjz,trivial,trivial⟩,trivial⟩,⟨zf zkM,trivial,trivial⟩⟩,⟨(fun _ h=>by cases h),⟨zf zlB,trivial,trivial⟩,⟨zf zl7,⟨zf zlD,trivial,trivial⟩,trivial⟩⟩⟩⟩⟩⟩,⟨(fun _ h=>by cases h),⟨zf k10,⟨zf k18,⟨zf k34,⟨zf k66,⟨zf ziJ,⟨zf zlM,trivial,trivial⟩,⟨zf zkd,trivial,trivial⟩⟩,⟨zf zhM,⟨zf zjh,trivial,trivial⟩,trivial⟩⟩,⟨zf k98,⟨(fun _ h=>by cases h),⟨zf zi5,trivial,trivial⟩,trivial⟩,⟨(fun _ h=>by cases h),⟨zf zlr,trivial,trivial⟩,trivial⟩⟩⟩,⟨(fun _ h=>by cases h),⟨(fun _ h=>by cases h),⟨zf ziv,⟨zf zkh,trivial,trivial⟩,trivial⟩,⟨zf ziS,⟨zf zlf,trivial,trivial⟩,trivial⟩⟩,⟨zf zi7,⟨zf zi8,⟨zf zk7,trivial,trivial⟩,trivial⟩,⟨zf zis,⟨zf zli,trivial,trivial⟩,trivial⟩⟩⟩⟩,⟨zf k26,⟨zf k42,⟨zf k74,⟨zf zjq,⟨zf ziH,trivial,trivial⟩,⟨zf zhR,trivial,trivial⟩⟩,trivial⟩,⟨(fun _ h=>by cases h),⟨zf zkX,⟨zf zjR,trivial,trivial⟩,trivial⟩,⟨zf zib,trivial,trivial⟩⟩⟩,⟨zf k58,⟨zf k90,⟨(fun _ h=>by cases h),⟨zf ziB,trivial,trivial⟩,⟨zf zhv,trivial,trivial⟩⟩,⟨zf zjX,⟨zf zjx,trivial,trivial⟩,trivial⟩⟩,⟨zf zij,⟨zf zl5,trivial,trivial⟩,⟨zf zkr,trivial,trivial⟩⟩⟩⟩⟩,⟨zf k14,⟨zf k22,⟨zf k38,⟨zf k70,⟨zf zlG,trivial,⟨zf zjm,trivial,trivial⟩⟩,trivial⟩,⟨zf zhG,⟨(fun _ h=>by cases h),⟨zf zlW,trivial,trivial⟩,trivial⟩,⟨(fun _ h=>by cases h),⟨zf zko,trivial,trivial⟩,trivial⟩⟩⟩,⟨zf k54,⟨(fun _ h=>by cases h),⟨zf zi0,trivial,⟨zf ziZ,trivial,trivial⟩⟩,⟨zf zk1,⟨zf ziU,trivial,trivial⟩,trivial⟩⟩,⟨zf zlK,⟨zf zkV,⟨zf zj5,trivial,trivial⟩,trivial⟩,⟨zf zlJ,⟨zf zkt,trivial,trivial⟩,trivial⟩⟩⟩⟩,⟨(fun _ h=>by cases h),⟨zf k46,⟨zf k78,⟨(fun _ h=>by cases h),⟨zf zl1,trivial,trivial⟩,⟨zf zjF,trivial,trivial⟩⟩,⟨(fun _ h=>by cases h),⟨zf zjb,trivial,trivial⟩,trivial⟩⟩,⟨zf zlj,⟨zf zhy,⟨zf zht,trivial,trivial⟩,trivial⟩,⟨zf zkB,⟨zf zhu,trivial,trivial⟩,trivial⟩⟩⟩,⟨zf k62,⟨zf k94,⟨zf zi6,trivial,trivial⟩,⟨(fun _ h=>by cases h),⟨zf zik,trivial,trivial⟩,trivial⟩⟩,⟨zf zlP,⟨zf zho,trivial,trivial⟩,⟨zf zkG,⟨zf zja,trivial,trivial⟩,trivial⟩⟩⟩⟩⟩⟩⟩⟩
end Go.X.TryzW
end
section
namespace Go.X
section
variable {E:Env} {L:List Blk} {KV:IV->List Blk->Prop}
@[go_sem] theorem ze3 {z:List IV}:xop E (.build z []) cev L KV=KV (.agg z) L:=nr rfl
@[go_sem] theorem ze8 {z:List IV} {off n:Nat} {x:IV} {r:List (Nat × Nat × Opd)} (d:(cellsOf x).length=n) (b:off+n<=z.length) :
  xop E (.build z ((off,n,.c x)::r)) cev L KV=xop E (.build (splice z off (cellsOf x)) r) cev L KV:=by
 simp only [xop,List.map_cons,zV,Va]
 rw [if_pos ⟨d,b⟩]
end
attribute [go_sem] Bool.false_eq_true Bool.not_true Bool.not_false Bool.and_true Bool.true_and Bool.or_false Bool.false_or Bool.and_false Bool.false_and Bool.or_true Bool.true_or true_and and_true eq_self not_false_eq_true List.map_cons List.map_nil List.nil_append List.append_nil decide_true decide_false llc lln List.getD_cons_zero List.getD_cons_succ Int.cast_ofNat_Int Int.toNat_natCast Int.natCast_nonneg List.getElem?_cons_zero List.getElem?_cons_succ List.cons_append List.set_cons_zero List.set_cons_succ List.take_zero List.take_succ_cons List.drop_zero List.drop_succ_cons List.drop_nil List.take_nil List.all_cons List.all_nil Nat.zero_add Nat.zero_lt_one Nat.le_refl
end Go.X
end
section
namespace Go.X
open Go
section
variable {E0 E:Env} {L:List Blk}
theorem WN {f:FuncId} {fn:Func} {n:Nat} {S O J:Code} {x1 x3:XC} {rs:List jQ} {d k:Nat} {caps:List Nat}
  (I : E0.P.funcs[f]? = some fn) (T : fn.body = some (.seq S (.seq O J))) (G : fn.name ≠ "runtime.NumGoroutine") (Y : fn.ntmps = n) (hd : d < n)
  (m:comp E0.P n S=some x1) (r:comp E0.P n J=some x3) (q:zF (ZY E0.P) fn.results.toList=some rs) (D:safe 0 x3=true) (u:safe 0 x1=true) (s:vY E0.P k)
  (j:∀(Q:Exit→Act→World→Prop) (a:Act) (w:World),a.defers=[]→a.tmps.size=n→
   Q .normal { tmps:=a.tmps.setIfInBounds d (.func (.func k) #[] ((caps.map fun t=>a.tmps.getD t undef).toArray)),defers:=[{ target:=.fn (.func k) ((caps.map fun t=>a.tmps.getD t undef).toArray),args:=#[] }] } w→O.wp E0.P Q a w)
  (b:z4k E0.P k caps.length):z4F E0 f n rs x1 x3 d k caps:=by
 subst Y
 intro E Z args L M R l U V
 rw [←Z.P] at I m r q s j b
 exact z14 (lo:=0) (PQ:=fun _ _ _=>False) I T G l hd m r q D s j u U (fun A L1 X kept B=>V A L1 X 0 kept B) (fun _ _ _ _ _ h=>h.elim) b
def Jm (sz : Nat) (z : List IV) (o : XO) : XC :=
 (.seq
  (.ops [
    ⟨(some 2), (.mov (.c .nsl)), none⟩])
  (.seq
   (.seq
    (.ops [
      ⟨(some 3), (.mov (.t 0)), none⟩,
      ⟨(some 4), (.isNil 0 false (.t 3)), none⟩])
    (.cond (.t 4)
     (.seq
      (.ops [
        ⟨(some 2), (.mov (.c .nsl)), none⟩])
      .ret)
     .skip))
   (.seq
    (.ops [
      ⟨(some 5), (.bslice sz z 0 []), none⟩,
      ⟨(some 6), (.mov (.t 0)), none⟩,
      ⟨(some 7), o, none⟩,
      ⟨(some 2), (.mov (.t 7)), none⟩])
    .ret)))
def z6a:IV->Bool
 | .bool _ | .int _ _ | .str _ | .raw _ | .isl _ | .iptr _ _ _=>true
 | _=>false
def z2a (sz:Nat) (rows:List (List IV)):Bool:=rows.all (fun r=>Nat.beq r.length sz&&r.all fun v=>z6a v&&zU v)&&Nat.ble rows.length 1000000
theorem z2l {v:IV} (h:z6a v=true) (L:List Blk) (n:Nat) (m:Ren):conv L (n+1) m v=some v:=by
 cases v<;>first | rfl | cases h
theorem z3m {sz:Nat} {rows:List (List IV)} (h:z2a sz rows=true):yc sz rows/\rows.length<=1000000/\∀(L:List Blk) (n:Nat) (m:Ren),zF (zF (conv L (n+1) m)) rows=some rows:=by
 unfold z2a at h
 rw [Bool.and_eq_true,List.all_eq_true] at h
 obtain ⟨q,l⟩:=h
 have j:∀r∈rows,r.length=sz/\∀v∈r,z6a v=true/\zU v=true:=fun r b=>by
  have:=q r b
  rw [Bool.and_eq_true,List.all_eq_true] at this
  exact ⟨Nat.eq_of_beq_eq_true this.1,fun v d=>by have:=this.2 v d;rwa [Bool.and_eq_true] at this⟩
 refine ⟨fun r b=>⟨(j r b).1,List.all_eq_true.2 fun v d=>((j r b).2 v d).2⟩,Nat.le_of_ble_eq_true l,fun L n m=>WH fun r b=>WH fun v d=>z2l ((j r b).2 v d).1 L n m⟩
theorem zcz {s:Nat} {k:Blk} (h:L[s]?=some k):L.set s k=L:=by
 apply List.ext_getElem?
 intro i
 rw [List.getElem?_set]
 split
 ·rename_i b;subst b;rw [if_pos (List.getElem?_eq_some_iff.1 h).1,h]
 ·rfl
theorem zaA {sz by_ t n:Nat} {x:IV} {rows:List (List IV)} {KV:IV->List Blk->Prop} (d:L[t]?=some (.cells sz rows)) (h:rows.length=n) (b:rowsOf L x=some []) (l:KV (.sl t 0 n n) L):xop E (.append sz by_ (.c (.sl t 0 n n)) (.c x)) cev L KV:=by
 subst h
 show ZN sz by_ (.sl t 0 _ _) x L KV
 unfold ZN
 simp only [b,d]
 refine ⟨(fun r b=>nomatch b),trivial,od,?_⟩
 rw [if_pos (by simp)]
 have j:splice rows (0+rows.length) []=rows:=by simp [splice]
 rw [j,zcz d]
 exact l
theorem z1O {sz by_ t n:Nat} {x:IV} {rs rows:List (List IV)} {KV:IV->List Blk->Prop} (m:L[t]?=some (.cells sz rows)) (h:rows.length=n) (q:rowsOf L x=some rs) (hc:yc sz rs) (b:rs≠[]) (j:(n+rs.length)*by_<=70368744177664)
  (l:KV (.sl L.length 0 (n+rs.length) (n+rs.length)) (L.set t .dead++[.cells sz (rows++rs)])):xop E (.append sz by_ (.c (.sl t 0 n n)) (.c x)) cev L KV:=by
 subst h
 show ZN sz by_ (.sl t 0 _ _) x L KV
 unfold ZN
 rw [q]
 have d:0<rs.length:=List.length_pos_iff.2 b
 refine ⟨hc,?_⟩
 simp only [m]
 refine ⟨trivial,od,?_⟩
 rw [if_neg od]
 refine ⟨j,?_⟩
 simpa using l
theorem yZ {f : FuncId} {fn : Func} {n sz by_ : Nat} {z : List IV} {rows : List (List IV)} (l : E.P.funcs[f]? = some fn) (A : Zz E.P fn = some ⟨n, [.tmp 2], Jm sz z (.append sz by_ (.t 5) (.t 6))⟩) (j : fn.name ≠ "runtime.NumGoroutine") (s : 1 ≤ fn.ntmps)
  (u:z.length=sz) (m:by_≤10000) (h:z2a sz rows=true):ZH E f [.isl rows] (.isl rows):=by
 obtain ⟨q,r,d⟩:=z3m h
 refine z5h l A j s ?_
 generalize b:entry _=ρ
 have w:ρ 0=.isl rows:=by rw [←b];rfl
 clear b
 unfold Jm
 simp only [w,u,go_sem]
 refine ⟨?_,fun h=>?_⟩
 ·by_cases hne:rows=[]
  ·subst hne
   refine zaA (rows:=[]) rfl rfl rfl ?_
   simp only [go_sem]
   rfl
  ·refine z1O (rows:=[]) (rs:=rows) rfl rfl rfl q hne (by have:=Nat.mul_le_mul r m;simp only [Nat.zero_add];omega) ?_
   simp only [go_sem]
   simp only [fuel,conv,zW,List.getElem?_cons_succ,List.getElem?_cons_zero,Nat.zero_add,Nat.le_refl,if_true,List.drop_zero,List.take_length]
   rw [d];rfl
 ·subst h
  rfl
theorem z2o {f : FuncId} {fn : Func} {n ty : Nat} {rows : List (List IV)} (m : E.P.funcs[f]? = some fn) (w : Zz E.P fn = some ⟨n, [.tmp 2], Jm 1 [.int .u8 0] (.ex (.appT ty 1) [.t 5, .t 6])⟩) (l : fn.name ≠ "runtime.NumGoroutine") (q : 1 ≤ fn.ntmps)
  (h:z2a 1 rows=true):ZH E f [.isl rows] (.isl rows):=by
 obtain ⟨b,A,j⟩:=z3m h
 refine z5h m w l q ?_
 generalize d:entry _=ρ
 have u:ρ 0=.isl rows:=by rw [←d];rfl
 clear d
 unfold Jm
 simp only [u,go_sem]
 refine ⟨?_,fun h=>?_⟩
 ·by_cases hne:rows=[]
  ·subst hne
   unfold YG
   refine ⟨(fun r b=>nomatch b),rfl,rfl,?_⟩
   show Zl 1 1 _ _ _ _ _ _
   unfold Zl
   refine ⟨(fun r b=>nomatch b),rfl,by simp,?_⟩
   simp only [lln,Nat.add_zero,Nat.le_refl,if_true]
   simp only [go_sem]
   rfl
  ·refine z6x (rows:=[]) (rs:=rows) rfl (.inl rfl) rfl rfl b hne (by simp only [Nat.zero_add];omega) ?_
   intro k s
   rcases s with rfl | rfl<;>(simp only [fuel,conv,zW,List.nil_append,Nat.zero_add,List.set_cons_zero,List.cons_append,List.getElem?_cons_succ,List.getElem?_cons_zero,Nat.le_refl,if_true,List.drop_zero,List.take_length];rw [j];rfl)
 ·subst h
  rfl
theorem WV {L U:List Blk} {x:IV} {rs:List (List IV)} (h:rowsOf L x=some rs):rowsOf (L++U) x=some rs:=by
 cases x
 case sl s off len cap=>
  simp only [rowsOf] at h ⊢
  cases hs:L[s]? with
  | none=>rw [hs] at h;cases h
  | some b=>
   rw [hs] at h
   rw [List.getElem?_append_left (List.getElem?_eq_some_iff.1 hs).1,hs]
   exact h
 all_goals exact h
theorem z6t {f : FuncId} {fn : Func} {n sz by_ : Nat} {z : List IV} {x : IV} {rs : List (List IV)} (I : E.P.funcs[f]? = some fn) (Q : Zz E.P fn = some ⟨n, [.tmp 2], Jm sz z (.append sz by_ (.t 5) (.t 6))⟩) (w : fn.name ≠ "runtime.NumGoroutine") (O : 1 ≤ fn.ntmps)
  (D:z.length=sz) (J:by_≤10000) (A:rowsOf L x=some rs) (s:(∃rows,x=.isl rows)∨∃b o l c,x=.sl b o l c∧¬c=0) (B:yc sz rs) (m:rs≠[]) (M:rs.length≤1000000) :
  XT E f [x] L fun r L'=>r=.sl (L.length+1) 0 rs.length rs.length∧L'=L++[.dead]++[.cells sz rs]:=by
 refine zaZ I Q w O ?_
 generalize u:entry _=ρ
 have G:ρ 0=x:=by rw [←u];rfl
 clear u
 unfold Jm
 have q:rowsOf (L++[Blk.cells sz []]) x=some rs:=WV A
 have S:rs.length*by_≤1000000*10000:=Nat.mul_le_mul M J
 have d:(L++[Blk.cells sz []]).set L.length Blk.dead++[Blk.cells sz ([]++rs)]=L++[.dead]++[.cells sz rs]:=by simp
 have j:(L++[Blk.cells sz ([]:List (List IV))])[L.length]?=some (.cells sz []):=by simp
 rcases s with ⟨rows,rfl⟩ | ⟨b,o,l,c,rfl,hc⟩
 ·simp only [G,D,go_sem]
  refine ⟨?_,fun h=>?_⟩
  ·refine z1O (rows:=[]) (rs:=rs) j rfl q B m (by simp only [Nat.zero_add];omega) ?_
   rw [d]
   simp only [Nat.zero_add,z7W,z9g,z2B,go_sem]
   simp [ZV]
  ·subst h;cases A;exact absurd rfl m
 ·simp only [G,D,go_sem]
  refine ⟨?_,fun h=>absurd h hc⟩
  refine z1O (rows:=[]) (rs:=rs) j rfl q B m (by simp only [Nat.zero_add];omega) ?_
  rw [d]
  simp only [Nat.zero_add,z7W,z9g,z2B,go_sem]
  simp [ZV]
end
def zdL (c:Int):Int:=z5S .u32 (zcW .u32 c 1) (IntKind.u32.wrap (3988292384*band .u32 c 1))
def YN:Nat->Int->Int
 | 0,c=>c
 | k+1,c=>zdL (YN k c)
def byteAt (rs:List (List IV)) (i:Nat):Int:=match rs.getD i [] with
 | [.int _ v]=>v
 | _=>0
def z3V (rs:List (List IV)):Nat->Int
 | 0=>4294967295
 | i+1=>YN 8 (z5S .u32 (z3V rs i) (IntKind.u32.wrap (byteAt rs i)))
def sumOf (rs:List (List IV)):Int:=zdh .u32 (z3V rs rs.length)
def zad (s:Nat):Nat:=Nat.xor (Nat.shiftRight s 1) (Nat.mul 3988292384 (Nat.land s 1))
noncomputable def bitsF (n:Nat):Nat->Nat:=@Nat.rec (fun _=>Nat->Nat) (fun s=>s) (fun _ ih s=>ih (zad s)) n
noncomputable def byF (row:List IV):Nat:=match row with
 | [.int _ n]=>n.toNat
 | _=>0
noncomputable def sumF (l:List (List IV)):Nat->Nat:=@List.rec (List IV) (fun _=>Nat->Nat) (fun s=>s) (fun row _ ih s=>ih (bitsF 8 (Nat.xor s (byF row)))) l
noncomputable def sumR (l:List (List IV)):Int:=Int.ofNat (Nat.xor (sumF l 4294967295) 4294967295)
def zbv:List IV->Bool
 | [.int .u8 (.ofNat n)]=>Nat.blt n 256
 | _=>false
def yM (rs:List (List IV)):Bool:=rs.all zbv&&Nat.ble rs.length 1000000
theorem z7H {a b:Nat} (ha:a<4294967296) (d:b<4294967296):a^^^b<4294967296:=Nat.xor_lt_two_pow (n:=32) ha d
theorem ofInt32 (a:Nat):(BitVec.ofInt 32 (a:Int))=BitVec.ofNat 32 a:=by simp
theorem z9d {a b:Nat} (ha:a<4294967296) (d:b<4294967296):z5S .u32 a b=((a^^^b:Nat):Int):=by
 have h:=z7H ha d
 unfold z5S
 show IntKind.u32.wrap ((BitVec.ofInt 32 (a:Int)^^^BitVec.ofInt 32 (b:Int)).toNat:Nat)=_
 rw [ofInt32,ofInt32,BitVec.toNat_xor,BitVec.toNat_ofNat,BitVec.toNat_ofNat,Nat.mod_eq_of_lt ha,Nat.mod_eq_of_lt d]
 exact zcF od od
theorem zal {s:Nat} (hs:s<4294967296):zad s<4294967296:=by
 have b:s >>> 1<4294967296:=by rw [Nat.shiftRight_eq_div_pow];omega
 have d:s&&&1<=1:=Nat.and_le_right
 exact z7H b (show 3988292384*(s&&&1)<4294967296 by omega)
theorem z8F {s:Nat} (hs:s<4294967296):zdL s=(zad s:Nat):=by
 have h:s >>> 1<4294967296:=by rw [Nat.shiftRight_eq_div_pow];omega
 have l:s&&&1<=1:=Nat.and_le_right
 have d:zcW .u32 s 1=((s >>> 1:Nat):Int):=by
  rw [Nat.shiftRight_eq_div_pow]
  show Int.fdiv (s:Int) (2^1)=_
  rw [Int.fdiv_eq_ediv_of_nonneg _ od];omega
 have b:band .u32 s 1=((s&&&1:Nat):Int):=by
  unfold band
  show IntKind.u32.wrap ((BitVec.ofInt 32 (s:Int)&&&BitVec.ofInt 32 ((1:Nat):Int)).toNat:Nat)=_
  rw [ofInt32,ofInt32,BitVec.toNat_and,BitVec.toNat_ofNat,BitVec.toNat_ofNat,Nat.mod_eq_of_lt hs]
  exact zcF od (by show ((s&&&1:Nat):Int)<=_;omega)
 have j:IntKind.u32.wrap (3988292384*((s&&&1:Nat):Int))=((3988292384*(s&&&1):Nat):Int):=by rw [zcF od od];omega
 unfold zdL
 rw [d,b,j,z9d h od]
 rfl
theorem z1k:∀(k s:Nat),bitsF k (zad s)=zad (bitsF k s)
 | 0,_=>rfl
 | k+1,s=>z1k k (zad s)
theorem vS:∀(k:Nat) {s:Nat},s<4294967296->YN k s=(bitsF k s:Nat)/\bitsF k s<4294967296
 | 0,_,h=>⟨rfl,h⟩
 | k+1,s,h=>by
  obtain ⟨h1,h2⟩:=vS k h
  have e:bitsF (k+1) s=zad (bitsF k s):=z1k k s
  rw [e]
  refine ⟨?_,zal h2⟩
  show zdL (YN k s)=_
  rw [h1,z8F h2]
theorem z2u:∀(a b:List (List IV)) (s:Nat),sumF (a++b) s=sumF b (sumF a s)
 | [],_,_=>rfl
 | r::a,b,s=>z2u a b (bitsF 8 (Nat.xor s (byF r)))
theorem yJ {rs:List (List IV)} (h:yM rs=true):(∀r∈rs,∃n:Nat,r=[.int .u8 n]/\n<256)/\rs.length<=1000000:=by
 unfold yM at h
 rw [Bool.and_eq_true,List.all_eq_true] at h
 refine ⟨fun r d=>?_,Nat.le_of_ble_eq_true h.2⟩
 have b:=h.1 r d
 unfold zbv at b
 split at b
 ·exact ⟨_,rfl,Nat.le_of_ble_eq_true b⟩
 ·cases b
theorem z0p {rs:List (List IV)} (h:∀r∈rs,∃n:Nat,r=[.int .u8 n]/\n<256):∀i,i<=rs.length->z3V rs i=(sumF (rs.take i) 4294967295:Nat)/\sumF (rs.take i) 4294967295<4294967296
 | 0,_=>⟨rfl,by show (4294967295:Nat)<_;decide⟩
 | i+1,hi=>by
  obtain ⟨h1,h2⟩:=z0p h i od
  obtain ⟨n,hn,hn2⟩:=h _ (List.getElem_mem (show i<rs.length by omega))
  have e1:rs.take (i+1)=rs.take i++[[.int .u8 (n:Int)]]:=by rw [<-hn];exact (List.take_append_getElem od).symm
  have e2:byteAt rs i=(n:Int):=by
   unfold byteAt
   rw [List.getD_eq_getElem?_getD,List.getElem?_eq_getElem od,hn];rfl
  rw [e1,z2u]
  show YN 8 (z5S .u32 (z3V rs i) (IntKind.u32.wrap (byteAt rs i)))=((bitsF 8 (Nat.xor (sumF (rs.take i) 4294967295) n):Nat):Int)/\bitsF 8 (Nat.xor (sumF (rs.take i) 4294967295) n)<_
  rw [e2,h1,zcF od od,z9d h2 od]
  exact vS 8 (z7H h2 od)
theorem z7a {rs:List (List IV)} (h:yM rs=true):sumOf rs=sumR rs:=by
 obtain ⟨h1,h2⟩:=z0p (yJ h).1 rs.length (Nat.le_refl _)
 rw [List.take_of_length_le (Nat.le_refl _)] at h1 h2
 unfold sumOf sumR zdh
 rw [h1]
 show IntKind.u32.wrap ((BitVec.ofInt 32 ((4294967295:Nat):Int)^^^BitVec.ofInt 32 ((sumF rs 4294967295:Nat):Int)).toNat:Nat)=_
 rw [ofInt32,ofInt32,BitVec.toNat_xor,BitVec.toNat_ofNat,BitVec.toNat_ofNat,Nat.mod_eq_of_lt (by decide),Nat.mod_eq_of_lt h2,Nat.xor_comm]
 have:=z7H h2 (show 4294967295<4294967296 by decide)
 exact zcF od od
def z4p (L:List Blk) (x:IV) (rs:List (List IV)):Prop:=(∃b o c all,x=.sl b o rs.length c/\(L[b]?=some (.cells 1 all)\/∃ty,L[b]?=some (.tcells ty 1 all))/\o+rs.length<=all.length/\rs=(all.drop o).take rs.length)\/x=.isl rs
def zdO (sz o n:Nat) (all:List (List IV)):Option (List (List IV)):=match Nat.beq sz 1&&Nat.ble (o+n) all.length with
 | true=>some ((all.drop o).take n)
 | false=>none
def z9v (lk:Lk):IV->Option (List (List IV))
 | .isl rs=>some rs
 | .sl b o n _=>match lk b with
  | some (.cells sz all)=>zdO sz o n all
  | some (.tcells _ sz all)=>zdO sz o n all
  | _=>none
 | _=>none
theorem z6q {sz o n:Nat} {all rs:List (List IV)} (h:zdO sz o n all=some rs):sz=1/\rs.length=n/\o+n<=all.length/\rs=(all.drop o).take n:=by
 unfold zdO at h
 split at h
 ·rename_i b
  rw [Bool.and_eq_true] at b
  have d:=Nat.le_of_ble_eq_true b.2
  cases h
  exact ⟨Nat.eq_of_beq_eq_true b.1,by rw [List.length_take,List.length_drop];omega,d,rfl⟩
 ·cases h
theorem jS {L:List Blk} {lk:Lk} {x:IV} {rs:List (List IV)} (j:jT lk L) (h:z9v lk x=some rs):z4p L x rs:=by
 unfold z9v at h
 split at h
 ·cases h;exact .inr rfl
 ·split at h
  ·rename_i hs
   obtain ⟨rfl,rfl,d,b⟩:=z6q h
   exact .inl ⟨_,_,_,_,rfl,.inl (j _ _ hs),d,b⟩
  ·rename_i hs
   obtain ⟨rfl,rfl,d,b⟩:=z6q h
   exact .inl ⟨_,_,_,_,rfl,.inr ⟨_,j _ _ hs⟩,d,b⟩
  ·cases h
 ·cases h
noncomputable def sumK (lk:Lk) (x:IV):Option IV:=match z9v lk x with
 | some rs=>match yM rs with
  | true=>some (.int .u32 (sumR rs))
  | false=>none
 | none=>none
theorem z9W {L:List Blk} {lk:Lk} {x v:IV} (b:jT lk L) (h:sumK lk x=some v):∃rs,z4p L x rs/\yM rs=true/\v=.int .u32 (sumR rs):=by
 unfold sumK at h
 split at h
 ·rename_i rs j
  split at h
  ·rename_i d
   cases h
   exact ⟨_,jS b j,d,rfl⟩
  ·cases h
 ·cases h
end Go.X
end
section
open Go Go.X Go.Proofs
set_option maxRecDepth 100000
set_option maxHeartbeats 4000000
namespace Go.X.TryzW
section
variable {E:Env} {ρ:Rho} {L:List Blk} {K:IV->List Blk->Prop}
def zbd : XC :=(sO [oV 2 (.int .u32 0)] (sO [oV 3 (.int .u32 4294967295)] (.seq (sO [oM 6 0,oY 7 6,oI 8 0] (.block 0 (.loop (sO [oB 9 .lss 8 7] (.seq (cT 9 .skip (.exit 0)) (.seq (.block 1 (sO [oO 10 (.idxS 1 (.t 6) (.t 8)),oL 11 10,oM 5 11] (sO [oM 12 3,oM 13 5,oO 14 (.cvInt .u32 (.t 13)),oB 15 .xor 12 14,oM 3 15] (sO [oI 16 0] (.block 2 (.loop (sO [oK 17 .lss 16 8] (.seq (cT 17 .skip (.exit 2)) (.seq (.block 3 (.ops [oM 18 3,oO 19 (.bin .shr (.t 18) (.c (.int .u64 1))),oM 20 3,oO 21 (.bin .and (.t 20) (.c (.int .u32 1))),oO 22 (.bin .mul (.c (.int .u32 3988292384)) (.t 21)),oB 23 .xor 19 22,oM 3 23])) (.ops [oK 24 .add 16 1,oM 16 24])))))))))) (.ops [oK 25 .add 8 1,oM 8 25]))))))) (sO [oM 26 3,oO 27 (.un .xor (.t 26)),oM 2 27] .ret))))
theorem sum_any (hP:E.P=Tryz.prog) {x:IV} {rs:List (List IV)} (hx:z4p L x rs) (Y:∀r∈rs,∃n:Nat,r=[.int .u8 n]/\n<256) (hN:rs.length<=1000000):XT E 156 [x] L fun r L'=>r=.int .u32 (sumOf rs)/\L'=L:=by
 rcases hx with ⟨b,o,c,all,rfl,T | ⟨ty,T⟩,af,G⟩ | rfl
 ·have lb:=YA T
  refine xt1 (fn:=Tryz.f156) (rs:=[.tmp 2]) (c:=zbd) hP fun ρ J=>?_
  unfold zbd
  simp only [J,go_sem]
  refine wS (fun n ρ L'=>∃i:Nat,i<=rs.length/\n=rs.length - i/\L'=L/\ρ 6=.sl b o rs.length c/\ρ 7=.int .i64 rs.length/\ρ 8=.int .i64 i/\ρ 3=.int .u32 (z3V rs i))
   ⟨0,Nat.zero_le _,rfl,rfl,by simp only [go_sem],by simp only [go_sem],by simp only [go_sem]<;>rfl,by simp only [go_sem]<;>rfl⟩ ?_
  clear J ρ
  rintro n ρ L' ⟨i,hi,rfl,rfl,l,h,d,j⟩
  by_cases hc:i<rs.length
  ·have w:((i:Int)<(rs.length:Int))=True:=tO
   have Q:((0:Int)<=(i:Int))=True:=tO
   obtain ⟨v,V,S⟩:=Y _ (List.getElem_mem hc)
   have hg:rs[i]?=some [.int .u8 v]:=by rw [List.getElem?_eq_getElem hc,V]
   have M:all[o+i]?=some [.int .u8 v]:=by rw [G,List.getElem?_take_of_lt hc,List.getElem?_drop] at hg;exact hg
   have O:(o+i<all.length)=True:=tO
   have s:all.getD (o+i) []=[.int .u8 v]:=by rw [List.getD_eq_getElem?_getD,M];rfl
   have q:rs.getD i []=[.int .u8 v]:=by rw [List.getD_eq_getElem?_getD,hg];rfl
   have U:IntKind.i64.wrap ((i:Int)+1)=((i+1:Nat):Int):=wR
   simp only [j,l,h,d,w,Q,T,O,s,Int.toNat_natCast,go_sem]
   refine wS (fun D ρ L1=>∃k:Nat,k<=8/\D=8 - k/\L1=L'/\ρ 6=.sl b o rs.length c/\ρ 7=.int .i64 rs.length/\ρ 8=.int .i64 i/\ρ 16=.int .i64 k/\ρ 3=.int .u32 (YN k (z5S .u32 (z3V rs i) (IntKind.u32.wrap v))))
    ⟨0,Nat.zero_le _,rfl,rfl,by simp only [l,go_sem],by simp only [h,go_sem],by simp only [d,go_sem],by simp only [go_sem]<;>rfl,by simp only [go_sem]<;>rfl⟩ ?_
   clear l h d j ρ
   rintro D ρ L1 ⟨k,I,rfl,rfl,l,h,d,m,j⟩
   by_cases hk8:k<8
   ·have u:((k:Int)<8)=True:=tO
    have X:IntKind.i64.wrap ((k:Int)+1)=((k+1:Nat):Int):=wR
    simp only [j,l,h,d,m,u,X,go_sem]
    exact ⟨8 - (k+1),od,k+1,od,rfl,rfl,rfl⟩
   ·have u:((k:Int)<8)=False:=fO
    simp only [j,l,h,d,m,u,U,go_sem]
    have I:k=8:=by omega
    subst I
    have B:byteAt rs i=v:=by simp only [byteAt,q]
    exact ⟨rs.length - (i+1),od,i+1,od,rfl,rfl,by simp only [z3V,B]⟩
  ·have w:((i:Int)<(rs.length:Int))=False:=fO
   simp only [j,h,d,w,go_sem]
   have A:i=rs.length:=by omega
   subst A
   rfl
 ·have lb:=YA T
  refine xt1 (fn:=Tryz.f156) (rs:=[.tmp 2]) (c:=zbd) hP fun ρ J=>?_
  unfold zbd
  simp only [J,go_sem]
  refine wS (fun n ρ L'=>∃i:Nat,i<=rs.length/\n=rs.length - i/\L'=L/\ρ 6=.sl b o rs.length c/\ρ 7=.int .i64 rs.length/\ρ 8=.int .i64 i/\ρ 3=.int .u32 (z3V rs i))
   ⟨0,Nat.zero_le _,rfl,rfl,by simp only [go_sem],by simp only [go_sem],by simp only [go_sem]<;>rfl,by simp only [go_sem]<;>rfl⟩ ?_
  clear J ρ
  rintro n ρ L' ⟨i,hi,rfl,rfl,l,h,d,j⟩
  by_cases hc:i<rs.length
  ·have w:((i:Int)<(rs.length:Int))=True:=tO
   have Q:((0:Int)<=(i:Int))=True:=tO
   obtain ⟨v,V,S⟩:=Y _ (List.getElem_mem hc)
   have hg:rs[i]?=some [.int .u8 v]:=by rw [List.getElem?_eq_getElem hc,V]
   have M:all[o+i]?=some [.int .u8 v]:=by rw [G,List.getElem?_take_of_lt hc,List.getElem?_drop] at hg;exact hg
   have O:(o+i<all.length)=True:=tO
   have s:all.getD (o+i) []=[.int .u8 v]:=by rw [List.getD_eq_getElem?_getD,M];rfl
   have q:rs.getD i []=[.int .u8 v]:=by rw [List.getD_eq_getElem?_getD,hg];rfl
   have U:IntKind.i64.wrap ((i:Int)+1)=((i+1:Nat):Int):=wR
   simp only [j,l,h,d,w,Q,T,O,s,Int.toNat_natCast,go_sem]
   refine wS (fun D ρ L1=>∃k:Nat,k<=8/\D=8 - k/\L1=L'/\ρ 6=.sl b o rs.length c/\ρ 7=.int .i64 rs.length/\ρ 8=.int .i64 i/\ρ 16=.int .i64 k/\ρ 3=.int .u32 (YN k (z5S .u32 (z3V rs i) (IntKind.u32.wrap v))))
    ⟨0,Nat.zero_le _,rfl,rfl,by simp only [l,go_sem],by simp only [h,go_sem],by simp only [d,go_sem],by simp only [go_sem]<;>rfl,by simp only [go_sem]<;>rfl⟩ ?_
   clear l h d j ρ
   rintro D ρ L1 ⟨k,I,rfl,rfl,l,h,d,m,j⟩
   by_cases hk8:k<8
   ·have u:((k:Int)<8)=True:=tO
    have X:IntKind.i64.wrap ((k:Int)+1)=((k+1:Nat):Int):=wR
    simp only [j,l,h,d,m,u,X,go_sem]
    exact ⟨8 - (k+1),od,k+1,od,rfl,rfl,rfl⟩
   ·have u:((k:Int)<8)=False:=fO
    simp only [j,l,h,d,m,u,U,go_sem]
    have I:k=8:=by omega
    subst I
    have B:byteAt rs i=v:=by simp only [byteAt,q]
    exact ⟨rs.length - (i+1),od,i+1,od,rfl,rfl,by simp only [z3V,B]⟩
  ·have w:((i:Int)<(rs.length:Int))=False:=fO
   simp only [j,h,d,w,go_sem]
   have A:i=rs.length:=by omega
   subst A
   rfl
 ·have ae:Rows 1 rs=True:=eq_true (fun r Z=>by obtain ⟨n,rfl,_⟩:=Y r Z;rfl)
  refine xt1 (fn:=Tryz.f156) (rs:=[.tmp 2]) (c:=zbd) hP fun ρ J=>?_
  unfold zbd
  simp only [J,go_sem]
  refine wS (fun n ρ L'=>∃i:Nat,i<=rs.length/\n=rs.length - i/\L'=L/\ρ 6=.isl rs/\ρ 7=.int .i64 rs.length/\ρ 8=.int .i64 i/\ρ 3=.int .u32 (z3V rs i))
   ⟨0,Nat.zero_le _,rfl,rfl,by simp only [go_sem],by simp only [go_sem],by simp only [go_sem]<;>rfl,by simp only [go_sem]<;>rfl⟩ ?_
  clear J ρ
  rintro n ρ L' ⟨i,hi,rfl,rfl,l,h,d,j⟩
  by_cases hc:i<rs.length
  ·have w:((i:Int)<(rs.length:Int))=True:=tO
   have Q:((0:Int)<=(i:Int))=True:=tO
   obtain ⟨v,V,S⟩:=Y _ (List.getElem_mem hc)
   have hg:rs[i]?=some [.int .u8 v]:=by rw [List.getElem?_eq_getElem hc,V]
   have q:rs.getD i []=[.int .u8 v]:=by rw [List.getD_eq_getElem?_getD,hg];rfl
   have U:IntKind.i64.wrap ((i:Int)+1)=((i+1:Nat):Int):=wR
   simp only [j,l,h,d,w,Q,ae,q,hc,Int.toNat_natCast,go_sem]
   refine wS (fun D ρ L1=>∃k:Nat,k<=8/\D=8 - k/\L1=L'/\ρ 6=.isl rs/\ρ 7=.int .i64 rs.length/\ρ 8=.int .i64 i/\ρ 16=.int .i64 k/\ρ 3=.int .u32 (YN k (z5S .u32 (z3V rs i) (IntKind.u32.wrap v))))
    ⟨0,Nat.zero_le _,rfl,rfl,by simp only [l,go_sem],by simp only [h,go_sem],by simp only [d,go_sem],by simp only [go_sem]<;>rfl,by simp only [go_sem]<;>rfl⟩ ?_
   clear l h d j ρ
   rintro D ρ L1 ⟨k,I,rfl,rfl,l,h,d,m,j⟩
   by_cases hk8:k<8
   ·have u:((k:Int)<8)=True:=tO
    have X:IntKind.i64.wrap ((k:Int)+1)=((k+1:Nat):Int):=wR
    simp only [j,l,h,d,m,u,X,go_sem]
    exact ⟨8 - (k+1),od,k+1,od,rfl,rfl,rfl⟩
   ·have u:((k:Int)<8)=False:=fO
    simp only [j,l,h,d,m,u,U,go_sem]
    have I:k=8:=by omega
    subst I
    have B:byteAt rs i=v:=by simp only [byteAt,q]
    exact ⟨rs.length - (i+1),od,i+1,od,rfl,rfl,by simp only [z3V,B]⟩
  ·have w:((i:Int)<(rs.length:Int))=False:=fO
   simp only [j,h,d,w,go_sem]
   have A:i=rs.length:=by omega
   subst A
   rfl
theorem z2d (m:E.P=Tryz.prog) {x v:IV} {lk:Lk} (l:jT lk L) (j:sumK lk x=some v):XT E 156 [x] L fun r L'=>r=v/\L'=L:=by
 obtain ⟨rs,q,b,rfl⟩:=z9W l j
 obtain ⟨h,d⟩:=yJ b
 rw [<-z7a b]
 exact sum_any m q h d
end
end Go.X.TryzW
end
