/- The slim code of the functions, written by a program of ours. No condition. -/
import Derived.Test.YtjglogffdihahaaEvB
set_option maxRecDepth 100000
namespace Go.Q
open SOp SCode
/-- euphroe/euphroelaw22.CtlLays · 0:c/0 1:b/1 2:c/2 3:/4 4:x/5 5:e/6 6:y/7 7:f/8 8:p/9 9:g/10 10:q/11 11:h/12 12:back/13 13:i/14 -/
def euphroelaw22_CtlLays.s : SFunc := { np := 2, nv := 14, res := [.var 3], code := (.seq (.ops [W 2 (.box false (.x 0)), W 3 (.take (kb false))])
(.seq (.ifs [T (.fa 2 (.x 2)), T (.load none (.t 0)), T (.len (.t 0)), T (.bin .gtr (.t 0) (ki 4500)), T (.mov (.t 0)), GT 0 false (.mov (.x 1)), GT 1 false (.len (.t 0)), GT 2 false (.bin .gtr (.t 0) (ki 4500)), T (.pick (.t 3) (kb true) (.t 0))] (.t 0) (.seq (.ops [T (.call false 34 []), W 3 (.take (.t 0))])
.ret) .skip)
(.seq (.ops [T (.load (some 3) (.x 2)), T (.call false 36 [(.t 0)]), T (.call false 35 [(.t 0)]), T (.take (.t 0)), T (.ext 0 (.t 0)), T (.ext 1 (.t 1)), W 4 (.take (.t 1)), W 5 (.take (.t 1))])
(.seq (.ops [T (.load (some 3) (.x 2)), T (.call false 37 [(.t 0)]), T (.take (.t 0)), T (.ext 0 (.t 0)), T (.ext 1 (.t 1)), W 6 (.take (.t 1)), W 7 (.take (.t 1))])
(.seq (.ops [T (.mov (.x 1)), T (.call false 38 [(.t 0)]), T (.take (.t 0)), T (.ext 0 (.t 0)), T (.ext 1 (.t 1)), W 8 (.alloc false (.agg [.v (.int .u8 0), .v (.int .u8 0), .nils 1])), N (.store 3 (.x 8) (.t 2)), W 9 (.take (.t 2))])
(.seq (.ops [T (.mov (.x 1)), T (.call false 39 [(.t 0)]), T (.take (.t 0)), T (.ext 0 (.t 0)), T (.ext 1 (.t 1)), W 10 (.alloc false (.agg [.v (.int .u8 0), .v (.int .u8 0), .nils 1])), N (.store 3 (.x 10) (.t 2)), W 11 (.take (.t 2))])
(.seq (.ops [T (.mov (.x 4)), T (.app 1 1 (kn 1) (.t 0)), T (.mov (.x 1)), T (.app 1 1 (.t 1) (.t 0)), T (.call false 38 [(.t 0)]), T (.take (.t 0)), T (.ext 0 (.t 0)), T (.ext 1 (.t 1)), W 12 (.alloc false (.agg [.v (.int .u8 0), .v (.int .u8 0), .nils 1])), N (.store 3 (.x 12) (.t 2)), W 13 (.take (.t 2))])
(.seq (.ops [T (.mov (.x 4)), T (.mov (.x 6)), T (.call false 40 [(.t 1), (.t 0)]), T (.mov (.t 0)), GT 0 true (.mov (.x 5)), GT 1 true (.mov (.x 7)), GT 2 true (.bin .eql (.t 1) (.t 0)), T (.pick (.t 3) (.t 0) (kb false)), T (.mov (.t 0)), GT 0 true (.load (some 3) (.x 8)), GT 1 true (.load (some 3) (.x 10)), GT 2 true (.call false 36 [(.t 0)]), GT 3 true (.call false 41 [(.t 2), (.t 0)]), T (.pick (.t 4) (.t 0) (kb false)), T (.mov (.t 0)), GT 0 true (.mov (.x 9)), GT 1 true (.mov (.x 11)), GT 2 true (.bin .eql (.t 1) (.t 0)), T (.pick (.t 3) (.t 0) (kb false)), T (.mov (.t 0)), GT 0 true (.load (some 3) (.x 8)), GT 1 true (.load (some 3) (.x 2)), GT 2 true (.call false 36 [(.t 0)]), GT 3 true (.call false 41 [(.t 2), (.t 0)]), GT 4 true (.load (some 3) (.x 10)), GT 5 true (.load (some 3) (.x 2)), GT 6 true (.call false 42 [(.t 1), (.t 0)]), GT 7 true (.eq .b false (.t 3) (.t 0)), T (.pick (.t 8) (.t 0) (kb false)), T (.mov (.t 0)), GT 0 true (.mov (.x 5)), GT 1 true (.bin .neq (.t 0) (ki 0)), GT 2 true (.mov (.t 0)), GT 0 false (.load (some 3) (.x 12)), GT 1 false (.load (some 3) (.x 2)), GT 2 false (.call false 36 [(.t 0)]), GT 3 false (.call false 41 [(.t 2), (.t 0)]), GT 4 false (.mov (.t 0)), GT 0 true (.mov (.x 13)), GT 1 true (.bin .eql (.t 0) (ki 0)), GT 7 false (.pick (.t 2) (.t 0) (kb false)), GT 11 true (.pick (.t 8) (kb true) (.t 0)), T (.pick (.t 12) (.t 0) (kb false)), T (.mov (.t 0)), GT 0 true (.call false 34 []), T (.pick (.t 1) (.t 0) (kb false)), W 3 (.take (.t 0))])
.ret)))))))) }
def euphroelaw22_CtlLays.m : List Nat := [0, 1, 2, 4, 5, 6, 7, 8, 9, 10, 11, 12, 13, 14]
/-- euphroe/euphroelaw22.CtlRejects · 0:c/0 1:f/1 2:most/2 3:c/3 4:f/4 5:/6 6:m/7 7:rest/8 8:e/9 9:n/10 10:left/11 11:g/12 -/
def euphroelaw22_CtlRejects.s : SFunc := { np := 3, nv := 12, res := [.var 5], code := (.seq (.ops [W 3 (.box false (.x 0)), W 4 (.box false (.x 1)), W 5 (.take (kb false))])
(.seq (.ifs [T (.fa 2 (.x 3)), T (.load none (.t 0)), T (.len (.t 0)), T (.bin .gtr (.t 0) (ki 4500)), T (.mov (.t 0)), GT 0 false (.fa 1 (.x 4)), GT 1 false (.load none (.t 0)), GT 2 false (.len (.t 0)), GT 3 false (.bin .gtr (.t 0) (ki 4500)), T (.pick (.t 4) (kb true) (.t 0))] (.t 0) (.seq (.ops [T (.call false 34 []), W 5 (.take (.t 0))])
.ret) .skip)
(.seq (.ops [T (.load (some 3) (.x 3)), T (.call false 36 [(.t 0)]), T (.call false 43 [(.t 0)]), T (.take (.t 0)), T (.ext 0 (.t 0)), T (.ext 1 (.t 1)), T (.ext 2 (.t 2)), W 6 (.take (.t 2)), W 7 (.take (.t 2)), W 8 (.take (.t 2))])
(.seq (.ops [T (.load (some 3) (.x 3)), T (.call false 44 [(.t 0)]), T (.take (.t 0)), T (.ext 0 (.t 0)), T (.ext 1 (.t 1)), T (.ext 2 (.t 2)), W 9 (.take (.t 2)), W 10 (.take (.t 2)), W 11 (.take (.t 2))])
(.seq (.ops [T (.fa 1 (.x 3)), T (.load none (.t 0)), T (.load (some 3) (.x 3)), T (.call false 36 [(.t 0)]), T (.mov (.x 2)), T (.call false 45 [(.t 3), (.t 1), (.t 0)]), T (.fa 1 (.x 3)), T (.load none (.t 0)), T (.load (some 3) (.x 3)), T (.mov (.x 2)), T (.call false 46 [(.t 2), (.t 1), (.t 0)]), T (.call false 36 [(.t 0)]), T (.call false 41 [(.t 6), (.t 0)]), T (.mov (.t 0)), GT 0 true (.fa 1 (.x 3)), GT 1 true (.load none (.t 0)), GT 2 true (.fa 0 (.x 4)), GT 3 true (.load none (.t 0)), GT 4 true (.fa 1 (.x 4)), GT 5 true (.load none (.t 0)), GT 6 true (.build [.v (.int .u16 0), .nils 1] [(0, 1, (.t 2)), (1, 1, (.t 0))]), GT 7 true (.mov (.x 2)), GT 8 true (.call false 47 [(.t 6), (.t 1), (.t 0)]), GT 9 true (.fa 1 (.x 3)), GT 10 true (.load none (.t 0)), GT 11 true (.load (some 2) (.x 4)), GT 12 true (.mov (.x 2)), GT 13 true (.call false 48 [(.t 2), (.t 1), (.t 0)]), GT 14 true (.call false 36 [(.t 0)]), GT 15 true (.call false 41 [(.t 6), (.t 0)]), T (.pick (.t 16) (.t 0) (kb false)), T (.mov (.t 0)), GT 0 true (.fa 0 (.x 3)), GT 1 true (.load none (.t 0)), GT 2 true (.fa 1 (.x 3)), GT 3 true (.load none (.t 0)), GT 4 true (.mov (.x 2)), GT 5 true (.cvi .u32 (.t 0)), GT 6 true (.fa 1 (.x 4)), GT 7 true (.load none (.t 0)), GT 8 true (.call false 49 [(.t 6), (.t 4), (.t 2), (.t 0)]), GT 9 true (.fa 0 (.x 3)), GT 10 true (.load none (.t 0)), GT 11 true (.fa 1 (.x 3)), GT 12 true (.load none (.t 0)), GT 13 true (.mov (.x 2)), GT 14 true (.cvi .u32 (.t 0)), GT 15 true (.fa 1 (.x 4)), GT 16 true (.load none (.t 0)), GT 17 true (.call false 50 [(.t 6), (.t 4), (.t 2), (.t 0)]), GT 18 true (.call false 36 [(.t 0)]), GT 19 true (.call false 41 [(.t 10), (.t 0)]), T (.pick (.t 20) (.t 0) (kb false)), T (.mov (.t 0)), GT 0 true (.mov (.x 6)), GT 1 true (.mov (.x 9)), GT 2 true (.bin .eql (.t 1) (.t 0)), T (.pick (.t 3) (.t 0) (kb false)), T (.mov (.t 0)), GT 0 true (.mov (.x 7)), GT 1 true (.mov (.x 10)), GT 2 true (.call false 40 [(.t 1), (.t 0)]), T (.pick (.t 3) (.t 0) (kb false)), T (.mov (.t 0)), GT 0 true (.mov (.x 8)), GT 1 true (.mov (.x 11)), GT 2 true (.bin .eql (.t 1) (.t 0)), T (.pick (.t 3) (.t 0) (kb false)), T (.mov (.t 0)), GT 0 true (.call false 34 []), T (.pick (.t 1) (.t 0) (kb false)), W 5 (.take (.t 0))])
.ret))))) }
def euphroelaw22_CtlRejects.m : List Nat := [0, 1, 2, 3, 4, 6, 7, 8, 9, 10, 11, 12]
/-- euphroe/euphroelaw21.OptsLays · 0:l/0 1:b/1 2:/4 3:x/5 4:e/6 5:y/7 6:f/8 7:k/9 8:g/10 9:m/11 10:h/12 11:z/13 12:i/14 13:z/15 14:i/16 -/
def euphroelaw21_OptsLays.s : SFunc := { np := 2, nv := 15, res := [.var 2], code := (.seq (.ops [W 2 (.take (kb false))])
(.seq (.ifs [T (.mov (.x 0)), T (.call false 51 [(.t 0)]), T (.mov (.t 0)), GT 0 false (.mov (.x 1)), GT 1 false (.len (.t 0)), GT 2 false (.bin .gtr (.t 0) (ki 3000)), T (.pick (.t 3) (kb true) (.t 0))] (.t 0) (.seq (.ops [T (.call false 52 []), W 2 (.take (.t 0))])
.ret) .skip)
(.seq (.ops [T (.mov (.x 0)), T (.call false 54 [(.t 0)]), T (.call false 53 [(.t 0)]), T (.take (.t 0)), T (.ext 0 (.t 0)), T (.ext 1 (.t 1)), W 3 (.take (.t 1)), W 4 (.take (.t 1))])
(.seq (.ops [T (.mov (.x 0)), T (.call false 55 [(.t 0)]), T (.take (.t 0)), T (.ext 0 (.t 0)), T (.ext 1 (.t 1)), W 5 (.take (.t 1)), W 6 (.take (.t 1))])
(.seq (.ops [T (.mov (.x 1)), T (.call false 56 [(.t 0)]), T (.take (.t 0)), T (.ext 0 (.t 0)), T (.ext 1 (.t 1)), W 7 (.take (.t 1)), W 8 (.take (.t 1))])
(.seq (.ops [T (.mov (.x 1)), T (.call false 57 [(.t 0)]), T (.take (.t 0)), T (.ext 0 (.t 0)), T (.ext 1 (.t 1)), W 9 (.take (.t 1)), W 10 (.take (.t 1))])
(.seq (.ifs [T (.mov (.x 3)), T (.mov (.x 5)), T (.call false 40 [(.t 1), (.t 0)]), T (.un .not (.t 0)), T (.mov (.t 0)), GT 0 false (.mov (.x 4)), GT 1 false (.mov (.x 6)), GT 2 false (.bin .neq (.t 1) (.t 0)), T (.pick (.t 3) (kb true) (.t 0)), T (.mov (.t 0)), GT 0 false (.mov (.x 7)), GT 1 false (.mov (.x 9)), GT 2 false (.call false 54 [(.t 0)]), GT 3 false (.call false 58 [(.t 2), (.t 0)]), GT 4 false (.un .not (.t 0)), T (.pick (.t 5) (kb true) (.t 0)), T (.mov (.t 0)), GT 0 false (.mov (.x 8)), GT 1 false (.mov (.x 10)), GT 2 false (.bin .neq (.t 1) (.t 0)), T (.pick (.t 3) (kb true) (.t 0))] (.t 0) (.seq (.ops [W 2 (.take (kb false))])
.ret) .skip)
(.seq (.seq (.ops [T (.mov (.x 3)), T (.call false 56 [(.t 0)]), T (.take (.t 0)), T (.ext 0 (.t 0)), T (.ext 1 (.t 1)), W 11 (.take (.t 1)), W 12 (.take (.t 1))])
(.ifs [T (.mov (.x 4)), T (.bin .eql (.t 0) (ki 0)), T (.mov (.t 0)), GT 0 true (.mov (.x 11)), GT 1 true (.mov (.x 0)), GT 2 true (.call false 54 [(.t 0)]), GT 3 true (.call false 58 [(.t 2), (.t 0)]), GT 4 true (.un .not (.t 0)), GT 5 true (.mov (.t 0)), GT 0 false (.mov (.x 12)), GT 1 false (.bin .neq (.t 0) (ki 0)), GT 8 true (.pick (.t 2) (kb true) (.t 0)), T (.pick (.t 9) (.t 0) (kb false))] (.t 0) (.seq (.ops [W 2 (.take (kb false))])
.ret) .skip))
(.seq (.ops [T (.mov (.x 7)), T (.call false 53 [(.t 0)]), T (.take (.t 0)), T (.ext 0 (.t 0)), T (.ext 1 (.t 1)), W 13 (.take (.t 1)), W 14 (.take (.t 1))])
(.seq (.ops [T (.mov (.x 8)), T (.bin .neq (.t 0) (ki 0)), T (.mov (.t 0)), GT 0 false (.mov (.x 14)), GT 1 false (.bin .eql (.t 0) (ki 0)), GT 2 false (.mov (.t 0)), GT 0 true (.mov (.x 13)), GT 1 true (.mov (.x 1)), GT 2 true (.call false 40 [(.t 1), (.t 0)]), GT 6 false (.pick (.t 3) (.t 0) (kb false)), T (.pick (.t 7) (kb true) (.t 0)), T (.mov (.t 0)), GT 0 true (.call false 52 []), T (.pick (.t 1) (.t 0) (kb false)), W 2 (.take (.t 0))])
.ret)))))))))) }
def euphroelaw21_OptsLays.m : List Nat := [0, 1, 4, 5, 6, 7, 8, 9, 10, 11, 12, 13, 14, 15, 16]
/-- euphroe/euphroelaw21.OptsAsks · 0:l/0 1:k/1 2:kind/2 3:/6 4:a/7 5:b/8 6:o/9 7:ok/10 8:p/11 9:is/12 10:kinds/13 11:/46 12:/47 13:i/14 -/
def euphroelaw21_OptsAsks.l0 : SCode := (.seq (.ifs [T (.bin .lss (.x 12) (.x 11))] (.t 0) .skip (.exit 0))
(.seq (.block 1 (.seq (.ops [T (.mov (.x 12)), W 13 (.take (.t 0))])
(.ifs [T (.mov (.x 10)), T (.mov (.x 13)), T (.ia 1 (.t 1) (.t 0)), T (.load none (.t 0)), T (.mov (.x 0)), T (.mov (.x 13)), T (.ia 2 (.t 1) (.t 0)), T (.fa 0 (.t 0)), T (.load none (.t 0)), T (.bin .neq (.t 5) (.t 0))] (.t 0) (.seq (.ops [W 3 (.take (kb false))])
.ret) .skip)))
(.ops [T (.bin .add (.x 12) (ki 1)), W 12 (.mov (.t 0))])))
def euphroelaw21_OptsAsks.s : SFunc := { np := 3, nv := 14, res := [.var 3], code := (.seq (.ops [W 3 (.take (kb false))])
(.seq (.ifs [T (.mov (.x 0)), T (.call false 51 [(.t 0)]), T (.mov (.t 0)), GT 0 false (.mov (.x 1)), GT 1 false (.call false 51 [(.t 0)]), T (.pick (.t 2) (kb true) (.t 0))] (.t 0) (.seq (.ops [T (.call false 52 []), W 3 (.take (.t 0))])
.ret) .skip)
(.seq (.ops [T (.mov (.x 0)), T (.call false 54 [(.t 0)]), T (.mov (.x 1)), T (.call false 54 [(.t 0)]), W 4 (.take (.t 2)), W 5 (.take (.t 1))])
(.seq (.ops [T (.mov (.x 4)), T (.mov (.x 2)), T (.call false 59 [(.t 1), (.t 0)]), T (.take (.t 0)), T (.ext 0 (.t 0)), T (.ext 1 (.t 1)), W 6 (.alloc false (.agg [.v (.int .u8 0), .nils 1])), N (.store 2 (.x 6) (.t 2)), W 7 (.take (.t 2))])
(.seq (.ops [T (.mov (.x 0)), T (.mov (.x 2)), T (.call false 60 [(.t 1), (.t 0)]), T (.take (.t 0)), T (.ext 0 (.t 0)), T (.ext 1 (.t 1)), W 8 (.alloc false (.agg [.v (.int .u8 0), .nils 1])), N (.store 2 (.x 8) (.t 2)), W 9 (.take (.t 2))])
(.seq (.ops [T (.mov (.x 4)), T (.call false 61 [(.t 0)]), W 10 (.take (.t 0))])
(.seq (.ifs [T (.mov (.x 10)), T (.len (.t 0)), T (.mov (.x 0)), T (.len (.t 0)), T (.bin .neq (.t 2) (.t 0))] (.t 0) (.seq (.ops [W 3 (.take (kb false))])
.ret) .skip)
(.seq (.seq (.ops [T (.mov (.x 10)), W 11 (.len (.t 0)), W 12 (.mov (ki 0))])
(.block 0 (.loop [13] euphroelaw21_OptsAsks.l0)))
(.seq (.ops [T (.load (some 2) (.x 6)), T (.lit 2 [(.t 0)]), T (.load (some 2) (.x 8)), T (.lit 2 [(.t 0)]), T (.call false 54 [(.t 0)]), T (.call false 58 [(.t 3), (.t 0)]), T (.mov (.t 0)), GT 0 true (.mov (.x 7)), GT 1 true (.mov (.x 9)), GT 2 true (.eq .b false (.t 1) (.t 0)), T (.pick (.t 3) (.t 0) (kb false)), T (.mov (.t 0)), GT 0 true (.mov (.x 4)), GT 1 true (.mov (.x 5)), GT 2 true (.call false 58 [(.t 1), (.t 0)]), GT 3 true (.mov (.x 0)), GT 4 true (.mov (.x 1)), GT 5 true (.call false 62 [(.t 1), (.t 0)]), GT 6 true (.eq .b false (.t 3) (.t 0)), T (.pick (.t 7) (.t 0) (kb false)), T (.mov (.t 0)), GT 0 true (.mov (.x 4)), GT 1 true (.mov (.x 2)), GT 2 true (.call false 63 [(.t 1), (.t 0)]), GT 3 true (.mov (.x 0)), GT 4 true (.mov (.x 2)), GT 5 true (.call false 64 [(.t 1), (.t 0)]), GT 6 true (.call false 54 [(.t 0)]), GT 7 true (.call false 58 [(.t 4), (.t 0)]), T (.pick (.t 8) (.t 0) (kb false)), T (.mov (.t 0)), GT 0 true (.mov (.x 4)), GT 1 true (.mov (.x 5)), GT 2 true (.call false 65 [(.t 1), (.t 0)]), GT 3 true (.mov (.x 0)), GT 4 true (.mov (.x 1)), GT 5 true (.call false 66 [(.t 1), (.t 0)]), GT 6 true (.eq .b false (.t 3) (.t 0)), T (.pick (.t 7) (.t 0) (kb false)), T (.mov (.t 0)), GT 0 true (.mov (.x 4)), GT 1 true (.mov (.x 2)), GT 2 true (.call false 63 [(.t 1), (.t 0)]), GT 3 true (.mov (.x 4)), GT 4 true (.call false 65 [(.t 1), (.t 0)]), T (.pick (.t 5) (.t 0) (kb false)), T (.mov (.t 0)), GT 0 true (.call false 52 []), T (.pick (.t 1) (.t 0) (kb false)), W 3 (.take (.t 0))])
.ret))))))))) }
def euphroelaw21_OptsAsks.m : List Nat := [0, 1, 2, 6, 7, 8, 9, 10, 11, 12, 13, 46, 47, 14]
/-- euphroe/euphroelaw25.LcpoJudges · 0:l/0 1:proves/1 2:n/2 3:n/5 4:/6 5:c/7 6:a/8 7:d/9 8:b/10 -/
def euphroelaw25_LcpoJudges.s : SFunc := { np := 3, nv := 9, res := [.var 4], code := (.seq (.ops [W 3 (.box false (.x 2)), W 4 (.take (kb false))])
(.seq (.ifs [T (.mov (.x 0)), T (.call false 67 [(.t 0)])] (.t 0) (.seq (.ops [T (.call false 68 []), W 4 (.take (.t 0))])
.ret) .skip)
(.seq (.ops [T (.mov (.x 0)), T (.call false 70 [(.t 0)]), T (.mov (.x 1)), T (.iaA 2 1 (.x 3) (ki 0)), T (.load none (.t 0)), T (.iaA 2 1 (.x 3) (ki 1)), T (.load none (.t 0)), T (.call false 69 [(.t 5), (.t 4), (.t 2), (.t 0)]), T (.take (.t 0)), T (.ext 0 (.t 0)), T (.ext 1 (.t 1)), W 5 (.take (.t 1)), W 6 (.take (.t 1))])
(.seq (.ops [T (.mov (.x 0)), T (.mov (.x 1)), T (.iaA 2 1 (.x 3) (ki 0)), T (.load none (.t 0)), T (.iaA 2 1 (.x 3) (ki 1)), T (.load none (.t 0)), T (.call false 71 [(.t 5), (.t 4), (.t 2), (.t 0)]), T (.take (.t 0)), T (.ext 0 (.t 0)), T (.ext 1 (.t 1)), W 7 (.take (.t 1)), W 8 (.take (.t 1))])
(.seq (.ops [T (.mov (.x 5)), T (.mov (.x 7)), T (.bin .eql (.t 1) (.t 0)), T (.mov (.t 0)), GT 0 true (.mov (.x 6)), GT 1 true (.mov (.x 8)), GT 2 true (.call false 70 [(.t 0)]), GT 3 true (.call false 58 [(.t 2), (.t 0)]), T (.pick (.t 4) (.t 0) (kb false)), T (.mov (.t 0)), GT 0 true (.call false 68 []), T (.pick (.t 1) (.t 0) (kb false)), W 4 (.take (.t 0))])
.ret))))) }
def euphroelaw25_LcpoJudges.m : List Nat := [0, 1, 2, 5, 6, 7, 8, 9, 10]
/-- euphroe/euphroelaw25.LcpoFine · 0:w/0 1:own/1 2:fresh/2 3:w/3 4:/6 5:l/7 6:g/8 7:c/9 8:k/10 -/
def euphroelaw25_LcpoFine.s : SFunc := { np := 3, nv := 9, res := [.var 4], code := (.seq (.ops [W 3 (.box false (.x 0)), W 4 (.take (kb false))])
(.seq (.ops [T (.load (some 3) (.x 3)), T (.call false 72 [(.t 0)]), W 5 (.take (.t 0))])
(.seq (.ops [T (.mov (.x 5)), T (.call false 73 [(.t 0)]), W 6 (.alloc false (.v (.agg [(.int .u16 0), (.int .u32 0), (.bool false), (.bool false), (.bool false)]))), N (.store 5 (.x 6) (.t 1))])
(.seq (.ifs [T (.fa 1 (.x 6)), T (.load none (.t 0)), T (.fa 1 (.x 3)), T (.load none (.t 0)), T (.bin .neq (.t 2) (.t 0)), T (.mov (.t 0)), GT 0 false (.fa 2 (.x 6)), GT 1 false (.load none (.t 0)), GT 2 false (.fa 2 (.x 3)), GT 3 false (.load none (.t 0)), GT 4 false (.eq .b true (.t 2) (.t 0)), T (.pick (.t 5) (kb true) (.t 0)), T (.mov (.t 0)), GT 0 false (.fa 0 (.x 3)), GT 1 false (.load none (.t 0)), GT 2 false (.bin .neq (.t 0) (kk .u16 0)), GT 3 false (.mov (.t 0)), GT 0 true (.fa 0 (.x 6)), GT 1 true (.load none (.t 0)), GT 2 true (.fa 0 (.x 3)), GT 3 true (.load none (.t 0)), GT 4 true (.bin .neq (.t 2) (.t 0)), GT 9 false (.pick (.t 5) (.t 0) (kb false)), T (.pick (.t 10) (kb true) (.t 0)), T (.mov (.t 0)), GT 0 false (.fa 0 (.x 3)), GT 1 false (.load none (.t 0)), GT 2 false (.bin .eql (.t 0) (kk .u16 0)), GT 3 false (.mov (.t 0)), GT 0 true (.fa 0 (.x 6)), GT 1 true (.load none (.t 0)), GT 2 true (.bin .neq (.t 0) (kk .u16 1500)), GT 7 false (.pick (.t 3) (.t 0) (kb false)), T (.pick (.t 8) (kb true) (.t 0))] (.t 0) (.seq (.ops [W 4 (.take (kb false))])
.ret) .skip)
(.seq (.ops [T (.mov (.x 5)), T (.mov (.x 1)), T (.mov (.x 2)), T (.call false 69 [(.t 2), (kb true), (.t 1), (.t 0)]), T (.take (.t 0)), T (.ext 0 (.t 0)), T (.ext 1 (.t 1)), W 7 (.take (.t 1)), W 8 (.take (.t 1))])
(.seq (.ifs [T (.fa 0 (.x 3)), T (.load none (.t 0)), T (.bin .eql (.t 0) (kk .u16 0)), T (.mov (.t 0)), GT 0 false (.fa 0 (.x 3)), GT 1 false (.load none (.t 0)), GT 2 false (.bin .geq (.t 0) (kk .u16 128)), T (.pick (.t 3) (kb true) (.t 0)), T (.mov (.t 0)), GT 0 true (.fa 1 (.x 3)), GT 1 true (.load none (.t 0)), GT 2 true (.bin .eql (.t 0) (kk .u32 0)), GT 3 true (.mov (.t 0)), GT 0 false (.fa 1 (.x 3)), GT 1 false (.load none (.t 0)), GT 2 false (.mov (.x 1)), GT 3 false (.bin .neq (.t 1) (.t 0)), GT 8 true (.pick (.t 4) (kb true) (.t 0)), T (.pick (.t 9) (.t 0) (kb false))] (.t 0) (.seq (.ops [T (.mov (.x 7)), T (.bin .eql (.t 0) (kk .u8 2)), T (.mov (.t 0)), GT 0 true (.mov (.x 8)), GT 1 true (.mov (.x 5)), GT 2 true (.call false 58 [(.t 1), (.t 0)]), T (.pick (.t 3) (.t 0) (kb false)), T (.mov (.t 0)), GT 0 true (.call false 68 []), T (.pick (.t 1) (.t 0) (kb false)), W 4 (.take (.t 0))])
.ret) .skip)
(.seq (.ops [T (.mov (.x 7)), T (.bin .eql (.t 0) (kk .u8 3)), T (.mov (.t 0)), GT 0 true (.mov (.x 8)), GT 1 true (.len (.t 0)), GT 2 true (.bin .gtr (.t 0) (ki 0)), T (.pick (.t 3) (.t 0) (kb false)), T (.mov (.t 0)), GT 0 true (.call false 68 []), T (.pick (.t 1) (.t 0) (kb false)), W 4 (.take (.t 0))])
.ret))))))) }
def euphroelaw25_LcpoFine.m : List Nat := [0, 1, 2, 3, 6, 7, 8, 9, 10]
/-- euphroe/euphroelaw25.LcpoAnswers · 0:l/0 1:proves/1 2:n/2 3:n/5 4:/6 5:c/7 6:a/8 7:/27 8:/39 9:/40 10:/41 11:o/10 12:x/11 13:ok/12 -/
def euphroelaw25_LcpoAnswers.l0 : SCode := (.seq (.ifs [T (.bin .lss (.x 10) (.x 9))] (.t 0) .skip (.exit 1))
(.seq (.block 2 (.seq (.ops [T (.ia 2 (.x 8) (.x 10)), T (.load (some 2) (.t 0)), W 11 (.alloc false (.agg [.v (.int .u8 0), .nils 1])), N (.store 2 (.x 11) (.t 1))])
(.seq (.ops [T (.mov (.x 0)), T (.call false 70 [(.t 0)]), T (.fa 0 (.x 11)), T (.load none (.t 0)), T (.call false 59 [(.t 2), (.t 0)]), T (.take (.t 0)), T (.ext 0 (.t 0)), T (.ext 1 (.t 1)), W 12 (.alloc false (.agg [.v (.int .u8 0), .nils 1])), N (.store 2 (.x 12) (.t 2)), W 13 (.take (.t 2))])
(.ifs [T (.mov (.x 13)), T (.un .not (.t 0)), T (.mov (.t 0)), GT 0 false (.load (some 2) (.x 11)), GT 1 false (.lit 2 [(.t 0)]), GT 2 false (.load (some 2) (.x 12)), GT 3 false (.lit 2 [(.t 0)]), GT 4 false (.call false 58 [(.t 2), (.t 0)]), GT 5 false (.mov (.t 0)), GT 0 true (.iaA 2 1 (.x 3) (ki 0)), GT 1 true (.load none (.t 0)), GT 2 true (.iaA 2 1 (.x 3) (ki 1)), GT 3 true (.load none (.t 0)), GT 4 true (.bin .neq (.t 2) (.t 0)), GT 11 false (.pick (.t 5) (.t 0) (kb false)), GT 12 false (.mov (.t 0)), GT 0 true (.iaA 2 1 (.x 3) (ki 1)), GT 1 true (.load none (.t 0)), GT 2 true (.bin .neq (.t 0) (kk .u32 0)), GT 16 false (.pick (.t 3) (.t 0) (kb false)), T (.pick (.t 17) (kb true) (.t 0))] (.t 0) (.seq (.ops [W 4 (.take (kb false))])
.ret) .skip))))
(.ops [T (.bin .add (.x 10) (ki 1)), W 10 (.mov (.t 0))])))
def euphroelaw25_LcpoAnswers.s : SFunc := { np := 3, nv := 14, res := [.var 4], code := (.seq (.ops [W 3 (.box false (.x 2)), W 4 (.take (kb false))])
(.seq (.ifs [T (.mov (.x 0)), T (.call false 67 [(.t 0)])] (.t 0) (.seq (.ops [T (.call false 68 []), W 4 (.take (.t 0))])
.ret) .skip)
(.seq (.ops [T (.mov (.x 0)), T (.call false 70 [(.t 0)]), T (.mov (.x 1)), T (.iaA 2 1 (.x 3) (ki 0)), T (.load none (.t 0)), T (.iaA 2 1 (.x 3) (ki 1)), T (.load none (.t 0)), T (.call false 69 [(.t 5), (.t 4), (.t 2), (.t 0)]), T (.take (.t 0)), T (.ext 0 (.t 0)), T (.ext 1 (.t 1)), W 5 (.take (.t 1)), W 6 (.take (.t 1))])
(.seq (.seq (.ops [W 7 (.mov (.x 5))])
(.block 0 (.ifs [T (.bin .eql (.x 7) (kk .u8 2)), T (.take (.t 0))] (.t 0) (.seq (.ops [T (.mov (.x 6)), T (.mov (.x 0)), T (.call false 70 [(.t 0)]), T (.call false 58 [(.t 2), (.t 0)]), T (.mov (.t 0)), GT 0 true (.call false 68 []), T (.pick (.t 1) (.t 0) (kb false)), W 4 (.take (.t 0))])
.ret) (.ifs [T (.bin .eql (.x 7) (kk .u8 3)), T (.take (.t 0))] (.t 0) (.seq (.seq (.ops [W 8 (.mov (.x 6)), W 9 (.len (.x 8)), W 10 (.mov (ki 0))])
(.block 1 (.loop [11, 12, 13] euphroelaw25_LcpoAnswers.l0)))
(.seq (.ops [T (.mov (.x 6)), T (.len (.t 0)), T (.bin .gtr (.t 0) (ki 0)), T (.mov (.t 0)), GT 0 true (.call false 68 []), T (.pick (.t 1) (.t 0) (kb false)), W 4 (.take (.t 0))])
.ret)) (.ifs [T (.bin .eql (.x 7) (kk .u8 4)), T (.take (.t 0))] (.t 0) (.seq (.ops [T (.mov (.x 6)), T (.len (.t 0)), T (.bin .gtr (.t 0) (ki 0)), T (.mov (.t 0)), GT 0 true (.mov (.x 6)), GT 1 true (.mov (.x 0)), GT 2 true (.call false 70 [(.t 0)]), GT 3 true (.call false 65 [(.t 2), (.t 0)]), T (.pick (.t 4) (.t 0) (kb false)), T (.mov (.t 0)), GT 0 true (.call false 68 []), T (.pick (.t 1) (.t 0) (kb false)), W 4 (.take (.t 0))])
.ret) .skip)))))
(.seq (.ops [W 4 (.take (kb false))])
.ret))))) }
def euphroelaw25_LcpoAnswers.m : List Nat := [0, 1, 2, 5, 6, 7, 8, 27, 39, 40, 41, 10, 11, 12]
/-- euphroe/euphroelaw22.CtlOptions · 0:head/0 1:l/1 2:c/2 3:head/3 4:c/5 5:/6 6:/23 7:/24 8:/25 9:o/8 10:x/9 11:e/10 12:y/11 13:f/12 14:k/13 15:g/14 16:m/15 17:h/16 18:back/17 19:i/18 -/
def euphroelaw22_CtlOptions.l0 : SCode := (.seq (.ifs [T (.bin .lss (.x 8) (.x 7))] (.t 0) .skip (.exit 0))
(.seq (.block 1 (.seq (.ops [T (.ia 2 (.x 6) (.x 8)), T (.load (some 2) (.t 0)), W 9 (.alloc false (.agg [.v (.int .u8 0), .nils 1])), N (.store 2 (.x 9) (.t 1))])
(.ifs [T (.fa 1 (.x 9)), T (.load none (.t 0)), T (.len (.t 0)), T (.bin .gtr (.t 0) (ki 300))] (.t 0) (.seq (.ops [T (.call false 34 []), W 5 (.take (.t 0))])
.ret) .skip)))
(.ops [T (.bin .add (.x 8) (ki 1)), W 8 (.mov (.t 0))])))
def euphroelaw22_CtlOptions.s : SFunc := { np := 3, nv := 20, res := [.var 5], code := (.seq (.ops [W 3 (.box false (.x 0)), W 4 (.box false (.x 2)), W 5 (.take (kb false))])
(.seq (.seq (.ops [T (.mov (.x 1)), T (.mov (.x 1)), T (.len (.t 0)), T (.mn (.t 0) (ki 40)), W 6 (.sub 2 (.t 3) none (some (.t 0)) none), W 7 (.len (.x 6)), W 8 (.mov (ki 0))])
(.block 0 (.loop [9] euphroelaw22_CtlOptions.l0)))
(.seq (.ifs [T (.mov (.x 1)), T (.len (.t 0)), T (.bin .gtr (.t 0) (ki 40)), T (.mov (.t 0)), GT 0 false (.fa 2 (.x 4)), GT 1 false (.load none (.t 0)), GT 2 false (.len (.t 0)), GT 3 false (.bin .gtr (.t 0) (ki 4500)), T (.pick (.t 4) (kb true) (.t 0))] (.t 0) (.seq (.ops [T (.call false 34 []), W 5 (.take (.t 0))])
.ret) .skip)
(.seq (.ops [T (.iaA 2 1 (.x 3) (ki 0)), T (.load none (.t 0)), T (.iaA 2 1 (.x 3) (ki 1)), T (.load none (.t 0)), T (.mov (.x 1)), T (.call false 75 [(.t 0)]), T (.call false 74 [(.t 4), (.t 2), (.t 0)]), T (.take (.t 0)), T (.ext 0 (.t 0)), T (.ext 1 (.t 1)), W 10 (.alloc false (.agg [.v (.int .u8 0), .v (.int .u8 0), .nils 1])), N (.store 3 (.x 10) (.t 2)), W 11 (.take (.t 2))])
(.seq (.ops [T (.iaA 2 1 (.x 3) (ki 0)), T (.load none (.t 0)), T (.iaA 2 1 (.x 3) (ki 1)), T (.load none (.t 0)), T (.mov (.x 1)), T (.call false 76 [(.t 3), (.t 1), (.t 0)]), T (.take (.t 0)), T (.ext 0 (.t 0)), T (.ext 1 (.t 1)), W 12 (.alloc false (.agg [.v (.int .u8 0), .v (.int .u8 0), .nils 1])), N (.store 3 (.x 12) (.t 2)), W 13 (.take (.t 2))])
(.seq (.ops [T (.load (some 3) (.x 4)), T (.call false 36 [(.t 0)]), T (.call false 77 [(.t 0)]), T (.take (.t 0)), T (.ext 0 (.t 0)), T (.ext 1 (.t 1)), W 14 (.take (.t 1)), W 15 (.take (.t 1))])
(.seq (.ops [T (.load (some 3) (.x 4)), T (.call false 78 [(.t 0)]), T (.take (.t 0)), T (.ext 0 (.t 0)), T (.ext 1 (.t 1)), W 16 (.take (.t 1)), W 17 (.take (.t 1))])
(.seq (.ops [T (.load (some 3) (.x 10)), T (.call false 77 [(.t 0)]), T (.take (.t 0)), T (.ext 0 (.t 0)), T (.ext 1 (.t 1)), W 18 (.take (.t 1)), W 19 (.take (.t 1))])
(.seq (.ops [T (.load (some 3) (.x 10)), T (.load (some 3) (.x 12)), T (.call false 36 [(.t 0)]), T (.call false 41 [(.t 2), (.t 0)]), T (.mov (.t 0)), GT 0 true (.mov (.x 11)), GT 1 true (.mov (.x 13)), GT 2 true (.bin .eql (.t 1) (.t 0)), T (.pick (.t 3) (.t 0) (kb false)), T (.mov (.t 0)), GT 0 true (.mov (.x 14)), GT 1 true (.mov (.x 16)), GT 2 true (.call false 75 [(.t 0)]), GT 3 true (.call false 58 [(.t 2), (.t 0)]), T (.pick (.t 4) (.t 0) (kb false)), T (.mov (.t 0)), GT 0 true (.mov (.x 15)), GT 1 true (.mov (.x 17)), GT 2 true (.bin .eql (.t 1) (.t 0)), T (.pick (.t 3) (.t 0) (kb false)), T (.mov (.t 0)), GT 0 true (.mov (.x 11)), GT 1 true (.bin .neq (.t 0) (ki 0)), GT 2 true (.mov (.t 0)), GT 0 false (.mov (.x 18)), GT 1 false (.mov (.x 1)), GT 2 false (.call false 75 [(.t 0)]), GT 3 false (.call false 58 [(.t 2), (.t 0)]), GT 4 false (.mov (.t 0)), GT 0 true (.mov (.x 19)), GT 1 true (.bin .eql (.t 0) (ki 0)), GT 7 false (.pick (.t 2) (.t 0) (kb false)), GT 11 true (.pick (.t 8) (kb true) (.t 0)), T (.pick (.t 12) (.t 0) (kb false)), T (.mov (.t 0)), GT 0 true (.call false 34 []), T (.pick (.t 1) (.t 0) (kb false)), W 5 (.take (.t 0))])
.ret))))))))) }
def euphroelaw22_CtlOptions.m : List Nat := [0, 1, 2, 3, 5, 6, 23, 24, 25, 8, 9, 10, 11, 12, 13, 14, 15, 16, 17, 18]
/-- euphroe/euphroelaw22.alive · 0:/0 1:b/1 2:e/2 3:c/3 4:f/4 5:m/5 6:rest/6 7:g/7 -/
def euphroelaw22_alive.s : SFunc := { np := 0, nv := 8, res := [.var 0], code := (.seq (.ops [W 0 (.take (kb false))])
(.seq (.ops [T (.build [.v (.int .u8 0), .v (.int .u8 0), .nils 1] [(0, 1, (kk .u8 6)), (1, 1, (kk .u8 7))]), T (.call false 35 [(.t 0)]), T (.take (.t 0)), T (.ext 0 (.t 0)), T (.ext 1 (.t 1)), W 1 (.take (.t 1)), W 2 (.take (.t 1))])
(.seq (.ops [T (.take (.x 1)), T (.lit 1 [(kk .u8 9)]), T (.app 1 1 (.t 1) (.t 0)), T (.call false 38 [(.t 0)]), T (.take (.t 0)), T (.ext 0 (.t 0)), T (.ext 1 (.t 1)), W 3 (.alloc false (.agg [.v (.int .u8 0), .v (.int .u8 0), .nils 1])), N (.store 3 (.x 3) (.t 2)), W 4 (.take (.t 2))])
(.seq (.ops [N (.cst .undef), T (.lit 1 [(kk .u8 120)]), T (.call false 49 [(kk .u8 9), (kk .u8 1), (kk .u32 258), (.t 0)]), T (.call false 43 [(.t 0)]), T (.take (.t 0)), T (.ext 0 (.t 0)), T (.ext 1 (.t 1)), T (.ext 2 (.t 2)), W 5 (.take (.t 2)), W 6 (.take (.t 2)), W 7 (.take (.t 2))])
(.seq (.ops [T (.mov (.x 1)), T (.b2s (.t 0)), T (.bin .eql (.t 0) (.c (.v (.str [6, 7, 0, 4])))), T (.mov (.t 0)), GT 0 true (.mov (.x 2)), GT 1 true (.bin .eql (.t 0) (ki 0)), T (.pick (.t 2) (.t 0) (kb false)), T (.mov (.t 0)), GT 0 true (.fa 1 (.x 3)), GT 1 true (.load none (.t 0)), GT 2 true (.bin .eql (.t 0) (kk .u8 7)), T (.pick (.t 3) (.t 0) (kb false)), T (.mov (.t 0)), GT 0 true (.fa 2 (.x 3)), GT 1 true (.load none (.t 0)), GT 2 true (.len (.t 0)), GT 3 true (.bin .eql (.t 0) (ki 0)), T (.pick (.t 4) (.t 0) (kb false)), T (.mov (.t 0)), GT 0 true (.mov (.x 4)), GT 1 true (.bin .eql (.t 0) (ki 0)), T (.pick (.t 2) (.t 0) (kb false)), T (.mov (.t 0)), GT 0 true (.mov (.x 5)), GT 1 true (.bin .eql (.t 0) (kk .u32 258)), T (.pick (.t 2) (.t 0) (kb false)), T (.mov (.t 0)), GT 0 true (.mov (.x 6)), GT 1 true (.len (.t 0)), GT 2 true (.bin .eql (.t 0) (ki 1)), T (.pick (.t 3) (.t 0) (kb false)), T (.mov (.t 0)), GT 0 true (.mov (.x 7)), GT 1 true (.bin .eql (.t 0) (ki 0)), T (.pick (.t 2) (.t 0) (kb false)), T (.mov (.t 0)), T (.pick (.t 0) (kb true) (kb false)), W 0 (.take (.t 0))])
.ret))))) }
def euphroelaw22_alive.m : List Nat := [0, 1, 2, 3, 4, 5, 6, 7]
/-- euphroe/ctl.Lay · 0:c/0 1:c/1 2:/2 3:/3 4:length/4 -/
def ctl_Lay.s : SFunc := { np := 1, nv := 5, res := [.var 2, .var 3], code := (.seq (.ops [W 1 (.box false (.x 0)), W 2 (.take (kn 1)), W 3 (.take (ki 0))])
(.seq (.ifs [T (.fa 2 (.x 1)), T (.load none (.t 0)), T (.len (.t 0)), T (.bin .gtr (.t 0) (ki 4000))] (.t 0) (.seq (.ops [W 2 (.take (kn 1)), W 3 (.take (ki 8))])
.ret) .skip)
(.seq (.ops [T (.fa 2 (.x 1)), T (.load none (.t 0)), T (.len (.t 0)), T (.bin .add (ki 4) (.t 0)), T (.cvi .u64 (.t 0)), T (.call false 85 [(.t 0), (ki 2), (kb false)]), T (.take (.t 0)), T (.ext 0 (.t 0)), T (.ext 1 (.t 1)), W 4 (.take (.t 1)), T (.take (.t 1))])
(.seq (.ops [T (.fa 0 (.x 1)), T (.load none (.t 0)), T (.fa 1 (.x 1)), T (.load none (.t 0)), T (.lit 1 [(.t 2), (.t 0)]), T (.mov (.x 4)), T (.fa 2 (.x 1)), T (.load none (.t 0)), T (.lit 1 [(.t 3), (.t 2), (.t 0)]), T (.call false 86 [(.t 0)]), W 2 (.take (.t 0)), W 3 (.take (ki 0))])
.ret)))) }
def ctl_Lay.m : List Nat := [0, 1, 2, 3, 4]
/-- euphroe/euphroelaw22.theirs · 0:c/0 1:c/1 2:/2 -/
def euphroelaw22_theirs.s : SFunc := { np := 1, nv := 3, res := [.cell (some 3) 2], code := (.seq (.ops [W 1 (.box false (.x 0)), W 2 (.alloc false (.agg [.v (.int .u8 0), .v (.int .u8 0), .nils 1]))])
(.seq (.ops [T (.fa 0 (.x 1)), T (.load none (.t 0)), T (.fa 1 (.x 1)), T (.load none (.t 0)), T (.fa 2 (.x 1)), T (.load none (.t 0)), T (.build [.v (.int .u8 0), .v (.int .u8 0), .nils 1] [(0, 1, (.t 4)), (1, 1, (.t 2)), (2, 1, (.t 0))]), N (.store 3 (.x 2) (.t 0))])
.ret)) }
def euphroelaw22_theirs.m : List Nat := [0, 1, 2]
/-- euphroe/euphroeref22.Lay · 0:c/0 1:c/1 2:/2 3:/3 -/
def euphroeref22_Lay.s : SFunc := { np := 1, nv := 4, res := [.var 2, .var 3], code := (.seq (.ops [W 1 (.box false (.x 0)), W 2 (.take (kn 1)), W 3 (.take (ki 0))])
(.seq (.ifs [T (.fa 2 (.x 1)), T (.load none (.t 0)), T (.len (.t 0)), T (.bin .gtr (.t 0) (ki 4000))] (.t 0) (.seq (.ops [W 2 (.take (kn 1)), W 3 (.take (ki 8))])
.ret) .skip)
(.seq (.ops [T (.fa 0 (.x 1)), T (.load none (.t 0)), T (.fa 1 (.x 1)), T (.load none (.t 0)), T (.lit 1 [(.t 2), (.t 0)]), T (.fa 2 (.x 1)), T (.load none (.t 0)), T (.len (.t 0)), T (.bin .add (ki 4) (.t 0)), T (.cvi .u64 (.t 0)), T (.call false 87 [(.t 0), (ki 2)]), T (.app 1 1 (.t 6) (.t 0)), T (.fa 2 (.x 1)), T (.load none (.t 0)), T (.app 1 1 (.t 2) (.t 0)), W 2 (.take (.t 0)), W 3 (.take (ki 0))])
.ret))) }
def euphroeref22_Lay.m : List Nat := [0, 1, 2, 3]
/-- euphroe/ctl.Parse · 0:b/0 1:/2 2:/3 3:length/4 4:n/6 -/
def ctl_Parse.s : SFunc := { np := 1, nv := 5, res := [.cell (some 3) 1, .var 2], code := (.seq (.ops [W 1 (.alloc false (.agg [.v (.int .u8 0), .v (.int .u8 0), .nils 1])), W 2 (.take (ki 0))])
(.seq (.ifs [T (.mov (.x 0)), T (.len (.t 0)), T (.bin .lss (.t 0) (ki 4))] (.t 0) (.seq (.ops [T (.build [.v (.int .u8 0), .v (.int .u8 0), .nils 1] []), N (.store 3 (.x 1) (.t 0)), W 2 (.take (ki 4))])
.ret) .skip)
(.seq (.ops [T (.mov (.x 0)), T (.sub 1 (.t 0) (some (ki 2)) (some (ki 4)) none), T (.call false 88 [(.t 0), (kb false)]), T (.take (.t 0)), T (.ext 0 (.t 0)), T (.ext 1 (.t 1)), W 3 (.take (.t 1)), T (.take (.t 1))])
(.seq (.ops [T (.mov (.x 3)), T (.cvi .i64 (.t 0)), W 4 (.take (.t 0))])
(.seq (.block 0 (.ifs [T (.mov (.x 4)), T (.bin .lss (.t 0) (ki 4)), T (.take (.t 0))] (.t 0) (.seq (.ops [T (.build [.v (.int .u8 0), .v (.int .u8 0), .nils 1] []), N (.store 3 (.x 1) (.t 0)), W 2 (.take (ki 3))])
.ret) (.ifs [T (.mov (.x 0)), T (.len (.t 0)), T (.mov (.x 4)), T (.bin .lss (.t 1) (.t 0)), T (.take (.t 0))] (.t 0) (.seq (.ops [T (.build [.v (.int .u8 0), .v (.int .u8 0), .nils 1] []), N (.store 3 (.x 1) (.t 0)), W 2 (.take (ki 4))])
.ret) (.ifs [T (.mov (.x 4)), T (.bin .gtr (.t 0) (ki 4004)), T (.take (.t 0))] (.t 0) (.seq (.ops [T (.build [.v (.int .u8 0), .v (.int .u8 0), .nils 1] []), N (.store 3 (.x 1) (.t 0)), W 2 (.take (ki 8))])
.ret) .skip))))
(.seq (.ops [T (.mov (.x 0)), T (.ia 1 (.t 0) (ki 0)), T (.load none (.t 0)), T (.mov (.x 0)), T (.ia 1 (.t 0) (ki 1)), T (.load none (.t 0)), T (.mov (.x 0)), T (.mov (.x 4)), T (.sub 1 (.t 1) (some (ki 4)) (some (.t 0)) none), T (.call false 89 [(.t 0)]), T (.build [.v (.int .u8 0), .v (.int .u8 0), .nils 1] [(0, 1, (.t 7)), (1, 1, (.t 4)), (2, 1, (.t 0))]), N (.store 3 (.x 1) (.t 0)), W 2 (.take (ki 0))])
.ret)))))) }
def ctl_Parse.m : List Nat := [0, 2, 3, 4, 6]
/-- euphroe/euphroeref22.Parse · 0:b/0 1:/2 2:/3 3:n/4 -/
def euphroeref22_Parse.s : SFunc := { np := 1, nv := 4, res := [.cell (some 3) 1, .var 2], code := (.seq (.ops [W 1 (.alloc false (.agg [.v (.int .u8 0), .v (.int .u8 0), .nils 1])), W 2 (.take (ki 0))])
(.seq (.ifs [T (.mov (.x 0)), T (.len (.t 0)), T (.bin .lss (.t 0) (ki 4))] (.t 0) (.seq (.ops [T (.build [.v (.int .u8 0), .v (.int .u8 0), .nils 1] []), N (.store 3 (.x 1) (.t 0)), W 2 (.take (ki 4))])
.ret) .skip)
(.seq (.ops [T (.mov (.x 0)), T (.sub 1 (.t 0) (some (ki 2)) (some (ki 4)) none), T (.call false 90 [(.t 0)]), T (.cvi .i64 (.t 0)), W 3 (.take (.t 0))])
(.seq (.ifs [T (.mov (.x 3)), T (.bin .lss (.t 0) (ki 4))] (.t 0) (.seq (.ops [T (.build [.v (.int .u8 0), .v (.int .u8 0), .nils 1] []), N (.store 3 (.x 1) (.t 0)), W 2 (.take (ki 3))])
.ret) .skip)
(.seq (.ifs [T (.mov (.x 0)), T (.len (.t 0)), T (.mov (.x 3)), T (.bin .lss (.t 1) (.t 0))] (.t 0) (.seq (.ops [T (.build [.v (.int .u8 0), .v (.int .u8 0), .nils 1] []), N (.store 3 (.x 1) (.t 0)), W 2 (.take (ki 4))])
.ret) .skip)
(.seq (.ifs [T (.mov (.x 3)), T (.bin .sub (.t 0) (ki 4)), T (.bin .gtr (.t 0) (ki 4000))] (.t 0) (.seq (.ops [T (.build [.v (.int .u8 0), .v (.int .u8 0), .nils 1] []), N (.store 3 (.x 1) (.t 0)), W 2 (.take (ki 8))])
.ret) .skip)
(.seq (.ops [T (.mov (.x 0)), T (.ia 1 (.t 0) (ki 0)), T (.load none (.t 0)), T (.mov (.x 0)), T (.ia 1 (.t 0) (ki 1)), T (.load none (.t 0)), T (.mov (.x 0)), T (.mov (.x 3)), T (.sub 1 (.t 1) (some (ki 4)) (some (.t 0)) none), T (.build [.v (.int .u8 0), .v (.int .u8 0), .nils 1] [(0, 1, (.t 6)), (1, 1, (.t 3)), (2, 1, (.t 0))]), N (.store 3 (.x 1) (.t 0)), W 2 (.take (ki 0))])
.ret))))))) }
def euphroeref22_Parse.m : List Nat := [0, 2, 3, 4]
/-- euphroe/euphroeref01.Same · 0:a/0 1:b/1 2:/4 3:i/5 -/
def euphroeref01_Same.l0 : SCode := (.seq (.ifs [T (.mov (.x 3)), T (.mov (.x 0)), T (.len (.t 0)), T (.bin .lss (.t 2) (.t 0))] (.t 0) .skip (.exit 0))
(.seq (.block 1 (.ifs [T (.mov (.x 0)), T (.mov (.x 3)), T (.ia 1 (.t 1) (.t 0)), T (.load none (.t 0)), T (.mov (.x 1)), T (.mov (.x 3)), T (.ia 1 (.t 1) (.t 0)), T (.load none (.t 0)), T (.bin .neq (.t 4) (.t 0))] (.t 0) (.seq (.ops [W 2 (.take (kb false))])
.ret) .skip))
(.ops [T (.mov (.x 3)), T (.bin .add (.t 0) (ki 1)), W 3 (.take (.t 0))])))
def euphroeref01_Same.s : SFunc := { np := 2, nv := 4, res := [.var 2], code := (.seq (.ops [W 2 (.take (kb false))])
(.seq (.ifs [T (.mov (.x 0)), T (.len (.t 0)), T (.mov (.x 1)), T (.len (.t 0)), T (.bin .neq (.t 2) (.t 0))] (.t 0) (.seq (.ops [W 2 (.take (kb false))])
.ret) .skip)
(.seq (.seq (.ops [W 3 (.take (ki 0))])
(.block 0 (.loop [] euphroeref01_Same.l0)))
(.seq (.ops [W 2 (.take (kb true))])
.ret)))) }
def euphroeref01_Same.m : List Nat := [0, 1, 4, 5]
/-- euphroe/ctl.Same · 0:a/0 1:b/1 2:a/2 3:b/3 4:/4 -/
def ctl_Same.s : SFunc := { np := 2, nv := 5, res := [.var 4], code := (.seq (.ops [W 2 (.box false (.x 0)), W 3 (.box false (.x 1)), W 4 (.take (kb false))])
(.seq (.ops [T (.fa 0 (.x 2)), T (.load none (.t 0)), T (.fa 0 (.x 3)), T (.load none (.t 0)), T (.bin .eql (.t 2) (.t 0)), T (.mov (.t 0)), GT 0 true (.fa 1 (.x 2)), GT 1 true (.load none (.t 0)), GT 2 true (.fa 1 (.x 3)), GT 3 true (.load none (.t 0)), GT 4 true (.bin .eql (.t 2) (.t 0)), T (.pick (.t 5) (.t 0) (kb false)), T (.mov (.t 0)), GT 0 true (.fa 2 (.x 2)), GT 1 true (.load none (.t 0)), GT 2 true (.fa 2 (.x 3)), GT 3 true (.load none (.t 0)), GT 4 true (.call false 91 [(.t 2), (.t 0)]), T (.pick (.t 5) (.t 0) (kb false)), W 4 (.take (.t 0))])
.ret)) }
def ctl_Same.m : List Nat := [0, 1, 2, 3, 4]
/-- euphroe/euphroeref22.Same · 0:a/0 1:b/1 2:a/2 3:b/3 4:/4 -/
def euphroeref22_Same.s : SFunc := { np := 2, nv := 5, res := [.var 4], code := (.seq (.ops [W 2 (.box false (.x 0)), W 3 (.box false (.x 1)), W 4 (.take (kb false))])
(.seq (.ops [T (.fa 0 (.x 2)), T (.load none (.t 0)), T (.fa 0 (.x 3)), T (.load none (.t 0)), T (.bin .eql (.t 2) (.t 0)), T (.mov (.t 0)), GT 0 true (.fa 1 (.x 2)), GT 1 true (.load none (.t 0)), GT 2 true (.fa 1 (.x 3)), GT 3 true (.load none (.t 0)), GT 4 true (.bin .eql (.t 2) (.t 0)), T (.pick (.t 5) (.t 0) (kb false)), T (.mov (.t 0)), GT 0 true (.fa 2 (.x 2)), GT 1 true (.load none (.t 0)), GT 2 true (.fa 2 (.x 3)), GT 3 true (.load none (.t 0)), GT 4 true (.call false 40 [(.t 2), (.t 0)]), T (.pick (.t 5) (.t 0) (kb false)), W 4 (.take (.t 0))])
.ret)) }
def euphroeref22_Same.m : List Nat := [0, 1, 2, 3, 4]
/-- euphroe/ctl.Magic · 0:c/0 1:c/1 2:/2 3:/3 4:/4 5:n/5 -/
def ctl_Magic.s : SFunc := { np := 1, nv := 6, res := [.var 2, .var 3, .var 4], code := (.seq (.ops [W 1 (.box false (.x 0)), W 2 (.take (kk .u32 0)), W 3 (.take (kn 1)), W 4 (.take (ki 0))])
(.seq (.ifs [T (.fa 2 (.x 1)), T (.load none (.t 0)), T (.len (.t 0)), T (.bin .lss (.t 0) (ki 4))] (.t 0) (.seq (.ops [W 2 (.take (kk .u32 0)), W 3 (.take (kn 1)), W 4 (.take (ki 4))])
.ret) .skip)
(.seq (.ops [T (.fa 2 (.x 1)), T (.load none (.t 0)), T (.sub 1 (.t 0) none (some (ki 4)) none), T (.call false 88 [(.t 0), (kb false)]), T (.take (.t 0)), T (.ext 0 (.t 0)), T (.ext 1 (.t 1)), W 5 (.take (.t 1)), T (.take (.t 1))])
(.seq (.ops [T (.mov (.x 5)), T (.cvi .u32 (.t 0)), T (.fa 2 (.x 1)), T (.load none (.t 0)), T (.sub 1 (.t 0) (some (ki 4)) none none), T (.call false 89 [(.t 0)]), W 2 (.take (.t 4)), W 3 (.take (.t 1)), W 4 (.take (ki 0))])
.ret)))) }
def ctl_Magic.m : List Nat := [0, 1, 2, 3, 4, 5]
/-- euphroe/euphroeref22.Magic · 0:c/0 1:c/1 2:/2 3:/3 4:/4 -/
def euphroeref22_Magic.s : SFunc := { np := 1, nv := 5, res := [.var 2, .var 3, .var 4], code := (.seq (.ops [W 1 (.box false (.x 0)), W 2 (.take (kk .u32 0)), W 3 (.take (kn 1)), W 4 (.take (ki 0))])
(.seq (.ifs [T (.fa 2 (.x 1)), T (.load none (.t 0)), T (.len (.t 0)), T (.bin .lss (.t 0) (ki 4))] (.t 0) (.seq (.ops [W 2 (.take (kk .u32 0)), W 3 (.take (kn 1)), W 4 (.take (ki 4))])
.ret) .skip)
(.seq (.ops [T (.fa 2 (.x 1)), T (.load none (.t 0)), T (.sub 1 (.t 0) none (some (ki 4)) none), T (.call false 90 [(.t 0)]), T (.cvi .u32 (.t 0)), T (.fa 2 (.x 1)), T (.load none (.t 0)), T (.sub 1 (.t 0) (some (ki 4)) none none), W 2 (.take (.t 3)), W 3 (.take (.t 1)), W 4 (.take (ki 0))])
.ret))) }
def euphroeref22_Magic.m : List Nat := [0, 1, 2, 3, 4]
/-- euphroe/ctl.Reject · 0:id/0 1:c/1 2:most/2 3:c/4 4:/6 5:b/7 -/
def ctl_Reject.s : SFunc := { np := 3, nv := 6, res := [.cell (some 3) 4], code := (.seq (.ops [W 3 (.box false (.x 1)), W 4 (.alloc false (.agg [.v (.int .u8 0), .v (.int .u8 0), .nils 1]))])
(.seq (.ops [T (.load (some 3) (.x 3)), T (.call false 35 [(.t 0)]), T (.take (.t 0)), T (.ext 0 (.t 0)), T (.ext 1 (.t 1)), W 5 (.take (.t 1)), T (.take (.t 1))])
(.seq (.ops [T (.mov (.x 0)), T (.mov (.x 5)), T (.mov (.x 2)), T (.call false 92 [(.t 1), (.t 0)]), T (.build [.v (.int .u8 0), .v (.int .u8 0), .nils 1] [(0, 1, (kk .u8 7)), (1, 1, (.t 3)), (2, 1, (.t 0))]), N (.store 3 (.x 4) (.t 0))])
.ret))) }
def ctl_Reject.m : List Nat := [0, 1, 2, 4, 6, 7]
/-- euphroe/euphroeref22.Reject · 0:id/0 1:c/1 2:most/2 3:c/4 4:/6 5:b/7 -/
def euphroeref22_Reject.s : SFunc := { np := 3, nv := 6, res := [.cell (some 3) 4], code := (.seq (.ops [W 3 (.box false (.x 1)), W 4 (.alloc false (.agg [.v (.int .u8 0), .v (.int .u8 0), .nils 1]))])
(.seq (.ops [T (.load (some 3) (.x 3)), T (.call false 37 [(.t 0)]), T (.take (.t 0)), T (.ext 0 (.t 0)), T (.ext 1 (.t 1)), W 5 (.take (.t 1)), T (.take (.t 1))])
(.seq (.ops [T (.mov (.x 0)), T (.mov (.x 5)), T (.mov (.x 2)), T (.call false 93 [(.t 1), (.t 0)]), T (.build [.v (.int .u8 0), .v (.int .u8 0), .nils 1] [(0, 1, (kk .u8 7)), (1, 1, (.t 3)), (2, 1, (.t 0))]), N (.store 3 (.x 4) (.t 0))])
.ret))) }
def euphroeref22_Reject.m : List Nat := [0, 1, 2, 4, 6, 7]
/-- euphroe/ctl.Proto · 0:id/0 1:f/1 2:most/2 3:f/4 4:/6 5:number/7 -/
def ctl_Proto.s : SFunc := { np := 3, nv := 6, res := [.cell (some 3) 4], code := (.seq (.ops [W 3 (.box false (.x 1)), W 4 (.alloc false (.agg [.v (.int .u8 0), .v (.int .u8 0), .nils 1]))])
(.seq (.ops [T (.fa 0 (.x 3)), T (.load none (.t 0)), T (.cvi .u64 (.t 0)), T (.call false 85 [(.t 0), (ki 2), (kb false)]), T (.take (.t 0)), T (.ext 0 (.t 0)), T (.ext 1 (.t 1)), W 5 (.take (.t 1)), T (.take (.t 1))])
(.seq (.ops [T (.mov (.x 0)), T (.mov (.x 5)), T (.fa 1 (.x 3)), T (.load none (.t 0)), T (.lit 1 [(.t 2), (.t 0)]), T (.call false 86 [(.t 0)]), T (.mov (.x 2)), T (.call false 92 [(.t 1), (.t 0)]), T (.build [.v (.int .u8 0), .v (.int .u8 0), .nils 1] [(0, 1, (kk .u8 8)), (1, 1, (.t 7)), (2, 1, (.t 0))]), N (.store 3 (.x 4) (.t 0))])
.ret))) }
def ctl_Proto.m : List Nat := [0, 1, 2, 4, 6, 7]
/-- euphroe/euphroeref22.Proto · 0:id/0 1:f/1 2:most/2 3:f/4 4:/6 -/
def euphroeref22_Proto.s : SFunc := { np := 3, nv := 5, res := [.cell (some 3) 4], code := (.seq (.ops [W 3 (.box false (.x 1)), W 4 (.alloc false (.agg [.v (.int .u8 0), .v (.int .u8 0), .nils 1]))])
(.seq (.ops [T (.mov (.x 0)), T (.fa 0 (.x 3)), T (.load none (.t 0)), T (.cvi .u64 (.t 0)), T (.call false 87 [(.t 0), (ki 2)]), T (.fa 1 (.x 3)), T (.load none (.t 0)), T (.app 1 1 (.t 2) (.t 0)), T (.mov (.x 2)), T (.call false 93 [(.t 1), (.t 0)]), T (.build [.v (.int .u8 0), .v (.int .u8 0), .nils 1] [(0, 1, (kk .u8 8)), (1, 1, (.t 9)), (2, 1, (.t 0))]), N (.store 3 (.x 4) (.t 0))])
.ret)) }
def euphroeref22_Proto.m : List Nat := [0, 1, 2, 4, 6]
/-- euphroe/ctl.Echo · 0:code/0 1:id/1 2:magic/2 3:data/3 4:/8 5:number/9 -/
def ctl_Echo.s : SFunc := { np := 4, nv := 6, res := [.cell (some 3) 4], code := (.seq (.ops [W 4 (.alloc false (.agg [.v (.int .u8 0), .v (.int .u8 0), .nils 1]))])
(.seq (.ops [T (.mov (.x 2)), T (.cvi .u64 (.t 0)), T (.call false 85 [(.t 0), (ki 4), (kb false)]), T (.take (.t 0)), T (.ext 0 (.t 0)), T (.ext 1 (.t 1)), W 5 (.take (.t 1)), T (.take (.t 1))])
(.seq (.ops [T (.mov (.x 0)), T (.mov (.x 1)), T (.mov (.x 5)), T (.mov (.x 3)), T (.lit 1 [(.t 1), (.t 0)]), T (.call false 86 [(.t 0)]), T (.build [.v (.int .u8 0), .v (.int .u8 0), .nils 1] [(0, 1, (.t 5)), (1, 1, (.t 4)), (2, 1, (.t 0))]), N (.store 3 (.x 4) (.t 0))])
.ret))) }
def ctl_Echo.m : List Nat := [0, 1, 2, 3, 8, 9]
/-- euphroe/euphroeref22.Echo · 0:code/0 1:id/1 2:magic/2 3:data/3 4:/8 -/
def euphroeref22_Echo.s : SFunc := { np := 4, nv := 5, res := [.cell (some 3) 4], code := (.seq (.ops [W 4 (.alloc false (.agg [.v (.int .u8 0), .v (.int .u8 0), .nils 1]))])
(.seq (.ops [T (.mov (.x 0)), T (.mov (.x 1)), T (.mov (.x 2)), T (.cvi .u64 (.t 0)), T (.call false 87 [(.t 0), (ki 4)]), T (.mov (.x 3)), T (.app 1 1 (.t 1) (.t 0)), T (.build [.v (.int .u8 0), .v (.int .u8 0), .nils 1] [(0, 1, (.t 6)), (1, 1, (.t 5)), (2, 1, (.t 0))]), N (.store 3 (.x 4) (.t 0))])
.ret)) }
def euphroeref22_Echo.m : List Nat := [0, 1, 2, 3, 8]
/-- euphroe/euphroelaw21.far · 0:l/0 1:/2 2:/9 3:/10 4:/11 5:o/4 -/
def euphroelaw21_far.l0 : SCode := (.seq (.ifs [T (.bin .lss (.x 4) (.x 3))] (.t 0) .skip (.exit 0))
(.seq (.block 1 (.seq (.ops [T (.ia 2 (.x 2) (.x 4)), T (.load (some 2) (.t 0)), W 5 (.alloc false (.agg [.v (.int .u8 0), .nils 1])), N (.store 2 (.x 5) (.t 1))])
(.ifs [T (.fa 1 (.x 5)), T (.load none (.t 0)), T (.len (.t 0)), T (.bin .gtr (.t 0) (ki 300))] (.t 0) (.seq (.ops [W 1 (.take (kb true))])
.ret) .skip)))
(.ops [T (.bin .add (.x 4) (ki 1)), W 4 (.mov (.t 0))])))
def euphroelaw21_far.s : SFunc := { np := 1, nv := 6, res := [.var 1], code := (.seq (.ops [W 1 (.take (kb false))])
(.seq (.seq (.ops [T (.mov (.x 0)), T (.mov (.x 0)), T (.len (.t 0)), T (.mn (.t 0) (ki 40)), W 2 (.sub 2 (.t 3) none (some (.t 0)) none), W 3 (.len (.x 2)), W 4 (.mov (ki 0))])
(.block 0 (.loop [5] euphroelaw21_far.l0)))
(.seq (.ops [T (.mov (.x 0)), T (.len (.t 0)), T (.bin .gtr (.t 0) (ki 40)), W 1 (.take (.t 0))])
.ret))) }
def euphroelaw21_far.m : List Nat := [0, 2, 9, 10, 11, 4]
/-- euphroe/euphroelaw21.alive · 0:/0 1:l/1 2:b/2 3:e/3 4:k/4 5:f/5 6:o/6 7:ok/7 -/
def euphroelaw21_alive.s : SFunc := { np := 0, nv := 8, res := [.var 0], code := (.seq (.ops [W 0 (.take (kb false))])
(.seq (.ops [T (.lit 1 [(kk .u8 5), (kk .u8 120)]), T (.build [.v (.int .u8 0), .nils 1] [(0, 1, (kk .u8 1)), (1, 1, (.t 0))]), T (.lit 2 [(.t 0)]), W 1 (.take (.t 0))])
(.seq (.ops [T (.mov (.x 1)), T (.call false 53 [(.t 0)]), T (.take (.t 0)), T (.ext 0 (.t 0)), T (.ext 1 (.t 1)), W 2 (.take (.t 1)), W 3 (.take (.t 1))])
(.seq (.ops [T (.mov (.x 2)), T (.call false 56 [(.t 0)]), T (.take (.t 0)), T (.ext 0 (.t 0)), T (.ext 1 (.t 1)), W 4 (.take (.t 1)), W 5 (.take (.t 1))])
(.seq (.ops [T (.mov (.x 4)), T (.call false 59 [(.t 0), (kk .u8 1)]), T (.take (.t 0)), T (.ext 0 (.t 0)), T (.ext 1 (.t 1)), W 6 (.alloc false (.agg [.v (.int .u8 0), .nils 1])), N (.store 2 (.x 6) (.t 2)), W 7 (.take (.t 2))])
(.seq (.ops [T (.mov (.x 2)), T (.b2s (.t 0)), T (.bin .eql (.t 0) (.c (.v (.str [1, 4, 5, 120])))), T (.mov (.t 0)), GT 0 true (.mov (.x 3)), GT 1 true (.bin .eql (.t 0) (ki 0)), T (.pick (.t 2) (.t 0) (kb false)), T (.mov (.t 0)), GT 0 true (.mov (.x 1)), GT 1 true (.mov (.x 4)), GT 2 true (.call false 58 [(.t 1), (.t 0)]), T (.pick (.t 3) (.t 0) (kb false)), T (.mov (.t 0)), GT 0 true (.mov (.x 5)), GT 1 true (.bin .eql (.t 0) (ki 0)), T (.pick (.t 2) (.t 0) (kb false)), T (.mov (.t 0)), GT 0 true (.mov (.x 7)), T (.pick (.t 1) (.t 0) (kb false)), T (.mov (.t 0)), GT 0 true (.fa 1 (.x 6)), GT 1 true (.load none (.t 0)), GT 2 true (.len (.t 0)), GT 3 true (.bin .eql (.t 0) (ki 2)), T (.pick (.t 4) (.t 0) (kb false)), T (.mov (.t 0)), GT 0 true (.mov (.x 1)), GT 1 true (.call false 65 [(kn 2), (.t 0)]), T (.pick (.t 2) (.t 0) (kb false)), T (.mov (.t 0)), GT 0 true (.mov (.x 1)), GT 1 true (.call false 63 [(.t 0), (kk .u8 1)]), GT 2 true (.len (.t 0)), GT 3 true (.bin .eql (.t 0) (ki 0)), T (.pick (.t 4) (.t 0) (kb false)), T (.mov (.t 0)), GT 0 true (.mov (.x 1)), GT 1 true (.call false 61 [(.t 0)]), GT 2 true (.len (.t 0)), GT 3 true (.bin .eql (.t 0) (ki 1)), T (.pick (.t 4) (.t 0) (kb false)), W 0 (.take (.t 0))])
.ret)))))) }
def euphroelaw21_alive.m : List Nat := [0, 1, 2, 3, 4, 5, 6, 7]
/-- euphroe/opts.Lay · 0:l/0 1:/2 2:/3 3:b/4 4:/10 5:/11 6:/12 7:o/6 -/
def opts_Lay.l0 : SCode := (.seq (.ifs [T (.bin .lss (.x 6) (.x 5))] (.t 0) .skip (.exit 0))
(.seq (.block 1 (.seq (.ops [T (.ia 2 (.x 4) (.x 6)), T (.load (some 2) (.t 0)), W 7 (.alloc false (.agg [.v (.int .u8 0), .nils 1])), N (.store 2 (.x 7) (.t 1))])
(.seq (.ifs [T (.fa 1 (.x 7)), T (.load none (.t 0)), T (.len (.t 0)), T (.bin .gtr (.t 0) (ki 253))] (.t 0) (.seq (.ops [W 1 (.take (kn 1)), W 2 (.take (ki 8))])
.ret) .skip)
(.seq (.ops [T (.take (.x 3)), T (.fa 0 (.x 7)), T (.load none (.t 0)), T (.fa 1 (.x 7)), T (.load none (.t 0)), T (.len (.t 0)), T (.bin .add (ki 2) (.t 0)), T (.cvi .u8 (.t 0)), T (.lit 1 [(.t 5), (.t 0)]), T (.app 1 1 (.t 8) (.t 0)), W 3 (.take (.t 0))])
(.ops [T (.take (.x 3)), T (.fa 1 (.x 7)), T (.load none (.t 0)), T (.app 1 1 (.t 2) (.t 0)), W 3 (.take (.t 0))])))))
(.ops [T (.bin .add (.x 6) (ki 1)), W 6 (.mov (.t 0))])))
def opts_Lay.s : SFunc := { np := 1, nv := 8, res := [.var 1, .var 2], code := (.seq (.ops [W 1 (.take (kn 1)), W 2 (.take (ki 0))])
(.seq (.ifs [T (.mov (.x 0)), T (.len (.t 0)), T (.bin .gtr (.t 0) (ki 32))] (.t 0) (.seq (.ops [W 1 (.take (kn 1)), W 2 (.take (ki 5))])
.ret) .skip)
(.seq (.ops [W 3 (.take (kn 1))])
(.seq (.seq (.ops [W 4 (.mov (.x 0)), W 5 (.len (.x 4)), W 6 (.mov (ki 0))])
(.block 0 (.loop [7] opts_Lay.l0)))
(.seq (.ops [T (.take (.x 3)), W 1 (.take (.t 0)), W 2 (.take (ki 0))])
.ret))))) }
def opts_Lay.m : List Nat := [0, 2, 3, 4, 10, 11, 12, 6]
/-- euphroe/euphroelaw21.theirs · 0:l/0 1:/2 2:out/3 3:/6 4:/7 5:/8 6:o/5 -/
def euphroelaw21_theirs.l0 : SCode := (.seq (.ifs [T (.bin .lss (.x 5) (.x 4))] (.t 0) .skip (.exit 0))
(.seq (.block 1 (.seq (.ops [T (.ia 2 (.x 3) (.x 5)), T (.load (some 2) (.t 0)), W 6 (.alloc false (.agg [.v (.int .u8 0), .nils 1])), N (.store 2 (.x 6) (.t 1))])
(.ops [T (.take (.x 2)), T (.fa 0 (.x 6)), T (.load none (.t 0)), T (.fa 1 (.x 6)), T (.load none (.t 0)), T (.build [.v (.int .u8 0), .nils 1] [(0, 1, (.t 2)), (1, 1, (.t 0))]), T (.lit 2 [(.t 0)]), T (.app 2 32 (.t 6) (.t 0)), W 2 (.take (.t 0))])))
(.ops [T (.bin .add (.x 5) (ki 1)), W 5 (.mov (.t 0))])))
def euphroelaw21_theirs.s : SFunc := { np := 1, nv := 7, res := [.var 1], code := (.seq (.ops [W 1 (.take (kn 2))])
(.seq (.ops [W 2 (.take (kn 2))])
(.seq (.seq (.ops [W 3 (.mov (.x 0)), W 4 (.len (.x 3)), W 5 (.mov (ki 0))])
(.block 0 (.loop [6] euphroelaw21_theirs.l0)))
(.seq (.ops [T (.take (.x 2)), W 1 (.take (.t 0))])
.ret)))) }
def euphroelaw21_theirs.m : List Nat := [0, 2, 3, 6, 7, 8, 5]
/-- euphroe/euphroeref21.Lay · 0:l/0 1:/2 2:/3 3:out/4 4:i/5 -/
def euphroeref21_Lay.l0 : SCode := (.seq (.ifs [T (.mov (.x 4)), T (.mov (.x 0)), T (.len (.t 0)), T (.bin .lss (.t 2) (.t 0))] (.t 0) .skip (.exit 0))
(.seq (.block 1 (.seq (.ifs [T (.mov (.x 0)), T (.mov (.x 4)), T (.ia 2 (.t 1) (.t 0)), T (.fa 1 (.t 0)), T (.load none (.t 0)), T (.len (.t 0)), T (.bin .gtr (.t 0) (ki 253))] (.t 0) (.seq (.ops [W 1 (.take (kn 1)), W 2 (.take (ki 8))])
.ret) .skip)
(.ops [T (.take (.x 3)), T (.mov (.x 0)), T (.mov (.x 4)), T (.ia 2 (.t 1) (.t 0)), T (.fa 0 (.t 0)), T (.load none (.t 0)), T (.mov (.x 0)), T (.mov (.x 4)), T (.ia 2 (.t 1) (.t 0)), T (.fa 1 (.t 0)), T (.load none (.t 0)), T (.len (.t 0)), T (.bin .add (ki 2) (.t 0)), T (.cvi .u8 (.t 0)), T (.lit 1 [(.t 8), (.t 0)]), T (.app 1 1 (.t 14) (.t 0)), T (.mov (.x 0)), T (.mov (.x 4)), T (.ia 2 (.t 1) (.t 0)), T (.fa 1 (.t 0)), T (.load none (.t 0)), T (.app 1 1 (.t 5) (.t 0)), W 3 (.take (.t 0))])))
(.ops [T (.mov (.x 4)), T (.bin .add (.t 0) (ki 1)), W 4 (.take (.t 0))])))
def euphroeref21_Lay.s : SFunc := { np := 1, nv := 5, res := [.var 1, .var 2], code := (.seq (.ops [W 1 (.take (kn 1)), W 2 (.take (ki 0))])
(.seq (.ifs [T (.mov (.x 0)), T (.len (.t 0)), T (.bin .gtr (.t 0) (ki 32))] (.t 0) (.seq (.ops [W 1 (.take (kn 1)), W 2 (.take (ki 5))])
.ret) .skip)
(.seq (.ops [W 3 (.take (kn 1))])
(.seq (.seq (.ops [W 4 (.take (ki 0))])
(.block 0 (.loop [] euphroeref21_Lay.l0)))
(.seq (.ops [T (.take (.x 3)), W 1 (.take (.t 0)), W 2 (.take (ki 0))])
.ret))))) }
def euphroeref21_Lay.m : List Nat := [0, 2, 3, 4, 5]
/-- euphroe/opts.Parse · 0:b/0 1:/2 2:/3 3:l/4 4:o/5 5:n/6 6:e/7 -/
def opts_Parse.l0 : SCode := (.seq (.ifs [T (.mov (.x 0)), T (.len (.t 0)), T (.bin .gtr (.t 0) (ki 0))] (.t 0) .skip (.exit 0))
(.block 1 (.seq (.ifs [T (.mov (.x 3)), T (.len (.t 0)), T (.bin .eql (.t 0) (ki 32))] (.t 0) (.seq (.ops [W 1 (.take (kn 2)), W 2 (.take (ki 5))])
.ret) .skip)
(.seq (.ops [T (.mov (.x 0)), T (.call false 94 [(.t 0)]), T (.take (.t 0)), T (.ext 0 (.t 0)), T (.ext 1 (.t 1)), T (.ext 2 (.t 2)), W 4 (.alloc false (.agg [.v (.int .u8 0), .nils 1])), N (.store 2 (.x 4) (.t 3)), W 5 (.take (.t 3)), W 6 (.take (.t 3))])
(.seq (.ifs [T (.mov (.x 6)), T (.bin .neq (.t 0) (ki 0))] (.t 0) (.seq (.ops [T (.take (.x 6)), W 1 (.take (kn 2)), W 2 (.take (.t 1))])
.ret) .skip)
(.seq (.ops [T (.take (.x 3)), T (.load (some 2) (.x 4)), T (.lit 2 [(.t 0)]), T (.app 2 32 (.t 2) (.t 0)), W 3 (.take (.t 0))])
(.ops [T (.mov (.x 0)), T (.mov (.x 5)), T (.sub 1 (.t 1) (some (.t 0)) none none), W 0 (.take (.t 0))])))))))
def opts_Parse.s : SFunc := { np := 1, nv := 7, res := [.var 1, .var 2], code := (.seq (.ops [W 1 (.take (kn 2)), W 2 (.take (ki 0))])
(.seq (.ops [W 3 (.take (kn 2))])
(.seq (.block 0 (.loop [4, 5, 6] opts_Parse.l0))
(.seq (.ops [T (.take (.x 3)), W 1 (.take (.t 0)), W 2 (.take (ki 0))])
.ret)))) }
def opts_Parse.m : List Nat := [0, 2, 3, 4, 5, 6, 7]
/-- euphroe/euphroeref21.Parse · 0:b/0 1:/2 2:/3 3:out/4 4:at/5 5:n/6 -/
def euphroeref21_Parse.l0 : SCode := (.seq (.ifs [T (.mov (.x 4)), T (.mov (.x 0)), T (.len (.t 0)), T (.bin .lss (.t 2) (.t 0))] (.t 0) .skip (.exit 0))
(.block 1 (.seq (.ifs [T (.mov (.x 3)), T (.len (.t 0)), T (.bin .eql (.t 0) (ki 32))] (.t 0) (.seq (.ops [W 1 (.take (kn 2)), W 2 (.take (ki 5))])
.ret) .skip)
(.seq (.ifs [T (.mov (.x 0)), T (.len (.t 0)), T (.mov (.x 4)), T (.bin .sub (.t 1) (.t 0)), T (.bin .lss (.t 0) (ki 2))] (.t 0) (.seq (.ops [W 1 (.take (kn 2)), W 2 (.take (ki 4))])
.ret) .skip)
(.seq (.ops [T (.mov (.x 0)), T (.mov (.x 4)), T (.bin .add (.t 0) (ki 1)), T (.ia 1 (.t 2) (.t 0)), T (.load none (.t 0)), T (.cvi .i64 (.t 0)), W 5 (.take (.t 0))])
(.seq (.ifs [T (.mov (.x 5)), T (.bin .lss (.t 0) (ki 2))] (.t 0) (.seq (.ops [W 1 (.take (kn 2)), W 2 (.take (ki 3))])
.ret) .skip)
(.seq (.ifs [T (.mov (.x 0)), T (.len (.t 0)), T (.mov (.x 4)), T (.bin .sub (.t 1) (.t 0)), T (.mov (.x 5)), T (.bin .lss (.t 1) (.t 0))] (.t 0) (.seq (.ops [W 1 (.take (kn 2)), W 2 (.take (ki 4))])
.ret) .skip)
(.seq (.ops [T (.take (.x 3)), T (.mov (.x 0)), T (.mov (.x 4)), T (.ia 1 (.t 1) (.t 0)), T (.load none (.t 0)), T (.mov (.x 0)), T (.mov (.x 4)), T (.bin .add (.t 0) (ki 2)), T (.mov (.x 4)), T (.mov (.x 5)), T (.bin .add (.t 1) (.t 0)), T (.sub 1 (.t 5) (some (.t 3)) (some (.t 0)) none), T (.build [.v (.int .u8 0), .nils 1] [(0, 1, (.t 7)), (1, 1, (.t 0))]), T (.lit 2 [(.t 0)]), T (.app 2 32 (.t 13) (.t 0)), W 3 (.take (.t 0))])
(.ops [T (.mov (.x 4)), T (.mov (.x 5)), T (.bin .add (.t 1) (.t 0)), W 4 (.take (.t 0))])))))))))
def euphroeref21_Parse.s : SFunc := { np := 1, nv := 6, res := [.var 1, .var 2], code := (.seq (.ops [W 1 (.take (kn 2)), W 2 (.take (ki 0))])
(.seq (.ops [W 3 (.take (kn 2))])
(.seq (.seq (.ops [W 4 (.take (ki 0))])
(.block 0 (.loop [5] euphroeref21_Parse.l0)))
(.seq (.ops [T (.take (.x 3)), W 1 (.take (.t 0)), W 2 (.take (ki 0))])
.ret)))) }
def euphroeref21_Parse.m : List Nat := [0, 2, 3, 4, 5, 6]
/-- euphroe/opts.Same · 0:a/0 1:b/1 2:/4 -/
def opts_Same.s : SFunc := { np := 2, nv := 3, res := [.var 2], code := (.seq (.ops [W 2 (.take (kb false))])
(.seq (.ops [T (.mov (.x 0)), T (.mov (.x 1)), T (.call true 95 [(.t 1), (.t 0), (.c (.v (.fn 96)))]), W 2 (.take (.t 0))])
.ret)) }
def opts_Same.m : List Nat := [0, 1, 4]
/-- euphroe/opts.Find · 0:l/0 1:kind/1 2:kind/3 3:/4 4:/5 5:i/6 -/
def opts_Find.s : SFunc := { np := 2, nv := 6, res := [.cell (some 2) 3, .var 4], code := (.seq (.ops [W 2 (.box false (.x 1)), W 3 (.alloc false (.agg [.v (.int .u8 0), .nils 1])), W 4 (.take (kb false))])
(.seq (.ops [T (.mov (.x 0)), T (.mkf 98 [] [(.x 2)]), T (.call true 97 [(.t 1), (.t 0)]), W 5 (.take (.t 0))])
(.seq (.ifs [T (.mov (.x 5)), T (.bin .lss (.t 0) (ki 0))] (.t 0) (.seq (.ops [T (.build [.v (.int .u8 0), .nils 1] []), N (.store 2 (.x 3) (.t 0)), W 4 (.take (kb false))])
.ret) .skip)
(.seq (.ops [T (.mov (.x 0)), T (.mov (.x 5)), T (.ia 2 (.t 1) (.t 0)), T (.load (some 2) (.t 0)), N (.store 2 (.x 3) (.t 0)), W 4 (.take (kb true))])
.ret)))) }
def opts_Find.m : List Nat := [0, 1, 3, 4, 5, 6]
/-- euphroe/euphroeref21.Find · 0:l/0 1:kind/1 2:/4 3:/5 4:i/6 -/
def euphroeref21_Find.l0 : SCode := (.seq (.ifs [T (.mov (.x 4)), T (.mov (.x 0)), T (.len (.t 0)), T (.bin .lss (.t 2) (.t 0))] (.t 0) .skip (.exit 0))
(.seq (.block 1 (.ifs [T (.mov (.x 0)), T (.mov (.x 4)), T (.ia 2 (.t 1) (.t 0)), T (.fa 0 (.t 0)), T (.load none (.t 0)), T (.mov (.x 1)), T (.bin .eql (.t 1) (.t 0))] (.t 0) (.seq (.ops [T (.mov (.x 0)), T (.mov (.x 4)), T (.ia 2 (.t 1) (.t 0)), T (.load (some 2) (.t 0)), N (.store 2 (.x 2) (.t 0)), W 3 (.take (kb true))])
.ret) .skip))
(.ops [T (.mov (.x 4)), T (.bin .add (.t 0) (ki 1)), W 4 (.take (.t 0))])))
def euphroeref21_Find.s : SFunc := { np := 2, nv := 5, res := [.cell (some 2) 2, .var 3], code := (.seq (.ops [W 2 (.alloc false (.agg [.v (.int .u8 0), .nils 1])), W 3 (.take (kb false))])
(.seq (.seq (.ops [W 4 (.take (ki 0))])
(.block 0 (.loop [] euphroeref21_Find.l0)))
(.seq (.ops [T (.build [.v (.int .u8 0), .nils 1] []), N (.store 2 (.x 2) (.t 0)), W 3 (.take (kb false))])
.ret))) }
def euphroeref21_Find.m : List Nat := [0, 1, 4, 5, 6]
/-- euphroe/opts.Kinds · 0:l/0 1:/2 2:b/3 3:/6 4:/7 5:/8 6:o/5 -/
def opts_Kinds.l0 : SCode := (.seq (.ifs [T (.bin .lss (.x 5) (.x 4))] (.t 0) .skip (.exit 0))
(.seq (.block 1 (.seq (.ops [T (.ia 2 (.x 3) (.x 5)), T (.load (some 2) (.t 0)), W 6 (.alloc false (.agg [.v (.int .u8 0), .nils 1])), N (.store 2 (.x 6) (.t 1))])
(.ops [T (.take (.x 2)), T (.fa 0 (.x 6)), T (.load none (.t 0)), T (.lit 1 [(.t 0)]), T (.app 1 1 (.t 3) (.t 0)), W 2 (.take (.t 0))])))
(.ops [T (.bin .add (.x 5) (ki 1)), W 5 (.mov (.t 0))])))
def opts_Kinds.s : SFunc := { np := 1, nv := 7, res := [.var 1], code := (.seq (.ops [W 1 (.take (kn 1))])
(.seq (.ops [W 2 (.take (kn 1))])
(.seq (.seq (.ops [W 3 (.mov (.x 0)), W 4 (.len (.x 3)), W 5 (.mov (ki 0))])
(.block 0 (.loop [6] opts_Kinds.l0)))
(.seq (.ops [T (.take (.x 2)), W 1 (.take (.t 0))])
.ret)))) }
def opts_Kinds.m : List Nat := [0, 2, 3, 6, 7, 8, 5]
/-- euphroe/euphroeref21.Same · 0:a/0 1:b/1 2:/4 3:i/5 -/
def euphroeref21_Same.l0 : SCode := (.seq (.ifs [T (.mov (.x 3)), T (.mov (.x 0)), T (.len (.t 0)), T (.bin .lss (.t 2) (.t 0))] (.t 0) .skip (.exit 0))
(.seq (.block 1 (.ifs [T (.mov (.x 0)), T (.mov (.x 3)), T (.ia 2 (.t 1) (.t 0)), T (.load (some 2) (.t 0)), T (.mov (.x 1)), T (.mov (.x 3)), T (.ia 2 (.t 1) (.t 0)), T (.load (some 2) (.t 0)), T (.call false 99 [(.t 4), (.t 0)]), T (.un .not (.t 0))] (.t 0) (.seq (.ops [W 2 (.take (kb false))])
.ret) .skip))
(.ops [T (.mov (.x 3)), T (.bin .add (.t 0) (ki 1)), W 3 (.take (.t 0))])))
def euphroeref21_Same.s : SFunc := { np := 2, nv := 4, res := [.var 2], code := (.seq (.ops [W 2 (.take (kb false))])
(.seq (.ifs [T (.mov (.x 0)), T (.len (.t 0)), T (.mov (.x 1)), T (.len (.t 0)), T (.bin .neq (.t 2) (.t 0))] (.t 0) (.seq (.ops [W 2 (.take (kb false))])
.ret) .skip)
(.seq (.seq (.ops [W 3 (.take (ki 0))])
(.block 0 (.loop [] euphroeref21_Same.l0)))
(.seq (.ops [W 2 (.take (kb true))])
.ret)))) }
def euphroeref21_Same.m : List Nat := [0, 1, 4, 5]
/-- euphroe/opts.Without · 0:l/0 1:kind/1 2:kind/3 3:/4 -/
def opts_Without.s : SFunc := { np := 2, nv := 4, res := [.var 3], code := (.seq (.ops [W 2 (.box false (.x 1)), W 3 (.take (kn 2))])
(.seq (.ops [T (.mov (.x 0)), T (.call true 101 [(.t 0)]), T (.mkf 102 [] [(.x 2)]), T (.call true 100 [(.t 1), (.t 0)]), W 3 (.take (.t 0))])
.ret)) }
def opts_Without.m : List Nat := [0, 1, 3, 4]
/-- euphroe/euphroeref21.Without · 0:l/0 1:kind/1 2:/4 3:out/5 4:i/6 -/
def euphroeref21_Without.l0 : SCode := (.seq (.ifs [T (.mov (.x 4)), T (.mov (.x 0)), T (.len (.t 0)), T (.bin .lss (.t 2) (.t 0))] (.t 0) .skip (.exit 0))
(.seq (.block 1 (.ifs [T (.mov (.x 0)), T (.mov (.x 4)), T (.ia 2 (.t 1) (.t 0)), T (.fa 0 (.t 0)), T (.load none (.t 0)), T (.mov (.x 1)), T (.bin .neq (.t 1) (.t 0))] (.t 0) (.ops [T (.take (.x 3)), T (.mov (.x 0)), T (.mov (.x 4)), T (.ia 2 (.t 1) (.t 0)), T (.load (some 2) (.t 0)), T (.lit 2 [(.t 0)]), T (.app 2 32 (.t 5) (.t 0)), W 3 (.take (.t 0))]) .skip))
(.ops [T (.mov (.x 4)), T (.bin .add (.t 0) (ki 1)), W 4 (.take (.t 0))])))
def euphroeref21_Without.s : SFunc := { np := 2, nv := 5, res := [.var 2], code := (.seq (.ops [W 2 (.take (kn 2))])
(.seq (.ops [W 3 (.take (kn 2))])
(.seq (.seq (.ops [W 4 (.take (ki 0))])
(.block 0 (.loop [] euphroeref21_Without.l0)))
(.seq (.ops [T (.take (.x 3)), W 2 (.take (.t 0))])
.ret)))) }
def euphroeref21_Without.m : List Nat := [0, 1, 4, 5, 6]
/-- euphroe/opts.Among · 0:l/0 1:all/1 2:/4 3:/7 4:/8 5:/9 6:o/6 -/
def opts_Among.l0 : SCode := (.seq (.ifs [T (.bin .lss (.x 5) (.x 4))] (.t 0) .skip (.exit 0))
(.seq (.block 1 (.seq (.ops [T (.ia 2 (.x 3) (.x 5)), T (.load (some 2) (.t 0)), W 6 (.alloc false (.agg [.v (.int .u8 0), .nils 1])), N (.store 2 (.x 6) (.t 1))])
(.ifs [T (.mov (.x 0)), T (.len (.t 0)), T (.bin .gtr (.t 0) (ki 0)), T (.mov (.t 0)), GT 0 true (.mov (.x 0)), GT 1 true (.ia 2 (.t 0) (ki 0)), GT 2 true (.load (some 2) (.t 0)), GT 3 true (.load (some 2) (.x 6)), GT 4 true (.call false 96 [(.t 1), (.t 0)]), T (.pick (.t 5) (.t 0) (kb false))] (.t 0) (.ops [T (.mov (.x 0)), T (.sub 2 (.t 0) (some (ki 1)) none none), W 0 (.take (.t 0))]) .skip)))
(.ops [T (.bin .add (.x 5) (ki 1)), W 5 (.mov (.t 0))])))
def opts_Among.s : SFunc := { np := 2, nv := 7, res := [.var 2], code := (.seq (.ops [W 2 (.take (kb false))])
(.seq (.seq (.ops [W 3 (.mov (.x 1)), W 4 (.len (.x 3)), W 5 (.mov (ki 0))])
(.block 0 (.loop [6] opts_Among.l0)))
(.seq (.ops [T (.mov (.x 0)), T (.len (.t 0)), T (.bin .eql (.t 0) (ki 0)), W 2 (.take (.t 0))])
.ret))) }
def opts_Among.m : List Nat := [0, 1, 4, 7, 8, 9, 6]
/-- euphroe/euphroeref21.Among · 0:l/0 1:all/1 2:/4 3:i/5 -/
def euphroeref21_Among.l0 : SCode := (.seq (.ifs [T (.mov (.x 3)), T (.mov (.x 1)), T (.len (.t 0)), T (.bin .lss (.t 2) (.t 0))] (.t 0) .skip (.exit 0))
(.seq (.block 1 (.ifs [T (.mov (.x 0)), T (.ia 2 (.t 0) (ki 0)), T (.load (some 2) (.t 0)), T (.mov (.x 1)), T (.mov (.x 3)), T (.ia 2 (.t 1) (.t 0)), T (.load (some 2) (.t 0)), T (.call false 99 [(.t 4), (.t 0)])] (.t 0) (.seq (.ops [T (.mov (.x 0)), T (.sub 2 (.t 0) (some (ki 1)) none none), T (.mov (.x 1)), T (.mov (.x 3)), T (.bin .add (.t 0) (ki 1)), T (.sub 2 (.t 2) (some (.t 0)) none none), T (.call false 66 [(.t 4), (.t 0)]), W 2 (.take (.t 0))])
.ret) .skip))
(.ops [T (.mov (.x 3)), T (.bin .add (.t 0) (ki 1)), W 3 (.take (.t 0))])))
def euphroeref21_Among.s : SFunc := { np := 2, nv := 4, res := [.var 2], code := (.seq (.ops [W 2 (.take (kb false))])
(.seq (.ifs [T (.mov (.x 0)), T (.len (.t 0)), T (.bin .eql (.t 0) (ki 0))] (.t 0) (.seq (.ops [W 2 (.take (kb true))])
.ret) .skip)
(.seq (.seq (.ops [W 3 (.take (ki 0))])
(.block 0 (.loop [] euphroeref21_Among.l0)))
(.seq (.ops [W 2 (.take (kb false))])
.ret)))) }
def euphroeref21_Among.m : List Nat := [0, 1, 4, 5]
/-- euphroe/euphroelaw25.far · 0:l/0 1:/2 2:/9 3:/10 4:/11 5:o/4 -/
def euphroelaw25_far.l0 : SCode := (.seq (.ifs [T (.bin .lss (.x 4) (.x 3))] (.t 0) .skip (.exit 0))
(.seq (.block 1 (.seq (.ops [T (.ia 2 (.x 2) (.x 4)), T (.load (some 2) (.t 0)), W 5 (.alloc false (.agg [.v (.int .u8 0), .nils 1])), N (.store 2 (.x 5) (.t 1))])
(.ifs [T (.fa 1 (.x 5)), T (.load none (.t 0)), T (.len (.t 0)), T (.bin .gtr (.t 0) (ki 300))] (.t 0) (.seq (.ops [W 1 (.take (kb true))])
.ret) .skip)))
(.ops [T (.bin .add (.x 4) (ki 1)), W 4 (.mov (.t 0))])))
def euphroelaw25_far.s : SFunc := { np := 1, nv := 6, res := [.var 1], code := (.seq (.ops [W 1 (.take (kb false))])
(.seq (.seq (.ops [T (.mov (.x 0)), T (.mov (.x 0)), T (.len (.t 0)), T (.mn (.t 0) (ki 40)), W 2 (.sub 2 (.t 3) none (some (.t 0)) none), W 3 (.len (.x 2)), W 4 (.mov (ki 0))])
(.block 0 (.loop [5] euphroelaw25_far.l0)))
(.seq (.ops [T (.mov (.x 0)), T (.len (.t 0)), T (.bin .gtr (.t 0) (ki 40)), W 1 (.take (.t 0))])
.ret))) }
def euphroelaw25_far.m : List Nat := [0, 2, 9, 10, 11, 4]
/-- euphroe/euphroelaw25.alive · 0:/0 1:c/1 2:l/2 3:w/3 -/
def euphroelaw25_alive.s : SFunc := { np := 0, nv := 4, res := [.var 0], code := (.seq (.ops [W 0 (.take (kb false))])
(.seq (.ops [T (.build [.v (.int .u8 0), .nils 1] [(0, 1, (kk .u8 9))]), T (.lit 2 [(.t 0)]), T (.call false 69 [(.t 0), (kb true), (kk .u32 1), (kk .u32 2)]), T (.take (.t 0)), T (.ext 0 (.t 0)), T (.ext 1 (.t 1)), W 1 (.take (.t 1)), W 2 (.take (.t 1))])
(.seq (.ops [T (.build [.v (.int .u16 0), .v (.int .u32 0), .v (.bool false)] [(0, 1, (kk .u16 1400)), (2, 1, (kb true)), (1, 1, (kk .u32 7))]), T (.call false 72 [(.t 0)]), W 3 (.take (.t 0))])
(.seq (.ops [T (.mov (.x 1)), T (.bin .eql (.t 0) (kk .u8 4)), T (.mov (.t 0)), GT 0 true (.mov (.x 2)), GT 1 true (.len (.t 0)), GT 2 true (.bin .eql (.t 0) (ki 1)), T (.pick (.t 3) (.t 0) (kb false)), T (.mov (.t 0)), GT 0 true (.mov (.x 2)), GT 1 true (.ia 2 (.t 0) (ki 0)), GT 2 true (.fa 0 (.t 0)), GT 3 true (.load none (.t 0)), GT 4 true (.bin .eql (.t 0) (kk .u8 9)), T (.pick (.t 5) (.t 0) (kb false)), T (.mov (.t 0)), GT 0 true (.mov (.x 3)), GT 1 true (.len (.t 0)), GT 2 true (.bin .eql (.t 0) (ki 3)), T (.pick (.t 3) (.t 0) (kb false)), T (.mov (.t 0)), GT 0 true (.mov (.x 3)), GT 1 true (.ia 2 (.t 0) (ki 1)), GT 2 true (.fa 1 (.t 0)), GT 3 true (.load none (.t 0)), GT 4 true (.len (.t 0)), GT 5 true (.bin .eql (.t 0) (ki 3)), T (.pick (.t 6) (.t 0) (kb false)), T (.mov (.t 0)), GT 0 true (.mov (.x 3)), GT 1 true (.call false 73 [(.t 0)]), GT 2 true (.fld 0 none (.t 0)), GT 3 true (.bin .eql (.t 0) (kk .u16 1400)), T (.pick (.t 4) (.t 0) (kb false)), T (.mov (.t 0)), GT 0 true (.call false 103 []), GT 1 true (.len (.t 0)), GT 2 true (.bin .eql (.t 0) (ki 3)), T (.pick (.t 3) (.t 0) (kb false)), W 0 (.take (.t 0))])
.ret)))) }
def euphroelaw25_alive.m : List Nat := [0, 1, 2, 3]
/-- euphroe/lcpo.Judge · 0:l/0 1:proves/1 2:own/2 3:fresh/3 4:/8 5:/9 6:rejected/10 7:naked/11 8:met/12 9:/18 10:/19 11:/20 12:o/14 13:x/15 14:worse/16 -/
def lcpo_Judge.l0 : SCode := (.seq (.ifs [T (.bin .lss (.x 11) (.x 10))] (.t 0) .skip (.exit 0))
(.seq (.block 1 (.seq (.ops [T (.ia 2 (.x 9) (.x 11)), T (.load (some 2) (.t 0)), W 12 (.alloc false (.agg [.v (.int .u8 0), .nils 1])), N (.store 2 (.x 12) (.t 1))])
(.seq (.seq (.ops [T (.load (some 2) (.x 12)), T (.mov (.x 2)), T (.mov (.x 3)), T (.call false 104 [(.t 2), (.t 1), (.t 0)]), T (.take (.t 0)), T (.ext 0 (.t 0)), T (.ext 1 (.t 1)), W 13 (.alloc false (.agg [.v (.int .u8 0), .nils 1])), N (.store 2 (.x 13) (.t 2)), W 14 (.take (.t 2))])
(.ifs [T (.load (some 2) (.x 12)), T (.call false 105 [(.t 0)]), T (.un .not (.t 0)), T (.mov (.t 0)), GT 0 false (.mov (.x 8)), GT 1 false (.fa 0 (.x 12)), GT 2 false (.load none (.t 0)), GT 3 false (.look 1 false (.v (.bool false)) (.t 2) (.t 0)), T (.pick (.t 4) (kb true) (.t 0)), T (.mov (.t 0)), GT 0 false (.fa 0 (.x 12)), GT 1 false (.load none (.t 0)), GT 2 false (.bin .eql (.t 0) (kk .u8 3)), GT 3 false (.mov (.t 0)), GT 0 true (.mov (.x 1)), GT 1 true (.un .not (.t 0)), GT 6 false (.pick (.t 2) (.t 0) (kb false)), T (.pick (.t 7) (kb true) (.t 0))] (.t 0) (.ops [T (.take (.x 6)), T (.load (some 2) (.x 12)), T (.lit 2 [(.t 0)]), T (.app 2 32 (.t 2) (.t 0)), W 6 (.take (.t 0))]) (.ifs [T (.mov (.x 14))] (.t 0) (.ops [T (.take (.x 7)), T (.load (some 2) (.x 13)), T (.lit 2 [(.t 0)]), T (.app 2 32 (.t 2) (.t 0)), W 7 (.take (.t 0))]) .skip)))
(.ops [T (.mov (.x 8)), T (.fa 0 (.x 12)), T (.load none (.t 0)), N (.mupd 1 (.t 2) (.t 0) (kb true))]))))
(.ops [T (.bin .add (.x 11) (ki 1)), W 11 (.mov (.t 0))])))
def lcpo_Judge.s : SFunc := { np := 4, nv := 15, res := [.var 4, .var 5], code := (.seq (.ops [W 4 (.take (kk .u8 0)), W 5 (.take (kn 2))])
(.seq (.ops [W 6 (.take (kn 2)), W 7 (.take (kn 2))])
(.seq (.ops [T (.mkmap false), W 8 (.take (.t 0))])
(.seq (.seq (.ops [W 9 (.mov (.x 0)), W 10 (.len (.x 9)), W 11 (.mov (ki 0))])
(.block 0 (.loop [12, 13, 14] lcpo_Judge.l0)))
(.seq (.block 2 (.ifs [T (.mov (.x 6)), T (.len (.t 0)), T (.bin .gtr (.t 0) (ki 0)), T (.take (.t 0))] (.t 0) (.seq (.ops [T (.take (.x 6)), W 4 (.take (kk .u8 4)), W 5 (.take (.t 1))])
.ret) (.ifs [T (.mov (.x 7)), T (.len (.t 0)), T (.bin .gtr (.t 0) (ki 0)), T (.take (.t 0))] (.t 0) (.seq (.ops [T (.take (.x 7)), W 4 (.take (kk .u8 3)), W 5 (.take (.t 1))])
.ret) .skip)))
(.seq (.ops [T (.mov (.x 0)), T (.call true 101 [(.t 0)]), W 4 (.take (kk .u8 2)), W 5 (.take (.t 1))])
.ret)))))) }
def lcpo_Judge.m : List Nat := [0, 1, 2, 3, 8, 9, 10, 11, 12, 18, 19, 20, 14, 15, 16]
/-- euphroe/euphroelaw25.theirs · 0:l/0 1:/2 2:out/3 3:/6 4:/7 5:/8 6:o/5 -/
def euphroelaw25_theirs.l0 : SCode := (.seq (.ifs [T (.bin .lss (.x 5) (.x 4))] (.t 0) .skip (.exit 0))
(.seq (.block 1 (.seq (.ops [T (.ia 2 (.x 3) (.x 5)), T (.load (some 2) (.t 0)), W 6 (.alloc false (.agg [.v (.int .u8 0), .nils 1])), N (.store 2 (.x 6) (.t 1))])
(.ops [T (.take (.x 2)), T (.fa 0 (.x 6)), T (.load none (.t 0)), T (.fa 1 (.x 6)), T (.load none (.t 0)), T (.build [.v (.int .u8 0), .nils 1] [(0, 1, (.t 2)), (1, 1, (.t 0))]), T (.lit 2 [(.t 0)]), T (.app 2 32 (.t 6) (.t 0)), W 2 (.take (.t 0))])))
(.ops [T (.bin .add (.x 5) (ki 1)), W 5 (.mov (.t 0))])))
def euphroelaw25_theirs.s : SFunc := { np := 1, nv := 7, res := [.var 1], code := (.seq (.ops [W 1 (.take (kn 2))])
(.seq (.ops [W 2 (.take (kn 2))])
(.seq (.seq (.ops [W 3 (.mov (.x 0)), W 4 (.len (.x 3)), W 5 (.mov (ki 0))])
(.block 0 (.loop [6] euphroelaw25_theirs.l0)))
(.seq (.ops [T (.take (.x 2)), W 1 (.take (.t 0))])
.ret)))) }
def euphroelaw25_theirs.m : List Nat := [0, 2, 3, 6, 7, 8, 5]
/-- euphroe/euphroeref25.Judge · 0:l/0 1:proves/1 2:own/2 3:fresh/3 4:/8 5:/9 6:rej/10 7:nak/11 8:i/12 9:met/14 10:o/15 11:is/16 -/
def euphroeref25_Judge.l0 : SCode := (.seq (.ifs [T (.mov (.x 8)), T (.mov (.x 0)), T (.len (.t 0)), T (.bin .lss (.t 2) (.t 0))] (.t 0) .skip (.exit 0))
(.seq (.block 1 (.seq (.ops [T (.mov (.x 0)), T (.mov (.x 8)), T (.sub 2 (.t 1) none (some (.t 0)) none), T (.mov (.x 0)), T (.mov (.x 8)), T (.ia 2 (.t 1) (.t 0)), T (.fa 0 (.t 0)), T (.load none (.t 0)), T (.call false 60 [(.t 5), (.t 0)]), T (.take (.t 0)), T (.ext 0 (.t 0)), T (.ext 1 (.t 1)), T (.alloc false (.agg [.v (.int .u8 0), .nils 1])), N (.store 2 (.t 0) (.t 2)), W 9 (.take (.t 2))])
(.seq (.ifs [T (.mov (.x 0)), T (.mov (.x 8)), T (.ia 2 (.t 1) (.t 0)), T (.load (some 2) (.t 0)), T (.call false 106 [(.t 0)]), T (.un .not (.t 0)), T (.mov (.t 0)), GT 0 false (.mov (.x 9)), T (.pick (.t 1) (kb true) (.t 0)), T (.mov (.t 0)), GT 0 false (.mov (.x 0)), GT 1 false (.mov (.x 8)), GT 2 false (.ia 2 (.t 1) (.t 0)), GT 3 false (.fa 0 (.t 0)), GT 4 false (.load none (.t 0)), GT 5 false (.bin .eql (.t 0) (kk .u8 3)), GT 6 false (.mov (.t 0)), GT 0 true (.mov (.x 1)), GT 1 true (.un .not (.t 0)), GT 9 false (.pick (.t 2) (.t 0) (kb false)), T (.pick (.t 10) (kb true) (.t 0))] (.t 0) (.seq (.ops [T (.take (.x 6)), T (.mov (.x 0)), T (.mov (.x 8)), T (.ia 2 (.t 1) (.t 0)), T (.load (some 2) (.t 0)), T (.lit 2 [(.t 0)]), T (.app 2 32 (.t 5) (.t 0)), W 6 (.take (.t 0))])
(.exit 1)) .skip)
(.seq (.ops [T (.mov (.x 0)), T (.mov (.x 8)), T (.ia 2 (.t 1) (.t 0)), T (.load (some 2) (.t 0)), T (.mov (.x 2)), T (.mov (.x 3)), T (.call false 107 [(.t 2), (.t 1), (.t 0)]), T (.take (.t 0)), T (.ext 0 (.t 0)), T (.ext 1 (.t 1)), W 10 (.alloc false (.agg [.v (.int .u8 0), .nils 1])), N (.store 2 (.x 10) (.t 2)), W 11 (.take (.t 2))])
(.ifs [T (.mov (.x 11))] (.t 0) (.ops [T (.take (.x 7)), T (.load (some 2) (.x 10)), T (.lit 2 [(.t 0)]), T (.app 2 32 (.t 2) (.t 0)), W 7 (.take (.t 0))]) .skip)))))
(.ops [T (.mov (.x 8)), T (.bin .add (.t 0) (ki 1)), W 8 (.take (.t 0))])))
def euphroeref25_Judge.s : SFunc := { np := 4, nv := 12, res := [.var 4, .var 5], code := (.seq (.ops [W 4 (.take (kk .u8 0)), W 5 (.take (kn 2))])
(.seq (.ops [W 6 (.take (kn 2)), W 7 (.take (kn 2))])
(.seq (.seq (.ops [W 8 (.take (ki 0))])
(.block 0 (.loop [9, 10, 11] euphroeref25_Judge.l0)))
(.seq (.ifs [T (.mov (.x 6)), T (.len (.t 0)), T (.bin .gtr (.t 0) (ki 0))] (.t 0) (.seq (.ops [T (.take (.x 6)), W 4 (.take (kk .u8 4)), W 5 (.take (.t 1))])
.ret) .skip)
(.seq (.ifs [T (.mov (.x 7)), T (.len (.t 0)), T (.bin .gtr (.t 0) (ki 0))] (.t 0) (.seq (.ops [T (.take (.x 7)), W 4 (.take (kk .u8 3)), W 5 (.take (.t 1))])
.ret) .skip)
(.seq (.ops [T (.take (.x 0)), W 4 (.take (kk .u8 2)), W 5 (.take (.t 1))])
.ret)))))) }
def euphroeref25_Judge.m : List Nat := [0, 1, 2, 3, 8, 9, 10, 11, 12, 14, 15, 16]
/-- euphroe/lcpo.Options · 0:w/0 1:w/1 2:/2 3:l/3 -/
def lcpo_Options.s : SFunc := { np := 1, nv := 4, res := [.var 2], code := (.seq (.ops [W 1 (.box false (.x 0)), W 2 (.take (kn 2))])
(.seq (.ops [W 3 (.take (kn 2))])
(.seq (.ifs [T (.fa 0 (.x 1)), T (.load none (.t 0)), T (.bin .neq (.t 0) (kk .u16 0))] (.t 0) (.ops [T (.take (.x 3)), T (.fa 0 (.x 1)), T (.load none (.t 0)), T (.cvi .u64 (.t 0)), T (.call false 108 [(kk .u8 1), (.t 0), (ki 2)]), T (.lit 2 [(.t 0)]), T (.app 2 32 (.t 5) (.t 0)), W 3 (.take (.t 0))]) .skip)
(.seq (.ifs [T (.fa 2 (.x 1)), T (.load none (.t 0))] (.t 0) (.ops [T (.take (.x 3)), T (.call false 103 []), T (.build [.v (.int .u8 0), .nils 1] [(0, 1, (kk .u8 3)), (1, 1, (.t 0))]), T (.lit 2 [(.t 0)]), T (.app 2 32 (.t 3) (.t 0)), W 3 (.take (.t 0))]) .skip)
(.seq (.ifs [T (.fa 1 (.x 1)), T (.load none (.t 0)), T (.bin .neq (.t 0) (kk .u32 0))] (.t 0) (.ops [T (.take (.x 3)), T (.fa 1 (.x 1)), T (.load none (.t 0)), T (.cvi .u64 (.t 0)), T (.call false 108 [(kk .u8 5), (.t 0), (ki 4)]), T (.lit 2 [(.t 0)]), T (.app 2 32 (.t 5) (.t 0)), W 3 (.take (.t 0))]) .skip)
(.seq (.ops [T (.take (.x 3)), W 2 (.take (.t 0))])
.ret)))))) }
def lcpo_Options.m : List Nat := [0, 1, 2, 3]
/-- euphroe/lcpo.Of · 0:l/0 1:/2 2:g/3 3:o/4 4:ok/5 5:o/6 6:ok/7 7:o/8 -/
def lcpo_Of.s : SFunc := { np := 1, nv := 8, res := [.cell (some 5) 1], code := (.seq (.ops [W 1 (.alloc false (.v (.agg [(.int .u16 0), (.int .u32 0), (.bool false), (.bool false), (.bool false)])))])
(.seq (.ops [T (.build [.v (.int .u16 0), .v (.int .u32 0), .v (.bool false), .v (.bool false), .v (.bool false)] [(0, 1, (kk .u16 1500))]), W 2 (.alloc false (.v (.agg [(.int .u16 0), (.int .u32 0), (.bool false), (.bool false), (.bool false)]))), N (.store 5 (.x 2) (.t 1))])
(.seq (.seq (.ops [T (.mov (.x 0)), T (.call false 109 [(.t 0), (kk .u8 1)]), T (.take (.t 0)), T (.ext 0 (.t 0)), T (.ext 1 (.t 1)), W 3 (.alloc false (.agg [.v (.int .u8 0), .nils 1])), N (.store 2 (.x 3) (.t 2)), W 4 (.take (.t 2))])
(.ifs [T (.mov (.x 4))] (.t 0) (.ops [T (.load (some 2) (.x 3)), T (.call false 110 [(.t 0)]), T (.cvi .u16 (.t 0)), T (.fa 0 (.x 2)), N (.store 1 (.t 0) (.t 1))]) .skip))
(.seq (.seq (.ops [T (.mov (.x 0)), T (.call false 109 [(.t 0), (kk .u8 5)]), T (.take (.t 0)), T (.ext 0 (.t 0)), T (.ext 1 (.t 1)), W 5 (.alloc false (.agg [.v (.int .u8 0), .nils 1])), N (.store 2 (.x 5) (.t 2)), W 6 (.take (.t 2))])
(.ifs [T (.mov (.x 6))] (.t 0) (.ops [T (.load (some 2) (.x 5)), T (.call false 110 [(.t 0)]), T (.cvi .u32 (.t 0)), T (.fa 1 (.x 2)), N (.store 1 (.t 0) (.t 1))]) .skip))
(.seq (.ops [T (.mov (.x 0)), T (.call false 109 [(.t 0), (kk .u8 3)]), T (.take (.t 0)), T (.ext 0 (.t 0)), T (.ext 1 (.t 1)), W 7 (.alloc false (.agg [.v (.int .u8 0), .nils 1])), N (.store 2 (.x 7) (.t 2)), T (.take (.t 2))])
(.seq (.ops [T (.fa 1 (.x 7)), T (.load none (.t 0)), T (.call false 103 []), T (.call false 91 [(.t 1), (.t 0)]), T (.fa 2 (.x 2)), N (.store 1 (.t 0) (.t 1))])
(.seq (.ops [T (.mov (.x 0)), T (.call false 109 [(.t 0), (kk .u8 7)]), T (.take (.t 0)), T (.ext 0 (.t 0)), T (.ext 1 (.t 1)), T (.fa 3 (.x 2)), N (.store 1 (.t 0) (.t 1))])
(.seq (.ops [T (.mov (.x 0)), T (.call false 109 [(.t 0), (kk .u8 8)]), T (.take (.t 0)), T (.ext 0 (.t 0)), T (.ext 1 (.t 1)), T (.fa 4 (.x 2)), N (.store 1 (.t 0) (.t 1))])
(.seq (.ops [T (.load (some 5) (.x 2)), N (.store 5 (.x 1) (.t 0))])
.ret))))))))) }
def lcpo_Of.m : List Nat := [0, 2, 3, 4, 5, 6, 7, 8]
/-- euphroe/ctl.Conf · 0:code/0 1:id/1 2:l/2 3:/6 4:/7 5:b/8 6:e/9 -/
def ctl_Conf.s : SFunc := { np := 3, nv := 7, res := [.cell (some 3) 3, .var 4], code := (.seq (.ops [W 3 (.alloc false (.agg [.v (.int .u8 0), .v (.int .u8 0), .nils 1])), W 4 (.take (ki 0))])
(.seq (.ifs [T (.mov (.x 0)), T (.call false 111 [(.t 0)]), T (.un .not (.t 0))] (.t 0) (.seq (.ops [T (.build [.v (.int .u8 0), .v (.int .u8 0), .nils 1] []), N (.store 3 (.x 3) (.t 0)), W 4 (.take (ki 9))])
.ret) .skip)
(.seq (.ops [T (.mov (.x 2)), T (.call false 53 [(.t 0)]), T (.take (.t 0)), T (.ext 0 (.t 0)), T (.ext 1 (.t 1)), W 5 (.take (.t 1)), W 6 (.take (.t 1))])
(.seq (.ifs [T (.mov (.x 6)), T (.bin .neq (.t 0) (ki 0))] (.t 0) (.seq (.ops [T (.build [.v (.int .u8 0), .v (.int .u8 0), .nils 1] []), T (.take (.x 6)), N (.store 3 (.x 3) (.t 1)), W 4 (.take (.t 1))])
.ret) .skip)
(.seq (.ops [T (.mov (.x 0)), T (.mov (.x 1)), T (.mov (.x 5)), T (.build [.v (.int .u8 0), .v (.int .u8 0), .nils 1] [(0, 1, (.t 2)), (1, 1, (.t 1)), (2, 1, (.t 0))]), N (.store 3 (.x 3) (.t 0)), W 4 (.take (ki 0))])
.ret))))) }
def ctl_Conf.m : List Nat := [0, 1, 2, 6, 7, 8, 9]
/-- euphroe/euphroelaw22.options · 0:l/0 1:/2 2:out/3 3:/6 4:/7 5:/8 6:o/5 -/
def euphroelaw22_options.l0 : SCode := (.seq (.ifs [T (.bin .lss (.x 5) (.x 4))] (.t 0) .skip (.exit 0))
(.seq (.block 1 (.seq (.ops [T (.ia 2 (.x 3) (.x 5)), T (.load (some 2) (.t 0)), W 6 (.alloc false (.agg [.v (.int .u8 0), .nils 1])), N (.store 2 (.x 6) (.t 1))])
(.ops [T (.take (.x 2)), T (.fa 0 (.x 6)), T (.load none (.t 0)), T (.fa 1 (.x 6)), T (.load none (.t 0)), T (.build [.v (.int .u8 0), .nils 1] [(0, 1, (.t 2)), (1, 1, (.t 0))]), T (.lit 2 [(.t 0)]), T (.app 2 32 (.t 6) (.t 0)), W 2 (.take (.t 0))])))
(.ops [T (.bin .add (.x 5) (ki 1)), W 5 (.mov (.t 0))])))
def euphroelaw22_options.s : SFunc := { np := 1, nv := 7, res := [.var 1], code := (.seq (.ops [W 1 (.take (kn 2))])
(.seq (.ops [W 2 (.take (kn 2))])
(.seq (.seq (.ops [W 3 (.mov (.x 0)), W 4 (.len (.x 3)), W 5 (.mov (ki 0))])
(.block 0 (.loop [6] euphroelaw22_options.l0)))
(.seq (.ops [T (.take (.x 2)), W 1 (.take (.t 0))])
.ret)))) }
def euphroelaw22_options.m : List Nat := [0, 2, 3, 6, 7, 8, 5]
/-- euphroe/euphroeref22.Conf · 0:code/0 1:id/1 2:l/2 3:/6 4:/7 5:b/8 6:e/9 -/
def euphroeref22_Conf.s : SFunc := { np := 3, nv := 7, res := [.cell (some 3) 3, .var 4], code := (.seq (.ops [W 3 (.alloc false (.agg [.v (.int .u8 0), .v (.int .u8 0), .nils 1])), W 4 (.take (ki 0))])
(.seq (.ifs [T (.mov (.x 0)), T (.call false 112 [(.t 0)]), T (.un .not (.t 0))] (.t 0) (.seq (.ops [T (.build [.v (.int .u8 0), .v (.int .u8 0), .nils 1] []), N (.store 3 (.x 3) (.t 0)), W 4 (.take (ki 9))])
.ret) .skip)
(.seq (.ops [T (.mov (.x 2)), T (.call false 55 [(.t 0)]), T (.take (.t 0)), T (.ext 0 (.t 0)), T (.ext 1 (.t 1)), W 5 (.take (.t 1)), W 6 (.take (.t 1))])
(.seq (.ifs [T (.mov (.x 6)), T (.bin .neq (.t 0) (ki 0))] (.t 0) (.seq (.ops [T (.build [.v (.int .u8 0), .v (.int .u8 0), .nils 1] []), T (.take (.x 6)), N (.store 3 (.x 3) (.t 1)), W 4 (.take (.t 1))])
.ret) .skip)
(.seq (.ops [T (.mov (.x 0)), T (.mov (.x 1)), T (.mov (.x 5)), T (.build [.v (.int .u8 0), .v (.int .u8 0), .nils 1] [(0, 1, (.t 2)), (1, 1, (.t 1)), (2, 1, (.t 0))]), N (.store 3 (.x 3) (.t 0)), W 4 (.take (ki 0))])
.ret))))) }
def euphroeref22_Conf.m : List Nat := [0, 1, 2, 6, 7, 8, 9]
/-- euphroe/ctl.Options · 0:c/0 1:c/1 2:/2 3:/3 -/
def ctl_Options.s : SFunc := { np := 1, nv := 4, res := [.var 2, .var 3], code := (.seq (.ops [W 1 (.box false (.x 0)), W 2 (.take (kn 2)), W 3 (.take (ki 0))])
(.seq (.ifs [T (.fa 0 (.x 1)), T (.load none (.t 0)), T (.call false 111 [(.t 0)]), T (.un .not (.t 0))] (.t 0) (.seq (.ops [W 2 (.take (kn 2)), W 3 (.take (ki 9))])
.ret) .skip)
(.seq (.ops [T (.fa 2 (.x 1)), T (.load none (.t 0)), T (.call false 56 [(.t 0)]), T (.ext 0 (.t 0)), T (.ext 1 (.t 1)), W 2 (.take (.t 1)), W 3 (.take (.t 1))])
.ret))) }
def ctl_Options.m : List Nat := [0, 1, 2, 3]
/-- euphroe/euphroeref22.Options · 0:c/0 1:c/1 2:/2 3:/3 -/
def euphroeref22_Options.s : SFunc := { np := 1, nv := 4, res := [.var 2, .var 3], code := (.seq (.ops [W 1 (.box false (.x 0)), W 2 (.take (kn 2)), W 3 (.take (ki 0))])
(.seq (.ifs [T (.fa 0 (.x 1)), T (.load none (.t 0)), T (.call false 112 [(.t 0)]), T (.un .not (.t 0))] (.t 0) (.seq (.ops [W 2 (.take (kn 2)), W 3 (.take (ki 9))])
.ret) .skip)
(.seq (.ops [T (.fa 2 (.x 1)), T (.load none (.t 0)), T (.call false 57 [(.t 0)]), T (.ext 0 (.t 0)), T (.ext 1 (.t 1)), W 2 (.take (.t 1)), W 3 (.take (.t 1))])
.ret))) }
def euphroeref22_Options.m : List Nat := [0, 1, 2, 3]
/-- euphroe/octs.Put · 0:n/0 1:width/1 2:little/2 3:/6 4:/7 5:b/8 6:/19 7:/20 8:i/9 -/
def octs_Put.l0 : SCode := (.seq (.ifs [T (.bin .lss (.x 7) (.x 6))] (.t 0) .skip (.exit 0))
(.seq (.block 1 (.seq (.ops [T (.mov (.x 7)), W 8 (.take (.t 0))])
(.ops [T (.mov (.x 5)), T (.mov (.x 8)), T (.mov (.x 0)), T (.mov (.x 8)), T (.bin .mul (ki 8) (.t 0)), T (.bin .shr (.t 2) (.t 0)), T (.cvi .u8 (.t 0)), T (.ia 1 (.t 6) (.t 5)), N (.store 1 (.t 0) (.t 1))])))
(.ops [T (.bin .add (.x 7) (ki 1)), W 7 (.mov (.t 0))])))
def octs_Put.s : SFunc := { np := 3, nv := 9, res := [.var 3, .var 4], code := (.seq (.ops [W 3 (.take (kn 1)), W 4 (.take (ki 0))])
(.seq (.ifs [T (.mov (.x 1)), T (.bin .lss (.t 0) (ki 1)), T (.mov (.t 0)), GT 0 false (.mov (.x 1)), GT 1 false (.bin .gtr (.t 0) (ki 8)), T (.pick (.t 2) (kb true) (.t 0))] (.t 0) (.seq (.ops [W 3 (.take (kn 1)), W 4 (.take (ki 1))])
.ret) .skip)
(.seq (.ops [T (.mov (.x 1)), T (.make 1 1 (.v (.int .u8 0)) (.t 0) (.t 0)), W 5 (.take (.t 0))])
(.seq (.seq (.ops [T (.mov (.x 5)), W 6 (.len (.t 0)), W 7 (.mov (ki 0))])
(.block 0 (.loop [8] octs_Put.l0)))
(.seq (.ifs [T (.mov (.x 2)), T (.un .not (.t 0))] (.t 0) (.ops [T (.mov (.x 5)), T (.call true 115 [(.t 0)])]) .skip)
(.seq (.ops [T (.take (.x 5)), W 3 (.take (.t 0)), W 4 (.take (ki 0))])
.ret)))))) }
def octs_Put.m : List Nat := [0, 1, 2, 6, 7, 8, 19, 20, 9]
/-- euphroe/octs.Join · 0:parts/0 1:/2 -/
def octs_Join.s : SFunc := { np := 1, nv := 2, res := [.var 1], code := (.seq (.ops [W 1 (.take (kn 1))])
(.seq (.ops [T (.mov (.x 0)), T (.call false 116 [(.t 0)]), W 1 (.take (.t 0))])
.ret)) }
def octs_Join.m : List Nat := [0, 2]
/-- euphroe/euphroeref01.Big · 0:n/0 1:width/1 2:/4 3:out/5 4:i/6 -/
def euphroeref01_Big.l0 : SCode := (.seq (.ifs [T (.mov (.x 4)), T (.bin .geq (.t 0) (ki 0))] (.t 0) .skip (.exit 0))
(.seq (.block 1 (.seq (.ops [T (.mov (.x 3)), T (.mov (.x 4)), T (.mov (.x 0)), T (.bin .rem (.t 0) (kk .u64 256)), T (.cvi .u8 (.t 0)), T (.ia 1 (.t 4) (.t 3)), N (.store 1 (.t 0) (.t 1))])
(.ops [T (.mov (.x 0)), T (.bin .quo (.t 0) (kk .u64 256)), W 0 (.take (.t 0))])))
(.ops [T (.mov (.x 4)), T (.bin .sub (.t 0) (ki 1)), W 4 (.take (.t 0))])))
def euphroeref01_Big.s : SFunc := { np := 2, nv := 5, res := [.var 2], code := (.seq (.ops [W 2 (.take (kn 1))])
(.seq (.ops [T (.mov (.x 1)), T (.make 1 1 (.v (.int .u8 0)) (.t 0) (.t 0)), W 3 (.take (.t 0))])
(.seq (.seq (.ops [T (.mov (.x 1)), T (.bin .sub (.t 0) (ki 1)), W 4 (.take (.t 0))])
(.block 0 (.loop [] euphroeref01_Big.l0)))
(.seq (.ops [T (.take (.x 3)), W 2 (.take (.t 0))])
.ret)))) }
def euphroeref01_Big.m : List Nat := [0, 1, 4, 5, 6]
/-- euphroe/octs.Get · 0:b/0 1:little/1 2:/4 3:/5 4:n/6 5:/17 6:/18 7:/19 8:i/7 9:c/8 -/
def octs_Get.l0 : SCode := (.seq (.ifs [T (.bin .lss (.x 7) (.x 6))] (.t 0) .skip (.exit 0))
(.seq (.block 1 (.seq (.ops [T (.mov (.x 7)), T (.ia 1 (.x 5) (.x 7)), T (.load none (.t 0)), W 8 (.take (.t 2)), W 9 (.take (.t 1))])
(.ifs [T (.mov (.x 1))] (.t 0) (.ops [T (.mov (.x 4)), T (.mov (.x 9)), T (.cvi .u64 (.t 0)), T (.mov (.x 8)), T (.bin .mul (ki 8) (.t 0)), T (.bin .shl (.t 2) (.t 0)), T (.bin .or (.t 5) (.t 0)), W 4 (.take (.t 0))]) (.ops [T (.mov (.x 4)), T (.bin .shl (.t 0) (kk .u64 8)), T (.mov (.x 9)), T (.cvi .u64 (.t 0)), T (.bin .or (.t 2) (.t 0)), W 4 (.take (.t 0))]))))
(.ops [T (.bin .add (.x 7) (ki 1)), W 7 (.mov (.t 0))])))
def octs_Get.s : SFunc := { np := 2, nv := 10, res := [.var 2, .var 3], code := (.seq (.ops [W 2 (.take (kk .u64 0)), W 3 (.take (ki 0))])
(.seq (.ifs [T (.mov (.x 0)), T (.len (.t 0)), T (.bin .lss (.t 0) (ki 1)), T (.mov (.t 0)), GT 0 false (.mov (.x 0)), GT 1 false (.len (.t 0)), GT 2 false (.bin .gtr (.t 0) (ki 8)), T (.pick (.t 3) (kb true) (.t 0))] (.t 0) (.seq (.ops [W 2 (.take (kk .u64 0)), W 3 (.take (ki 1))])
.ret) .skip)
(.seq (.ops [W 4 (.take (kk .u64 0))])
(.seq (.seq (.ops [W 5 (.mov (.x 0)), W 6 (.len (.x 5)), W 7 (.mov (ki 0))])
(.block 0 (.loop [8, 9] octs_Get.l0)))
(.seq (.ops [T (.take (.x 4)), W 2 (.take (.t 0)), W 3 (.take (ki 0))])
.ret))))) }
def octs_Get.m : List Nat := [0, 1, 4, 5, 6, 17, 18, 19, 7, 8]
/-- bytes.Clone · 0:b/0 1:/2 -/
def bytes_Clone.s : SFunc := { np := 1, nv := 2, res := [.var 1], code := (.nilc 1 0 1 1 (.seq (.ops [W 1 (.take (kn 1))])
(.seq (.ifs [T (.mov (.x 0)), T (.eq .s false (.t 0) (kn 1))] (.t 0) (.seq (.ops [W 1 (.take (kn 1))])
.ret) .skip)
(.seq (.ops [T (.lit 1 []), T (.mov (.x 0)), T (.app 1 1 (.t 1) (.t 0)), W 1 (.take (.t 0))])
.ret)))) }
def bytes_Clone.m : List Nat := [0, 2]
/-- euphroe/euphroeref01.Num · 0:b/0 1:/2 2:n/3 3:i/4 -/
def euphroeref01_Num.l0 : SCode := (.seq (.ifs [T (.mov (.x 3)), T (.mov (.x 0)), T (.len (.t 0)), T (.bin .lss (.t 2) (.t 0))] (.t 0) .skip (.exit 0))
(.seq (.block 1 (.ops [T (.mov (.x 2)), T (.bin .mul (.t 0) (kk .u64 256)), T (.mov (.x 0)), T (.mov (.x 3)), T (.ia 1 (.t 1) (.t 0)), T (.load none (.t 0)), T (.cvi .u64 (.t 0)), T (.bin .add (.t 5) (.t 0)), W 2 (.take (.t 0))]))
(.ops [T (.mov (.x 3)), T (.bin .add (.t 0) (ki 1)), W 3 (.take (.t 0))])))
def euphroeref01_Num.s : SFunc := { np := 1, nv := 4, res := [.var 1], code := (.seq (.ops [W 1 (.take (kk .u64 0))])
(.seq (.ops [W 2 (.take (kk .u64 0))])
(.seq (.seq (.ops [W 3 (.take (ki 0))])
(.block 0 (.loop [] euphroeref01_Num.l0)))
(.seq (.ops [T (.take (.x 2)), W 1 (.take (.t 0))])
.ret)))) }
def euphroeref01_Num.m : List Nat := [0, 2, 3, 4]
/-- bytes.Equal · 0:a/0 1:b/1 2:/4 -/
def bytes_Equal.s : SFunc := { np := 2, nv := 3, res := [.var 2], code := (.seq (.ops [W 2 (.take (kb false))])
(.seq (.ops [T (.mov (.x 0)), T (.b2s (.t 0)), T (.mov (.x 1)), T (.b2s (.t 0)), T (.bin .eql (.t 2) (.t 0)), W 2 (.take (.t 0))])
.ret)) }
def bytes_Equal.m : List Nat := [0, 1, 4]
/-- euphroe/ctl.cut · 0:b/0 1:most/1 2:/4 -/
def ctl_cut.s : SFunc := { np := 2, nv := 3, res := [.var 2], code := (.seq (.ops [W 2 (.take (kn 1))])
(.seq (.ops [T (.mov (.x 1)), T (.mx (.t 0) (ki 4)), T (.bin .sub (.t 0) (ki 4)), W 1 (.take (.t 0))])
(.seq (.ops [T (.mov (.x 0)), T (.mov (.x 0)), T (.len (.t 0)), T (.mov (.x 1)), T (.mn (.t 1) (.t 0)), T (.sub 1 (.t 4) none (some (.t 0)) none), W 2 (.take (.t 0))])
.ret))) }
def ctl_cut.m : List Nat := [0, 1, 4]
/-- euphroe/euphroeref22.cut · 0:b/0 1:most/1 2:/4 -/
def euphroeref22_cut.s : SFunc := { np := 2, nv := 3, res := [.var 2], code := (.seq (.ops [W 2 (.take (kn 1))])
(.seq (.ifs [T (.mov (.x 1)), T (.bin .lss (.t 0) (ki 4))] (.t 0) (.seq (.ops [W 2 (.take (kn 1))])
.ret) .skip)
(.seq (.ops [T (.mov (.x 0)), T (.mov (.x 0)), T (.len (.t 0)), T (.mov (.x 1)), T (.bin .sub (.t 0) (ki 4)), T (.mn (.t 2) (.t 0)), T (.sub 1 (.t 5) none (some (.t 0)) none), W 2 (.take (.t 0))])
.ret))) }
def euphroeref22_cut.m : List Nat := [0, 1, 4]
/-- euphroe/opts.first · 0:b/0 1:/2 2:/3 3:/4 4:n/5 -/
def opts_first.s : SFunc := { np := 1, nv := 5, res := [.cell (some 2) 1, .var 2, .var 3], code := (.seq (.ops [W 1 (.alloc false (.agg [.v (.int .u8 0), .nils 1])), W 2 (.take (ki 0)), W 3 (.take (ki 0))])
(.seq (.ifs [T (.mov (.x 0)), T (.len (.t 0)), T (.bin .lss (.t 0) (ki 2))] (.t 0) (.seq (.ops [T (.build [.v (.int .u8 0), .nils 1] []), N (.store 2 (.x 1) (.t 0)), W 2 (.take (ki 0)), W 3 (.take (ki 4))])
.ret) .skip)
(.seq (.ops [T (.mov (.x 0)), T (.ia 1 (.t 0) (ki 1)), T (.load none (.t 0)), T (.cvi .i64 (.t 0)), W 4 (.take (.t 0))])
(.seq (.block 0 (.ifs [T (.mov (.x 4)), T (.bin .lss (.t 0) (ki 2)), T (.take (.t 0))] (.t 0) (.seq (.ops [T (.build [.v (.int .u8 0), .nils 1] []), N (.store 2 (.x 1) (.t 0)), W 2 (.take (ki 0)), W 3 (.take (ki 3))])
.ret) (.ifs [T (.mov (.x 0)), T (.len (.t 0)), T (.mov (.x 4)), T (.bin .lss (.t 1) (.t 0)), T (.take (.t 0))] (.t 0) (.seq (.ops [T (.build [.v (.int .u8 0), .nils 1] []), N (.store 2 (.x 1) (.t 0)), W 2 (.take (ki 0)), W 3 (.take (ki 4))])
.ret) .skip)))
(.seq (.ops [T (.mov (.x 0)), T (.ia 1 (.t 0) (ki 0)), T (.load none (.t 0)), T (.mov (.x 0)), T (.mov (.x 4)), T (.sub 1 (.t 1) (some (ki 2)) (some (.t 0)) none), T (.call false 89 [(.t 0)]), T (.build [.v (.int .u8 0), .nils 1] [(0, 1, (.t 4)), (1, 1, (.t 0))]), T (.take (.x 4)), N (.store 2 (.x 1) (.t 1)), W 2 (.take (.t 1)), W 3 (.take (ki 0))])
.ret))))) }
def opts_first.m : List Nat := [0, 2, 3, 4, 5]
/-- slices.EqualFunc[[]euphroe/api.Option,[]euphroe/api.Option,euphroe/api.Option,euphroe/api.Option] · 0:s1/0 1:s2/1 2:eq/2 3:/6 4:/15 5:/16 6:/17 7:v1/8 8:i/7 9:v2/9 -/
def slices_EqualFunc_api_Option.l0 : SCode := (.seq (.ifs [T (.bin .lss (.x 6) (.x 5))] (.t 0) .skip (.exit 0))
(.seq (.block 1 (.seq (.ops [T (.mov (.x 6)), T (.ia 2 (.x 4) (.x 6)), T (.load (some 2) (.t 0)), W 7 (.alloc false (.agg [.v (.int .u8 0), .nils 1])), W 8 (.take (.t 3)), N (.store 2 (.x 7) (.t 2))])
(.seq (.ops [T (.mov (.x 1)), T (.mov (.x 8)), T (.ia 2 (.t 1) (.t 0)), T (.load (some 2) (.t 0)), W 9 (.alloc false (.agg [.v (.int .u8 0), .nils 1])), N (.store 2 (.x 9) (.t 1))])
(.ifs [T (.mov (.x 2)), T (.load (some 2) (.x 7)), T (.load (some 2) (.x 9)), T (.callv (.t 2) [(.t 1), (.t 0)]), T (.un .not (.t 0))] (.t 0) (.seq (.ops [W 3 (.take (kb false))])
.ret) .skip))))
(.ops [T (.bin .add (.x 6) (ki 1)), W 6 (.mov (.t 0))])))
def slices_EqualFunc_api_Option.s : SFunc := { np := 3, nv := 10, res := [.var 3], code := (.seq (.ops [W 3 (.take (kb false))])
(.seq (.ifs [T (.mov (.x 0)), T (.len (.t 0)), T (.mov (.x 1)), T (.len (.t 0)), T (.bin .neq (.t 2) (.t 0))] (.t 0) (.seq (.ops [W 3 (.take (kb false))])
.ret) .skip)
(.seq (.seq (.ops [W 4 (.mov (.x 0)), W 5 (.len (.x 4)), W 6 (.mov (ki 0))])
(.block 0 (.loop [7, 8, 9] slices_EqualFunc_api_Option.l0)))
(.seq (.ops [W 3 (.take (kb true))])
.ret)))) }
def slices_EqualFunc_api_Option.m : List Nat := [0, 1, 2, 6, 15, 16, 17, 8, 7, 9]
/-- euphroe/opts.same · 0:a/0 1:b/1 2:a/2 3:b/3 4:/4 -/
def opts_same.s : SFunc := { np := 2, nv := 5, res := [.var 4], code := (.seq (.ops [W 2 (.box false (.x 0)), W 3 (.box false (.x 1)), W 4 (.take (kb false))])
(.seq (.ops [T (.fa 0 (.x 2)), T (.load none (.t 0)), T (.fa 0 (.x 3)), T (.load none (.t 0)), T (.bin .eql (.t 2) (.t 0)), T (.mov (.t 0)), GT 0 true (.fa 1 (.x 2)), GT 1 true (.load none (.t 0)), GT 2 true (.fa 1 (.x 3)), GT 3 true (.load none (.t 0)), GT 4 true (.call false 91 [(.t 2), (.t 0)]), T (.pick (.t 5) (.t 0) (kb false)), W 4 (.take (.t 0))])
.ret)) }
def opts_same.m : List Nat := [0, 1, 2, 3, 4]
/-- slices.IndexFunc[[]euphroe/api.Option,euphroe/api.Option] · 0:s/0 1:f/1 2:/4 3:/7 4:/8 5:i/5 -/
def slices_IndexFunc_api_Option.l0 : SCode := (.seq (.ifs [T (.bin .lss (.x 4) (.x 3))] (.t 0) .skip (.exit 0))
(.seq (.block 1 (.seq (.ops [T (.mov (.x 4)), W 5 (.take (.t 0))])
(.ifs [T (.mov (.x 1)), T (.mov (.x 0)), T (.mov (.x 5)), T (.ia 2 (.t 1) (.t 0)), T (.load (some 2) (.t 0)), T (.callv (.t 4) [(.t 0)])] (.t 0) (.seq (.ops [T (.take (.x 5)), W 2 (.take (.t 0))])
.ret) .skip)))
(.ops [T (.bin .add (.x 4) (ki 1)), W 4 (.mov (.t 0))])))
def slices_IndexFunc_api_Option.s : SFunc := { np := 2, nv := 6, res := [.var 2], code := (.seq (.ops [W 2 (.take (ki 0))])
(.seq (.seq (.ops [T (.mov (.x 0)), W 3 (.len (.t 0)), W 4 (.mov (ki 0))])
(.block 0 (.loop [5] slices_IndexFunc_api_Option.l0)))
(.seq (.ops [W 2 (.take (ki (-1)))])
.ret))) }
def slices_IndexFunc_api_Option.m : List Nat := [0, 1, 4, 7, 8, 5]
/-- euphroe/opts.Find$1 · 0:o/0 1:/1 2:o/2 3:/3 -/
def opts_Find_1.s : SFunc := { np := 2, nv := 4, res := [.var 3], code := (.seq (.ops [W 2 (.box false (.x 0)), W 3 (.take (kb false))])
(.seq (.ops [T (.fa 0 (.x 2)), T (.load none (.t 0)), T (.load none (.x 1)), T (.bin .eql (.t 1) (.t 0)), W 3 (.take (.t 0))])
.ret)) }
def opts_Find_1.m : List Nat := [0, 1, 2, 3]
/-- euphroe/euphroeref21.one · 0:a/0 1:b/1 2:a/2 3:b/3 4:/4 -/
def euphroeref21_one.s : SFunc := { np := 2, nv := 5, res := [.var 4], code := (.seq (.ops [W 2 (.box false (.x 0)), W 3 (.box false (.x 1)), W 4 (.take (kb false))])
(.seq (.ops [T (.fa 0 (.x 2)), T (.load none (.t 0)), T (.fa 0 (.x 3)), T (.load none (.t 0)), T (.bin .eql (.t 2) (.t 0)), T (.mov (.t 0)), GT 0 true (.fa 1 (.x 2)), GT 1 true (.load none (.t 0)), GT 2 true (.fa 1 (.x 3)), GT 3 true (.load none (.t 0)), GT 4 true (.call false 40 [(.t 2), (.t 0)]), T (.pick (.t 5) (.t 0) (kb false)), W 4 (.take (.t 0))])
.ret)) }
def euphroeref21_one.m : List Nat := [0, 1, 2, 3, 4]
/-- slices.DeleteFunc[[]euphroe/api.Option,euphroe/api.Option] · 0:s/0 1:del/1 2:/4 3:i/5 4:j/6 5:v/7 -/
def slices_DeleteFunc_api_Option.l0 : SCode := (.seq (.ifs [T (.mov (.x 4)), T (.mov (.x 0)), T (.len (.t 0)), T (.bin .lss (.t 2) (.t 0))] (.t 0) .skip (.exit 0))
(.seq (.block 1 (.seq (.ops [T (.mov (.x 0)), T (.mov (.x 4)), T (.ia 2 (.t 1) (.t 0)), T (.load (some 2) (.t 0)), W 5 (.alloc false (.agg [.v (.int .u8 0), .nils 1])), N (.store 2 (.x 5) (.t 1))])
(.ifs [T (.mov (.x 1)), T (.load (some 2) (.x 5)), T (.callv (.t 1) [(.t 0)]), T (.un .not (.t 0))] (.t 0) (.seq (.ops [T (.mov (.x 0)), T (.mov (.x 3)), T (.load (some 2) (.x 5)), T (.ia 2 (.t 2) (.t 1)), N (.store 2 (.t 0) (.t 1))])
(.ops [T (.mov (.x 3)), T (.bin .add (.t 0) (ki 1)), W 3 (.take (.t 0))])) .skip)))
(.ops [T (.mov (.x 4)), T (.bin .add (.t 0) (ki 1)), W 4 (.take (.t 0))])))
def slices_DeleteFunc_api_Option.s : SFunc := { np := 2, nv := 6, res := [.var 2], code := (.seq (.ops [W 2 (.take (kn 2))])
(.seq (.ops [T (.mov (.x 0)), T (.mov (.x 1)), T (.call true 97 [(.t 1), (.t 0)]), W 3 (.take (.t 0))])
(.seq (.ifs [T (.mov (.x 3)), T (.bin .eql (.t 0) (ki (-1)))] (.t 0) (.seq (.ops [T (.take (.x 0)), W 2 (.take (.t 0))])
.ret) .skip)
(.seq (.seq (.ops [T (.mov (.x 3)), T (.bin .add (.t 0) (ki 1)), W 4 (.take (.t 0))])
(.block 0 (.loop [5] slices_DeleteFunc_api_Option.l0)))
(.seq (.ops [T (.mov (.x 0)), T (.mov (.x 3)), T (.sub 2 (.t 1) (some (.t 0)) none none), N (.clr 2 (.agg [.v (.int .u8 0), .nils 1]) (.t 0))])
(.seq (.ops [T (.mov (.x 0)), T (.mov (.x 3)), T (.sub 2 (.t 1) none (some (.t 0)) none), W 2 (.take (.t 0))])
.ret)))))) }
def slices_DeleteFunc_api_Option.m : List Nat := [0, 1, 4, 5, 6, 7]
/-- slices.Clone[[]euphroe/api.Option,euphroe/api.Option] · 0:s/0 1:/2 -/
def slices_Clone_api_Option.s : SFunc := { np := 1, nv := 2, res := [.var 1], code := (.nilc 1 0 2 32 (.seq (.ops [W 1 (.take (kn 2))])
(.seq (.ifs [T (.mov (.x 0)), T (.eq .s false (.t 0) (kn 2))] (.t 0) (.seq (.ops [W 1 (.take (kn 2))])
.ret) .skip)
(.seq (.clone 1 0 2 32)
.ret)))) }
def slices_Clone_api_Option.m : List Nat := [0, 2]
/-- euphroe/opts.Without$1 · 0:o/0 1:/1 2:o/2 3:/3 -/
def opts_Without_1.s : SFunc := { np := 2, nv := 4, res := [.var 3], code := (.seq (.ops [W 2 (.box false (.x 0)), W 3 (.take (kb false))])
(.seq (.ops [T (.fa 0 (.x 2)), T (.load none (.t 0)), T (.load none (.x 1)), T (.bin .eql (.t 1) (.t 0)), W 3 (.take (.t 0))])
.ret)) }
def opts_Without_1.m : List Nat := [0, 1, 2, 3]
/-- euphroe/lcpo.Chap · 0:/0 -/
def lcpo_Chap.s : SFunc := { np := 0, nv := 1, res := [.var 0], code := (.seq (.ops [W 0 (.take (kn 1))])
(.seq (.ops [T (.lit 1 [(kk .u8 194), (kk .u8 35), (kk .u8 129)]), W 0 (.take (.t 0))])
.ret)) }
def lcpo_Chap.m : List Nat := [0]
/-- euphroe/lcpo.better · 0:o/0 1:own/1 2:fresh/2 3:o/3 4:/6 5:/7 6:/9 -/
def lcpo_better.s : SFunc := { np := 3, nv := 7, res := [.cell (some 2) 4, .var 5], code := (.seq (.ops [W 3 (.box false (.x 0)), W 4 (.alloc false (.agg [.v (.int .u8 0), .nils 1])), W 5 (.take (kb false))])
(.seq (.seq (.ops [T (.fa 0 (.x 3)), W 6 (.load none (.t 0))])
(.block 0 (.ifs [T (.bin .eql (.x 6) (kk .u8 1)), T (.take (.t 0))] (.t 0) (.seq (.ops [T (.call false 108 [(kk .u8 1), (kk .u64 1400), (ki 2)]), T (.load (some 2) (.x 3)), T (.call false 110 [(.t 0)]), T (.bin .lss (.t 0) (kk .u64 128)), N (.store 2 (.x 4) (.t 3)), W 5 (.take (.t 1))])
.ret) (.ifs [T (.bin .eql (.x 6) (kk .u8 3)), T (.take (.t 0))] (.t 0) (.seq (.ops [T (.call false 103 []), T (.build [.v (.int .u8 0), .nils 1] [(0, 1, (kk .u8 3)), (1, 1, (.t 0))]), T (.fa 1 (.x 3)), T (.load none (.t 0)), T (.call false 103 []), T (.call false 91 [(.t 1), (.t 0)]), T (.un .not (.t 0)), N (.store 2 (.x 4) (.t 5)), W 5 (.take (.t 1))])
.ret) (.ifs [T (.bin .eql (.x 6) (kk .u8 5)), T (.take (.t 0))] (.t 0) (.seq (.ops [T (.mov (.x 2)), T (.cvi .u64 (.t 0)), T (.call false 108 [(kk .u8 5), (.t 0), (ki 4)]), T (.load (some 2) (.x 3)), T (.call false 110 [(.t 0)]), T (.bin .eql (.t 0) (kk .u64 0)), T (.mov (.t 0)), GT 0 false (.load (some 2) (.x 3)), GT 1 false (.call false 110 [(.t 0)]), GT 2 false (.mov (.x 1)), GT 3 false (.cvi .u64 (.t 0)), GT 4 false (.bin .eql (.t 2) (.t 0)), T (.pick (.t 5) (kb true) (.t 0)), N (.store 2 (.x 4) (.t 10)), W 5 (.take (.t 1))])
.ret) .skip)))))
(.seq (.ops [T (.build [.v (.int .u8 0), .nils 1] []), N (.store 2 (.x 4) (.t 0)), W 5 (.take (kb false))])
.ret))) }
def lcpo_better.m : List Nat := [0, 1, 2, 3, 6, 7, 9]
/-- euphroe/lcpo.right · 0:o/0 1:o/1 2:/2 -/
def lcpo_right.s : SFunc := { np := 1, nv := 3, res := [.var 2], code := (.seq (.ops [W 1 (.box false (.x 0)), W 2 (.take (kb false))])
(.seq (.ops [T (.fa 1 (.x 1)), T (.load none (.t 0)), T (.len (.t 0)), T (.fa 0 (.x 1)), T (.load none (.t 0)), T (.call false 117 [(.t 0)]), T (.bin .eql (.t 3) (.t 0)), W 2 (.take (.t 0))])
.ret)) }
def lcpo_right.m : List Nat := [0, 1, 2]
/-- euphroe/euphroeref25.right · 0:o/0 1:o/1 2:/2 -/
def euphroeref25_right.s : SFunc := { np := 1, nv := 3, res := [.var 2], code := (.seq (.ops [W 1 (.box false (.x 0)), W 2 (.take (kb false))])
(.seq (.ops [T (.fa 0 (.x 1)), T (.load none (.t 0)), T (.call false 118 [(.t 0)]), T (.fa 1 (.x 1)), T (.load none (.t 0)), T (.len (.t 0)), T (.bin .eql (.t 3) (.t 0)), W 2 (.take (.t 0))])
.ret)) }
def euphroeref25_right.m : List Nat := [0, 1, 2]
/-- euphroe/euphroeref25.better · 0:o/0 1:own/1 2:fresh/2 3:o/3 4:/6 5:/7 6:n/8 -/
def euphroeref25_better.s : SFunc := { np := 3, nv := 7, res := [.cell (some 2) 4, .var 5], code := (.seq (.ops [W 3 (.box false (.x 0)), W 4 (.alloc false (.agg [.v (.int .u8 0), .nils 1])), W 5 (.take (kb false))])
(.seq (.ops [T (.fa 1 (.x 3)), T (.load none (.t 0)), T (.call false 90 [(.t 0)]), T (.cvi .u32 (.t 0)), W 6 (.take (.t 0))])
(.seq (.block 0 (.ifs [T (.fa 0 (.x 3)), T (.load none (.t 0)), T (.bin .eql (.t 0) (kk .u8 1)), T (.mov (.t 0)), GT 0 true (.mov (.x 6)), GT 1 true (.bin .lss (.t 0) (kk .u32 128)), T (.pick (.t 2) (.t 0) (kb false)), T (.take (.t 0))] (.t 0) (.seq (.ops [T (.call false 87 [(kk .u64 1400), (ki 2)]), T (.build [.v (.int .u8 0), .nils 1] [(0, 1, (kk .u8 1)), (1, 1, (.t 0))]), N (.store 2 (.x 4) (.t 0)), W 5 (.take (kb true))])
.ret) (.ifs [T (.fa 0 (.x 3)), T (.load none (.t 0)), T (.bin .eql (.t 0) (kk .u8 3)), T (.mov (.t 0)), GT 0 true (.fa 1 (.x 3)), GT 1 true (.load none (.t 0)), GT 2 true (.call false 119 []), GT 3 true (.call false 40 [(.t 1), (.t 0)]), GT 4 true (.un .not (.t 0)), T (.pick (.t 5) (.t 0) (kb false)), T (.take (.t 0))] (.t 0) (.seq (.ops [T (.call false 119 []), T (.build [.v (.int .u8 0), .nils 1] [(0, 1, (kk .u8 3)), (1, 1, (.t 0))]), N (.store 2 (.x 4) (.t 0)), W 5 (.take (kb true))])
.ret) (.ifs [T (.fa 0 (.x 3)), T (.load none (.t 0)), T (.bin .eql (.t 0) (kk .u8 5)), T (.mov (.t 0)), GT 0 true (.mov (.x 6)), GT 1 true (.bin .eql (.t 0) (kk .u32 0)), GT 2 true (.mov (.t 0)), GT 0 false (.mov (.x 6)), GT 1 false (.mov (.x 1)), GT 2 false (.bin .eql (.t 1) (.t 0)), GT 6 true (.pick (.t 3) (kb true) (.t 0)), T (.pick (.t 7) (.t 0) (kb false)), T (.take (.t 0))] (.t 0) (.seq (.ops [T (.mov (.x 2)), T (.cvi .u64 (.t 0)), T (.call false 87 [(.t 0), (ki 4)]), T (.build [.v (.int .u8 0), .nils 1] [(0, 1, (kk .u8 5)), (1, 1, (.t 0))]), N (.store 2 (.x 4) (.t 0)), W 5 (.take (kb true))])
.ret) .skip))))
(.seq (.ops [T (.build [.v (.int .u8 0), .nils 1] []), N (.store 2 (.x 4) (.t 0)), W 5 (.take (kb false))])
.ret)))) }
def euphroeref25_better.m : List Nat := [0, 1, 2, 3, 6, 7, 8]
/-- euphroe/lcpo.option · 0:kind/0 1:n/1 2:width/2 3:/6 4:b/7 -/
def lcpo_option.s : SFunc := { np := 3, nv := 5, res := [.cell (some 2) 3], code := (.seq (.ops [W 3 (.alloc false (.agg [.v (.int .u8 0), .nils 1]))])
(.seq (.ops [T (.mov (.x 1)), T (.mov (.x 2)), T (.call false 85 [(.t 1), (.t 0), (kb false)]), T (.take (.t 0)), T (.ext 0 (.t 0)), T (.ext 1 (.t 1)), W 4 (.take (.t 1)), T (.take (.t 1))])
(.seq (.ops [T (.mov (.x 0)), T (.mov (.x 4)), T (.build [.v (.int .u8 0), .nils 1] [(0, 1, (.t 1)), (1, 1, (.t 0))]), N (.store 2 (.x 3) (.t 0))])
.ret))) }
def lcpo_option.m : List Nat := [0, 1, 2, 6, 7]
/-- euphroe/lcpo.first · 0:l/0 1:kind/1 2:/4 3:/5 4:/8 5:/9 6:/10 7:o/7 -/
def lcpo_first.l0 : SCode := (.seq (.ifs [T (.bin .lss (.x 6) (.x 5))] (.t 0) .skip (.exit 0))
(.seq (.block 1 (.seq (.ops [T (.ia 2 (.x 4) (.x 6)), T (.load (some 2) (.t 0)), W 7 (.alloc false (.agg [.v (.int .u8 0), .nils 1])), N (.store 2 (.x 7) (.t 1))])
(.ifs [T (.fa 0 (.x 7)), T (.load none (.t 0)), T (.mov (.x 1)), T (.bin .eql (.t 1) (.t 0)), T (.mov (.t 0)), GT 0 true (.load (some 2) (.x 7)), GT 1 true (.call false 105 [(.t 0)]), T (.pick (.t 2) (.t 0) (kb false))] (.t 0) (.seq (.ops [T (.load (some 2) (.x 7)), N (.store 2 (.x 2) (.t 0)), W 3 (.take (kb true))])
.ret) .skip)))
(.ops [T (.bin .add (.x 6) (ki 1)), W 6 (.mov (.t 0))])))
def lcpo_first.s : SFunc := { np := 2, nv := 8, res := [.cell (some 2) 2, .var 3], code := (.seq (.ops [W 2 (.alloc false (.agg [.v (.int .u8 0), .nils 1])), W 3 (.take (kb false))])
(.seq (.seq (.ops [W 4 (.mov (.x 0)), W 5 (.len (.x 4)), W 6 (.mov (ki 0))])
(.block 0 (.loop [7] lcpo_first.l0)))
(.seq (.ops [T (.build [.v (.int .u8 0), .nils 1] []), N (.store 2 (.x 2) (.t 0)), W 3 (.take (kb false))])
.ret))) }
def lcpo_first.m : List Nat := [0, 1, 4, 5, 8, 9, 10, 7]
/-- euphroe/lcpo.number · 0:o/0 1:o/1 2:/2 3:n/3 -/
def lcpo_number.s : SFunc := { np := 1, nv := 4, res := [.var 2], code := (.seq (.ops [W 1 (.box false (.x 0)), W 2 (.take (kk .u64 0))])
(.seq (.ops [T (.fa 1 (.x 1)), T (.load none (.t 0)), T (.call false 88 [(.t 0), (kb false)]), T (.take (.t 0)), T (.ext 0 (.t 0)), T (.ext 1 (.t 1)), W 3 (.take (.t 1)), T (.take (.t 1))])
(.seq (.ops [T (.take (.x 3)), W 2 (.take (.t 0))])
.ret))) }
def lcpo_number.m : List Nat := [0, 1, 2, 3]
/-- euphroe/ctl.isConf · 0:code/0 1:/2 -/
def ctl_isConf.s : SFunc := { np := 1, nv := 2, res := [.var 1], code := (.seq (.ops [W 1 (.take (kb false))])
(.seq (.ops [T (.mov (.x 0)), T (.bin .geq (.t 0) (kk .u8 1)), T (.mov (.t 0)), GT 0 true (.mov (.x 0)), GT 1 true (.bin .leq (.t 0) (kk .u8 4)), T (.pick (.t 2) (.t 0) (kb false)), W 1 (.take (.t 0))])
.ret)) }
def ctl_isConf.m : List Nat := [0, 2]
/-- euphroe/euphroeref22.conf · 0:code/0 1:/2 -/
def euphroeref22_conf.s : SFunc := { np := 1, nv := 2, res := [.var 1], code := (.seq (.ops [W 1 (.take (kb false))])
(.seq (.ops [T (.mov (.x 0)), T (.bin .geq (.t 0) (kk .u8 1)), T (.mov (.t 0)), GT 0 true (.mov (.x 0)), GT 1 true (.bin .leq (.t 0) (kk .u8 4)), T (.pick (.t 2) (.t 0) (kb false)), W 1 (.take (.t 0))])
.ret)) }
def euphroeref22_conf.m : List Nat := [0, 2]
/-- slices.Reverse[[]byte,byte] · 0:s/0 1:i/2 2:j/3 -/
def slices_Reverse_byte.l0 : SCode := (.seq (.ifs [T (.mov (.x 1)), T (.mov (.x 2)), T (.bin .lss (.t 1) (.t 0))] (.t 0) .skip (.exit 0))
(.seq (.block 1 (.ops [T (.mov (.x 0)), T (.mov (.x 1)), T (.mov (.x 0)), T (.mov (.x 2)), T (.mov (.x 0)), T (.mov (.x 2)), T (.ia 1 (.t 1) (.t 0)), T (.load none (.t 0)), T (.mov (.x 0)), T (.mov (.x 1)), T (.ia 1 (.t 1) (.t 0)), T (.load none (.t 0)), T (.ia 1 (.t 11) (.t 10)), N (.store 1 (.t 0) (.t 5)), T (.ia 1 (.t 11) (.t 10)), N (.store 1 (.t 0) (.t 3))]))
(.ops [T (.mov (.x 1)), T (.bin .add (.t 0) (ki 1)), T (.mov (.x 2)), T (.bin .sub (.t 0) (ki 1)), W 1 (.take (.t 2)), W 2 (.take (.t 1))])))
def slices_Reverse_byte.s : SFunc := { np := 1, nv := 3, res := [], code := (.seq (.ops [T (.mov (.x 0)), T (.len (.t 0)), T (.bin .sub (.t 0) (ki 1)), W 1 (.take (ki 0)), W 2 (.take (.t 1))])
(.block 0 (.loop [] slices_Reverse_byte.l0))) }
def slices_Reverse_byte.m : List Nat := [0, 2, 3]
/-- slices.Concat[[]byte,byte] · 0:slices/0 1:/2 2:size/3 3:/9 4:/10 5:/11 6:s/5 7:newslice/6 8:/25 9:/26 10:/27 11:s/8 -/
def slices_Concat_byte.l1 : SCode := (.seq (.ifs [T (.bin .lss (.x 10) (.x 9))] (.t 0) .skip (.exit 2))
(.seq (.block 3 (.seq (.ops [T (.ia 1 (.x 8) (.x 10)), T (.load none (.t 0)), W 11 (.take (.t 0))])
(.ops [T (.take (.x 7)), T (.mov (.x 11)), T (.app 1 1 (.t 1) (.t 0)), W 7 (.take (.t 0))])))
(.ops [T (.bin .add (.x 10) (ki 1)), W 10 (.mov (.t 0))])))
def slices_Concat_byte.l0 : SCode := (.seq (.ifs [T (.bin .lss (.x 5) (.x 4))] (.t 0) .skip (.exit 0))
(.seq (.block 1 (.seq (.ops [T (.ia 1 (.x 3) (.x 5)), T (.load none (.t 0)), W 6 (.take (.t 0))])
(.seq (.ops [T (.mov (.x 2)), T (.mov (.x 6)), T (.len (.t 0)), T (.bin .add (.t 2) (.t 0)), W 2 (.take (.t 0))])
(.ifs [T (.mov (.x 2)), T (.bin .lss (.t 0) (ki 0))] (.t 0) (.ops [T (.mki 9 (.c (.v (.str [108, 101, 110, 32, 111, 117, 116, 32, 111, 102, 32, 114, 97, 110, 103, 101])))), N (.die)]) .skip))))
(.ops [T (.bin .add (.x 5) (ki 1)), W 5 (.mov (.t 0))])))
def slices_Concat_byte.s : SFunc := { np := 1, nv := 12, res := [.var 1], code := (.seq (.ops [W 1 (.take (kn 1))])
(.seq (.ops [W 2 (.take (ki 0))])
(.seq (.seq (.ops [W 3 (.mov (.x 0)), W 4 (.len (.x 3)), W 5 (.mov (ki 0))])
(.block 0 (.loop [6] slices_Concat_byte.l0)))
(.seq (.ops [T (.mov (.x 2)), T (.call true 120 [(kn 1), (.t 0)]), W 7 (.take (.t 0))])
(.seq (.seq (.ops [W 8 (.mov (.x 0)), W 9 (.len (.x 8)), W 10 (.mov (ki 0))])
(.block 2 (.loop [11] slices_Concat_byte.l1)))
(.seq (.ops [T (.take (.x 7)), W 1 (.take (.t 0))])
.ret)))))) }
def slices_Concat_byte.m : List Nat := [0, 2, 3, 9, 10, 11, 5, 6, 25, 26, 27, 8]
/-- euphroe/lcpo.long · 0:kind/0 1:/2 2:/3 -/
def lcpo_long.s : SFunc := { np := 1, nv := 3, res := [.var 1], code := (.seq (.ops [W 1 (.take (ki 0))])
(.seq (.seq (.ops [W 2 (.mov (.x 0))])
(.block 0 (.seq (.block 5 (.block 4 (.seq (.block 3 (.seq (.block 2 (.seq (.block 1 (.seq (.seq (.ifs [T (.bin .eql (.x 2) (kk .u8 1)), T (.take (.t 0))] (.t 0) (.exit 1) .skip)
(.seq (.ifs [T (.bin .eql (.x 2) (kk .u8 3)), T (.take (.t 0))] (.t 0) (.exit 2) .skip)
(.seq (.ifs [T (.bin .eql (.x 2) (kk .u8 5)), T (.take (.t 0))] (.t 0) (.exit 3) .skip)
(.seq (.ifs [T (.bin .eql (.x 2) (kk .u8 7)), T (.take (.t 0))] (.t 0) (.exit 4) .skip)
(.ifs [T (.bin .eql (.x 2) (kk .u8 8)), T (.take (.t 0))] (.t 0) (.exit 5) .skip)))))
(.exit 0)))
(.seq (.seq (.ops [W 1 (.take (ki 2))])
.ret)
(.exit 0))))
(.seq (.seq (.ops [T (.call false 103 []), T (.len (.t 0)), W 1 (.take (.t 0))])
.ret)
(.exit 0))))
(.seq (.seq (.ops [W 1 (.take (ki 4))])
.ret)
(.exit 0)))))
(.seq (.seq (.ops [W 1 (.take (ki 0))])
.ret)
(.exit 0)))))
(.seq (.ops [W 1 (.take (ki (-1)))])
.ret))) }
def lcpo_long.m : List Nat := [0, 2, 3]
/-- euphroe/euphroeref25.long · 0:kind/0 1:/2 2:/3 3:/10 -/
def euphroeref25_long.s : SFunc := { np := 1, nv := 4, res := [.var 1], code := (.seq (.ops [W 1 (.take (ki 0))])
(.seq (.seq (.ops [W 2 (.mov (.x 0))])
(.block 0 (.ifs [T (.bin .eql (.x 2) (kk .u8 1)), T (.take (.t 0))] (.t 0) (.seq (.ops [W 1 (.take (ki 2))])
.ret) (.ifs [T (.bin .eql (.x 2) (kk .u8 3)), T (.take (.t 0))] (.t 0) (.seq (.ops [W 1 (.take (ki 3))])
.ret) (.ifs [T (.bin .eql (.x 2) (kk .u8 5)), T (.take (.t 0))] (.t 0) (.seq (.ops [W 1 (.take (ki 4))])
.ret) (.seq (.seq (.ops [T (.bin .eql (.x 2) (kk .u8 7)), W 3 (.take (.t 0))])
(.ifs [] (.x 3) .skip (.ops [T (.bin .eql (.x 2) (kk .u8 8)), W 3 (.take (.t 0))])))
(.ifs [] (.x 3) (.seq (.ops [W 1 (.take (ki 0))])
.ret) .skip)))))))
(.seq (.ops [W 1 (.take (ki (-1)))])
.ret))) }
def euphroeref25_long.m : List Nat := [0, 2, 3, 10]
/-- euphroe/euphroeref25.chap · 0:/0 -/
def euphroeref25_chap.s : SFunc := { np := 0, nv := 1, res := [.var 0], code := (.seq (.ops [W 0 (.take (kn 1))])
(.seq (.ops [T (.lit 1 [(kk .u8 194), (kk .u8 35), (kk .u8 129)]), W 0 (.take (.t 0))])
.ret)) }
def euphroeref25_chap.m : List Nat := [0]
/-- slices.Grow[[]byte,byte] · 0:s/0 1:n/1 2:/4 -/
def slices_Grow_byte.s : SFunc := { np := 2, nv := 3, res := [.var 2], code := (.seq (.ops [W 2 (.take (kn 1))])
(.seq (.ifs [T (.mov (.x 1)), T (.bin .lss (.t 0) (ki 0))] (.t 0) (.ops [T (.mki 9 (.c (.v (.str [99, 97, 110, 110, 111, 116, 32, 98, 101, 32, 110, 101, 103, 97, 116, 105, 118, 101])))), N (.die)]) .skip)
(.seq (.seq (.ops [T (.mov (.x 1)), T (.mov (.x 0)), T (.capn (.t 0)), T (.mov (.x 0)), T (.len (.t 0)), T (.bin .sub (.t 2) (.t 0)), T (.bin .sub (.t 5) (.t 0)), W 1 (.take (.t 0))])
(.ifs [T (.mov (.x 1)), T (.bin .gtr (.t 0) (ki 0))] (.t 0) (.grow 0 1 1 1) .skip))
(.seq (.ops [T (.take (.x 0)), W 2 (.take (.t 0))])
.ret)))) }
def slices_Grow_byte.m : List Nat := [0, 1, 4]
def fns : List (Nat × SFunc × List Nat) := [(7, euphroelaw22_CtlLays.s, euphroelaw22_CtlLays.m), (8, euphroelaw22_CtlRejects.s, euphroelaw22_CtlRejects.m), (9, euphroelaw21_OptsLays.s, euphroelaw21_OptsLays.m), (10, euphroelaw21_OptsAsks.s, euphroelaw21_OptsAsks.m), (11, euphroelaw25_LcpoJudges.s, euphroelaw25_LcpoJudges.m), (12, euphroelaw25_LcpoFine.s, euphroelaw25_LcpoFine.m), (13, euphroelaw25_LcpoAnswers.s, euphroelaw25_LcpoAnswers.m), (14, euphroelaw22_CtlOptions.s, euphroelaw22_CtlOptions.m), (34, euphroelaw22_alive.s, euphroelaw22_alive.m), (35, ctl_Lay.s, ctl_Lay.m), (36, euphroelaw22_theirs.s, euphroelaw22_theirs.m), (37, euphroeref22_Lay.s, euphroeref22_Lay.m), (38, ctl_Parse.s, ctl_Parse.m), (39, euphroeref22_Parse.s, euphroeref22_Parse.m), (40, euphroeref01_Same.s, euphroeref01_Same.m), (41, ctl_Same.s, ctl_Same.m), (42, euphroeref22_Same.s, euphroeref22_Same.m), (43, ctl_Magic.s, ctl_Magic.m), (44, euphroeref22_Magic.s, euphroeref22_Magic.m), (45, ctl_Reject.s, ctl_Reject.m), (46, euphroeref22_Reject.s, euphroeref22_Reject.m), (47, ctl_Proto.s, ctl_Proto.m), (48, euphroeref22_Proto.s, euphroeref22_Proto.m), (49, ctl_Echo.s, ctl_Echo.m), (50, euphroeref22_Echo.s, euphroeref22_Echo.m), (51, euphroelaw21_far.s, euphroelaw21_far.m), (52, euphroelaw21_alive.s, euphroelaw21_alive.m), (53, opts_Lay.s, opts_Lay.m), (54, euphroelaw21_theirs.s, euphroelaw21_theirs.m), (55, euphroeref21_Lay.s, euphroeref21_Lay.m), (56, opts_Parse.s, opts_Parse.m), (57, euphroeref21_Parse.s, euphroeref21_Parse.m), (58, opts_Same.s, opts_Same.m), (59, opts_Find.s, opts_Find.m), (60, euphroeref21_Find.s, euphroeref21_Find.m), (61, opts_Kinds.s, opts_Kinds.m), (62, euphroeref21_Same.s, euphroeref21_Same.m), (63, opts_Without.s, opts_Without.m), (64, euphroeref21_Without.s, euphroeref21_Without.m), (65, opts_Among.s, opts_Among.m), (66, euphroeref21_Among.s, euphroeref21_Among.m), (67, euphroelaw25_far.s, euphroelaw25_far.m), (68, euphroelaw25_alive.s, euphroelaw25_alive.m), (69, lcpo_Judge.s, lcpo_Judge.m), (70, euphroelaw25_theirs.s, euphroelaw25_theirs.m), (71, euphroeref25_Judge.s, euphroeref25_Judge.m), (72, lcpo_Options.s, lcpo_Options.m), (73, lcpo_Of.s, lcpo_Of.m), (74, ctl_Conf.s, ctl_Conf.m), (75, euphroelaw22_options.s, euphroelaw22_options.m), (76, euphroeref22_Conf.s, euphroeref22_Conf.m), (77, ctl_Options.s, ctl_Options.m), (78, euphroeref22_Options.s, euphroeref22_Options.m), (85, octs_Put.s, octs_Put.m), (86, octs_Join.s, octs_Join.m), (87, euphroeref01_Big.s, euphroeref01_Big.m), (88, octs_Get.s, octs_Get.m), (89, bytes_Clone.s, bytes_Clone.m), (90, euphroeref01_Num.s, euphroeref01_Num.m), (91, bytes_Equal.s, bytes_Equal.m), (92, ctl_cut.s, ctl_cut.m), (93, euphroeref22_cut.s, euphroeref22_cut.m), (94, opts_first.s, opts_first.m), (95, slices_EqualFunc_api_Option.s, slices_EqualFunc_api_Option.m), (96, opts_same.s, opts_same.m), (97, slices_IndexFunc_api_Option.s, slices_IndexFunc_api_Option.m), (98, opts_Find_1.s, opts_Find_1.m), (99, euphroeref21_one.s, euphroeref21_one.m), (100, slices_DeleteFunc_api_Option.s, slices_DeleteFunc_api_Option.m), (101, slices_Clone_api_Option.s, slices_Clone_api_Option.m), (102, opts_Without_1.s, opts_Without_1.m), (103, lcpo_Chap.s, lcpo_Chap.m), (104, lcpo_better.s, lcpo_better.m), (105, lcpo_right.s, lcpo_right.m), (106, euphroeref25_right.s, euphroeref25_right.m), (107, euphroeref25_better.s, euphroeref25_better.m), (108, lcpo_option.s, lcpo_option.m), (109, lcpo_first.s, lcpo_first.m), (110, lcpo_number.s, lcpo_number.m), (111, ctl_isConf.s, ctl_isConf.m), (112, euphroeref22_conf.s, euphroeref22_conf.m), (115, slices_Reverse_byte.s, slices_Reverse_byte.m), (116, slices_Concat_byte.s, slices_Concat_byte.m), (117, lcpo_long.s, lcpo_long.m), (118, euphroeref25_long.s, euphroeref25_long.m), (119, euphroeref25_chap.s, euphroeref25_chap.m), (120, slices_Grow_byte.s, slices_Grow_byte.m)]
abbrev euphroelaw22_CtlLays.n : Nat := 7
abbrev euphroelaw22_CtlRejects.n : Nat := 8
abbrev euphroelaw21_OptsLays.n : Nat := 9
abbrev euphroelaw21_OptsAsks.n : Nat := 10
abbrev euphroelaw25_LcpoJudges.n : Nat := 11
abbrev euphroelaw25_LcpoFine.n : Nat := 12
abbrev euphroelaw25_LcpoAnswers.n : Nat := 13
abbrev euphroelaw22_CtlOptions.n : Nat := 14
abbrev euphroelaw22_alive.n : Nat := 34
abbrev ctl_Lay.n : Nat := 35
abbrev euphroelaw22_theirs.n : Nat := 36
abbrev euphroeref22_Lay.n : Nat := 37
abbrev ctl_Parse.n : Nat := 38
abbrev euphroeref22_Parse.n : Nat := 39
abbrev euphroeref01_Same.n : Nat := 40
abbrev ctl_Same.n : Nat := 41
abbrev euphroeref22_Same.n : Nat := 42
abbrev ctl_Magic.n : Nat := 43
abbrev euphroeref22_Magic.n : Nat := 44
abbrev ctl_Reject.n : Nat := 45
abbrev euphroeref22_Reject.n : Nat := 46
abbrev ctl_Proto.n : Nat := 47
abbrev euphroeref22_Proto.n : Nat := 48
abbrev ctl_Echo.n : Nat := 49
abbrev euphroeref22_Echo.n : Nat := 50
abbrev euphroelaw21_far.n : Nat := 51
abbrev euphroelaw21_alive.n : Nat := 52
abbrev opts_Lay.n : Nat := 53
abbrev euphroelaw21_theirs.n : Nat := 54
abbrev euphroeref21_Lay.n : Nat := 55
abbrev opts_Parse.n : Nat := 56
abbrev euphroeref21_Parse.n : Nat := 57
abbrev opts_Same.n : Nat := 58
abbrev opts_Find.n : Nat := 59
abbrev euphroeref21_Find.n : Nat := 60
abbrev opts_Kinds.n : Nat := 61
abbrev euphroeref21_Same.n : Nat := 62
abbrev opts_Without.n : Nat := 63
abbrev euphroeref21_Without.n : Nat := 64
abbrev opts_Among.n : Nat := 65
abbrev euphroeref21_Among.n : Nat := 66
abbrev euphroelaw25_far.n : Nat := 67
abbrev euphroelaw25_alive.n : Nat := 68
abbrev lcpo_Judge.n : Nat := 69
abbrev euphroelaw25_theirs.n : Nat := 70
abbrev euphroeref25_Judge.n : Nat := 71
abbrev lcpo_Options.n : Nat := 72
abbrev lcpo_Of.n : Nat := 73
abbrev ctl_Conf.n : Nat := 74
abbrev euphroelaw22_options.n : Nat := 75
abbrev euphroeref22_Conf.n : Nat := 76
abbrev ctl_Options.n : Nat := 77
abbrev euphroeref22_Options.n : Nat := 78
abbrev octs_Put.n : Nat := 85
abbrev octs_Join.n : Nat := 86
abbrev euphroeref01_Big.n : Nat := 87
abbrev octs_Get.n : Nat := 88
abbrev bytes_Clone.n : Nat := 89
abbrev euphroeref01_Num.n : Nat := 90
abbrev bytes_Equal.n : Nat := 91
abbrev ctl_cut.n : Nat := 92
abbrev euphroeref22_cut.n : Nat := 93
abbrev opts_first.n : Nat := 94
abbrev slices_EqualFunc_api_Option.n : Nat := 95
abbrev opts_same.n : Nat := 96
abbrev slices_IndexFunc_api_Option.n : Nat := 97
abbrev opts_Find_1.n : Nat := 98
abbrev euphroeref21_one.n : Nat := 99
abbrev slices_DeleteFunc_api_Option.n : Nat := 100
abbrev slices_Clone_api_Option.n : Nat := 101
abbrev opts_Without_1.n : Nat := 102
abbrev lcpo_Chap.n : Nat := 103
abbrev lcpo_better.n : Nat := 104
abbrev lcpo_right.n : Nat := 105
abbrev euphroeref25_right.n : Nat := 106
abbrev euphroeref25_better.n : Nat := 107
abbrev lcpo_option.n : Nat := 108
abbrev lcpo_first.n : Nat := 109
abbrev lcpo_number.n : Nat := 110
abbrev ctl_isConf.n : Nat := 111
abbrev euphroeref22_conf.n : Nat := 112
abbrev slices_Reverse_byte.n : Nat := 115
abbrev slices_Concat_byte.n : Nat := 116
abbrev lcpo_long.n : Nat := 117
abbrev euphroeref25_long.n : Nat := 118
abbrev euphroeref25_chap.n : Nat := 119
abbrev slices_Grow_byte.n : Nat := 120
def fnOf (n : Nat) : Option SFunc := (fns.find? (·.1 == n)).map (·.2.1)
def G : Prg := { fn := fnOf, prim := fun _ => none }
theorem euphroelaw22_CtlLays.g : G.fn 7 = some euphroelaw22_CtlLays.s := by rfl
theorem euphroelaw22_CtlRejects.g : G.fn 8 = some euphroelaw22_CtlRejects.s := by rfl
theorem euphroelaw21_OptsLays.g : G.fn 9 = some euphroelaw21_OptsLays.s := by rfl
theorem euphroelaw21_OptsAsks.g : G.fn 10 = some euphroelaw21_OptsAsks.s := by rfl
theorem euphroelaw25_LcpoJudges.g : G.fn 11 = some euphroelaw25_LcpoJudges.s := by rfl
theorem euphroelaw25_LcpoFine.g : G.fn 12 = some euphroelaw25_LcpoFine.s := by rfl
theorem euphroelaw25_LcpoAnswers.g : G.fn 13 = some euphroelaw25_LcpoAnswers.s := by rfl
theorem euphroelaw22_CtlOptions.g : G.fn 14 = some euphroelaw22_CtlOptions.s := by rfl
theorem euphroelaw22_alive.g : G.fn 34 = some euphroelaw22_alive.s := by rfl
theorem ctl_Lay.g : G.fn 35 = some ctl_Lay.s := by rfl
theorem euphroelaw22_theirs.g : G.fn 36 = some euphroelaw22_theirs.s := by rfl
theorem euphroeref22_Lay.g : G.fn 37 = some euphroeref22_Lay.s := by rfl
theorem ctl_Parse.g : G.fn 38 = some ctl_Parse.s := by rfl
theorem euphroeref22_Parse.g : G.fn 39 = some euphroeref22_Parse.s := by rfl
theorem euphroeref01_Same.g : G.fn 40 = some euphroeref01_Same.s := by rfl
theorem ctl_Same.g : G.fn 41 = some ctl_Same.s := by rfl
theorem euphroeref22_Same.g : G.fn 42 = some euphroeref22_Same.s := by rfl
theorem ctl_Magic.g : G.fn 43 = some ctl_Magic.s := by rfl
theorem euphroeref22_Magic.g : G.fn 44 = some euphroeref22_Magic.s := by rfl
theorem ctl_Reject.g : G.fn 45 = some ctl_Reject.s := by rfl
theorem euphroeref22_Reject.g : G.fn 46 = some euphroeref22_Reject.s := by rfl
theorem ctl_Proto.g : G.fn 47 = some ctl_Proto.s := by rfl
theorem euphroeref22_Proto.g : G.fn 48 = some euphroeref22_Proto.s := by rfl
theorem ctl_Echo.g : G.fn 49 = some ctl_Echo.s := by rfl
theorem euphroeref22_Echo.g : G.fn 50 = some euphroeref22_Echo.s := by rfl
theorem euphroelaw21_far.g : G.fn 51 = some euphroelaw21_far.s := by rfl
theorem euphroelaw21_alive.g : G.fn 52 = some euphroelaw21_alive.s := by rfl
theorem opts_Lay.g : G.fn 53 = some opts_Lay.s := by rfl
theorem euphroelaw21_theirs.g : G.fn 54 = some euphroelaw21_theirs.s := by rfl
theorem euphroeref21_Lay.g : G.fn 55 = some euphroeref21_Lay.s := by rfl
theorem opts_Parse.g : G.fn 56 = some opts_Parse.s := by rfl
theorem euphroeref21_Parse.g : G.fn 57 = some euphroeref21_Parse.s := by rfl
theorem opts_Same.g : G.fn 58 = some opts_Same.s := by rfl
theorem opts_Find.g : G.fn 59 = some opts_Find.s := by rfl
theorem euphroeref21_Find.g : G.fn 60 = some euphroeref21_Find.s := by rfl
theorem opts_Kinds.g : G.fn 61 = some opts_Kinds.s := by rfl
theorem euphroeref21_Same.g : G.fn 62 = some euphroeref21_Same.s := by rfl
theorem opts_Without.g : G.fn 63 = some opts_Without.s := by rfl
theorem euphroeref21_Without.g : G.fn 64 = some euphroeref21_Without.s := by rfl
theorem opts_Among.g : G.fn 65 = some opts_Among.s := by rfl
theorem euphroeref21_Among.g : G.fn 66 = some euphroeref21_Among.s := by rfl
theorem euphroelaw25_far.g : G.fn 67 = some euphroelaw25_far.s := by rfl
theorem euphroelaw25_alive.g : G.fn 68 = some euphroelaw25_alive.s := by rfl
theorem lcpo_Judge.g : G.fn 69 = some lcpo_Judge.s := by rfl
theorem euphroelaw25_theirs.g : G.fn 70 = some euphroelaw25_theirs.s := by rfl
theorem euphroeref25_Judge.g : G.fn 71 = some euphroeref25_Judge.s := by rfl
theorem lcpo_Options.g : G.fn 72 = some lcpo_Options.s := by rfl
theorem lcpo_Of.g : G.fn 73 = some lcpo_Of.s := by rfl
theorem ctl_Conf.g : G.fn 74 = some ctl_Conf.s := by rfl
theorem euphroelaw22_options.g : G.fn 75 = some euphroelaw22_options.s := by rfl
theorem euphroeref22_Conf.g : G.fn 76 = some euphroeref22_Conf.s := by rfl
theorem ctl_Options.g : G.fn 77 = some ctl_Options.s := by rfl
theorem euphroeref22_Options.g : G.fn 78 = some euphroeref22_Options.s := by rfl
theorem octs_Put.g : G.fn 85 = some octs_Put.s := by rfl
theorem octs_Join.g : G.fn 86 = some octs_Join.s := by rfl
theorem euphroeref01_Big.g : G.fn 87 = some euphroeref01_Big.s := by rfl
theorem octs_Get.g : G.fn 88 = some octs_Get.s := by rfl
theorem bytes_Clone.g : G.fn 89 = some bytes_Clone.s := by rfl
theorem euphroeref01_Num.g : G.fn 90 = some euphroeref01_Num.s := by rfl
theorem bytes_Equal.g : G.fn 91 = some bytes_Equal.s := by rfl
theorem ctl_cut.g : G.fn 92 = some ctl_cut.s := by rfl
theorem euphroeref22_cut.g : G.fn 93 = some euphroeref22_cut.s := by rfl
theorem opts_first.g : G.fn 94 = some opts_first.s := by rfl
theorem slices_EqualFunc_api_Option.g : G.fn 95 = some slices_EqualFunc_api_Option.s := by rfl
theorem opts_same.g : G.fn 96 = some opts_same.s := by rfl
theorem slices_IndexFunc_api_Option.g : G.fn 97 = some slices_IndexFunc_api_Option.s := by rfl
theorem opts_Find_1.g : G.fn 98 = some opts_Find_1.s := by rfl
theorem euphroeref21_one.g : G.fn 99 = some euphroeref21_one.s := by rfl
theorem slices_DeleteFunc_api_Option.g : G.fn 100 = some slices_DeleteFunc_api_Option.s := by rfl
theorem slices_Clone_api_Option.g : G.fn 101 = some slices_Clone_api_Option.s := by rfl
theorem opts_Without_1.g : G.fn 102 = some opts_Without_1.s := by rfl
theorem lcpo_Chap.g : G.fn 103 = some lcpo_Chap.s := by rfl
theorem lcpo_better.g : G.fn 104 = some lcpo_better.s := by rfl
theorem lcpo_right.g : G.fn 105 = some lcpo_right.s := by rfl
theorem euphroeref25_right.g : G.fn 106 = some euphroeref25_right.s := by rfl
theorem euphroeref25_better.g : G.fn 107 = some euphroeref25_better.s := by rfl
theorem lcpo_option.g : G.fn 108 = some lcpo_option.s := by rfl
theorem lcpo_first.g : G.fn 109 = some lcpo_first.s := by rfl
theorem lcpo_number.g : G.fn 110 = some lcpo_number.s := by rfl
theorem ctl_isConf.g : G.fn 111 = some ctl_isConf.s := by rfl
theorem euphroeref22_conf.g : G.fn 112 = some euphroeref22_conf.s := by rfl
theorem slices_Reverse_byte.g : G.fn 115 = some slices_Reverse_byte.s := by rfl
theorem slices_Concat_byte.g : G.fn 116 = some slices_Concat_byte.s := by rfl
theorem lcpo_long.g : G.fn 117 = some lcpo_long.s := by rfl
theorem euphroeref25_long.g : G.fn 118 = some euphroeref25_long.s := by rfl
theorem euphroeref25_chap.g : G.fn 119 = some euphroeref25_chap.s := by rfl
theorem slices_Grow_byte.g : G.fn 120 = some slices_Grow_byte.s := by rfl
end Go.Q
