/- The slim code of the functions, written by a program of ours. No condition. -/
import Derived.Test.YtjglogffdihahaaEvB
set_option maxRecDepth 100000
namespace Go.Q
open SOp SCode
/-- euphroe/euphroelaw21.OptsLays · 0:l/0 1:b/1 2:/4 3:x/5 4:e/6 5:y/7 6:f/8 7:k/9 8:g/10 9:m/11 10:h/12 11:z/13 12:i/14 13:z/15 14:i/16 -/
def euphroelaw21_OptsLays.s : SFunc := { np := 2, nv := 15, res := [.var 2], code := (.seq (.ops [W 2 (.take (kb false))])
(.seq (.ifs [T (.mov (.x 0)), T (.call false 51 [(.t 0)]), T (.mov (.t 0)), GT 0 false (.mov (.x 1)), GT 1 false (.len (.t 0)), GT 2 false (.bin .gtr (.t 0) (ki 3000)), T (.pick (.t 3) (kb true) (.t 0))] (.t 0) (.seq (.ops [T (.call false 52 []), W 2 (.take (.t 0))])
.ret) .skip)
(.seq (.ops [T (.mov (.x 0)), T (.call false 54 [(.t 0)]), T (.call false 53 [(.t 0)]), T (.take (.t 0)), T (.ext 0 (.t 0)), T (.ext 1 (.t 1)), W 3 (.take (.t 1)), W 4 (.take (.t 1))])
(.seq (.ops [T (.mov (.x 0)), T (.call false 55 [(.t 0)]), T (.take (.t 0)), T (.ext 0 (.t 0)), T (.ext 1 (.t 1)), W 5 (.take (.t 1)), W 6 (.take (.t 1))])
(.seq (.ops [T (.mov (.x 1)), T (.call false 56 [(.t 0)]), T (.take (.t 0)), T (.ext 0 (.t 0)), T (.ext 1 (.t 1)), W 7 (.take (.t 1)), W 8 (.take (.t 1))])
(.seq (.ops [T (.mov (.x 1)), T (.call false 57 [(.t 0)]), T (.take (.t 0)), T (.ext 0 (.t 0)), T (.ext 1 (.t 1)), W 9 (.take (.t 1)), W 10 (.take (.t 1))])
(.seq (.ifs [T (.mov (.x 3)), T (.mov (.x 5)), T (.call false 40 [(.t 1), (.t 0)]), T (.un .not (.t 0)), T (.mov (.t 0)), GT 0 false (.mov (.x 4)), GT 1 false (.mov (.x 6)), GT 2 false (.bin .neq (.t 1) (.t 0)), T (.pick (.t 3) (kb true) (.t 0)), T (.mov (.t 0)), GT 0 false (.mov (.x 7)), GT 1 false (.mov (.x 9)), GT 2 false (.call false 54 [(.t 0)]), GT 3 false (.call false 58 [(.t 2), (.t 0)]), GT 4 false (.un .not (.t 0)), T (.pick (.t 5) (kb true) (.t 0)), T (.mov (.t 0)), GT 0 false (.mov (.x 8)), GT 1 false (.mov (.x 10)), GT 2 false (.bin .neq (.t 1) (.t 0)), T (.pick (.t 3) (kb true) (.t 0))] (.t 0) (.seq (.ops [W 2 (.take (kb false))])
.ret) .skip)
(.seq (.seq (.ops [T (.mov (.x 3)), T (.call false 56 [(.t 0)]), T (.take (.t 0)), T (.ext 0 (.t 0)), T (.ext 1 (.t 1)), W 11 (.take (.t 1)), W 12 (.take (.t 1))])
(.ifs [T (.mov (.x 4)), T (.bin .eql (.t 0) (ki 0)), T (.mov (.t 0)), GT 0 true (.mov (.x 11)), GT 1 true (.mov (.x 0)), GT 2 true (.call false 54 [(.t 0)]), GT 3 true (.call false 58 [(.t 2), (.t 0)]), GT 4 true (.un .not (.t 0)), GT 5 true (.mov (.t 0)), GT 0 false (.mov (.x 12)), GT 1 false (.bin .neq (.t 0) (ki 0)), GT 8 true (.pick (.t 2) (kb true) (.t 0)), T (.pick (.t 9) (.t 0) (kb false))] (.t 0) (.seq (.ops [W 2 (.take (kb false))])
.ret) .skip))
(.seq (.ops [T (.mov (.x 7)), T (.call false 53 [(.t 0)]), T (.take (.t 0)), T (.ext 0 (.t 0)), T (.ext 1 (.t 1)), W 13 (.take (.t 1)), W 14 (.take (.t 1))])
(.seq (.ops [T (.mov (.x 8)), T (.bin .neq (.t 0) (ki 0)), T (.mov (.t 0)), GT 0 false (.mov (.x 14)), GT 1 false (.bin .eql (.t 0) (ki 0)), GT 2 false (.mov (.t 0)), GT 0 true (.mov (.x 13)), GT 1 true (.mov (.x 1)), GT 2 true (.call false 40 [(.t 1), (.t 0)]), GT 6 false (.pick (.t 3) (.t 0) (kb false)), T (.pick (.t 7) (kb true) (.t 0)), T (.mov (.t 0)), GT 0 true (.call false 52 []), T (.pick (.t 1) (.t 0) (kb false)), W 2 (.take (.t 0))])
.ret)))))))))) }
def euphroelaw21_OptsLays.m : List Nat := [0, 1, 4, 5, 6, 7, 8, 9, 10, 11, 12, 13, 14, 15, 16]
/-- euphroe/euphroelaw21.OptsAsks · 0:l/0 1:k/1 2:kind/2 3:/6 4:a/7 5:b/8 6:o/9 7:ok/10 8:p/11 9:is/12 10:kinds/13 11:/46 12:/47 13:i/14 -/
def euphroelaw21_OptsAsks.l0 : SCode := (.seq (.ifs [T (.bin .lss (.x 12) (.x 11))] (.t 0) .skip (.exit 0))
(.seq (.block 1 (.seq (.ops [T (.mov (.x 12)), W 13 (.take (.t 0))])
(.ifs [T (.mov (.x 10)), T (.mov (.x 13)), T (.ia 1 (.t 1) (.t 0)), T (.load none (.t 0)), T (.mov (.x 0)), T (.mov (.x 13)), T (.ia 2 (.t 1) (.t 0)), T (.fa 0 (.t 0)), T (.load none (.t 0)), T (.bin .neq (.t 5) (.t 0))] (.t 0) (.seq (.ops [W 3 (.take (kb false))])
.ret) .skip)))
(.ops [T (.bin .add (.x 12) (ki 1)), W 12 (.mov (.t 0))])))
def euphroelaw21_OptsAsks.s : SFunc := { np := 3, nv := 14, res := [.var 3], code := (.seq (.ops [W 3 (.take (kb false))])
(.seq (.ifs [T (.mov (.x 0)), T (.call false 51 [(.t 0)]), T (.mov (.t 0)), GT 0 false (.mov (.x 1)), GT 1 false (.call false 51 [(.t 0)]), T (.pick (.t 2) (kb true) (.t 0))] (.t 0) (.seq (.ops [T (.call false 52 []), W 3 (.take (.t 0))])
.ret) .skip)
(.seq (.ops [T (.mov (.x 0)), T (.call false 54 [(.t 0)]), T (.mov (.x 1)), T (.call false 54 [(.t 0)]), W 4 (.take (.t 2)), W 5 (.take (.t 1))])
(.seq (.ops [T (.mov (.x 4)), T (.mov (.x 2)), T (.call false 59 [(.t 1), (.t 0)]), T (.take (.t 0)), T (.ext 0 (.t 0)), T (.ext 1 (.t 1)), W 6 (.alloc false (.agg [.v (.int .u8 0), .nils 1])), N (.store 2 (.x 6) (.t 2)), W 7 (.take (.t 2))])
(.seq (.ops [T (.mov (.x 0)), T (.mov (.x 2)), T (.call false 60 [(.t 1), (.t 0)]), T (.take (.t 0)), T (.ext 0 (.t 0)), T (.ext 1 (.t 1)), W 8 (.alloc false (.agg [.v (.int .u8 0), .nils 1])), N (.store 2 (.x 8) (.t 2)), W 9 (.take (.t 2))])
(.seq (.ops [T (.mov (.x 4)), T (.call false 61 [(.t 0)]), W 10 (.take (.t 0))])
(.seq (.ifs [T (.mov (.x 10)), T (.len (.t 0)), T (.mov (.x 0)), T (.len (.t 0)), T (.bin .neq (.t 2) (.t 0))] (.t 0) (.seq (.ops [W 3 (.take (kb false))])
.ret) .skip)
(.seq (.seq (.ops [T (.mov (.x 10)), W 11 (.len (.t 0)), W 12 (.mov (ki 0))])
(.block 0 (.loop [13] euphroelaw21_OptsAsks.l0)))
(.seq (.ops [T (.load (some 2) (.x 6)), T (.lit 2 [(.t 0)]), T (.load (some 2) (.x 8)), T (.lit 2 [(.t 0)]), T (.call false 54 [(.t 0)]), T (.call false 58 [(.t 3), (.t 0)]), T (.mov (.t 0)), GT 0 true (.mov (.x 7)), GT 1 true (.mov (.x 9)), GT 2 true (.eq .b false (.t 1) (.t 0)), T (.pick (.t 3) (.t 0) (kb false)), T (.mov (.t 0)), GT 0 true (.mov (.x 4)), GT 1 true (.mov (.x 5)), GT 2 true (.call false 58 [(.t 1), (.t 0)]), GT 3 true (.mov (.x 0)), GT 4 true (.mov (.x 1)), GT 5 true (.call false 62 [(.t 1), (.t 0)]), GT 6 true (.eq .b false (.t 3) (.t 0)), T (.pick (.t 7) (.t 0) (kb false)), T (.mov (.t 0)), GT 0 true (.mov (.x 4)), GT 1 true (.mov (.x 2)), GT 2 true (.call false 63 [(.t 1), (.t 0)]), GT 3 true (.mov (.x 0)), GT 4 true (.mov (.x 2)), GT 5 true (.call false 64 [(.t 1), (.t 0)]), GT 6 true (.call false 54 [(.t 0)]), GT 7 true (.call false 58 [(.t 4), (.t 0)]), T (.pick (.t 8) (.t 0) (kb false)), T (.mov (.t 0)), GT 0 true (.mov (.x 4)), GT 1 true (.mov (.x 5)), GT 2 true (.call false 65 [(.t 1), (.t 0)]), GT 3 true (.mov (.x 0)), GT 4 true (.mov (.x 1)), GT 5 true (.call false 66 [(.t 1), (.t 0)]), GT 6 true (.eq .b false (.t 3) (.t 0)), T (.pick (.t 7) (.t 0) (kb false)), T (.mov (.t 0)), GT 0 true (.mov (.x 4)), GT 1 true (.mov (.x 2)), GT 2 true (.call false 63 [(.t 1), (.t 0)]), GT 3 true (.mov (.x 4)), GT 4 true (.call false 65 [(.t 1), (.t 0)]), T (.pick (.t 5) (.t 0) (kb false)), T (.mov (.t 0)), GT 0 true (.call false 52 []), T (.pick (.t 1) (.t 0) (kb false)), W 3 (.take (.t 0))])
.ret))))))))) }
def euphroelaw21_OptsAsks.m : List Nat := [0, 1, 2, 6, 7, 8, 9, 10, 11, 12, 13, 46, 47, 14]
/-- euphroe/euphroeref01.Same · 0:a/0 1:b/1 2:/4 3:i/5 -/
def euphroeref01_Same.l0 : SCode := (.seq (.ifs [T (.mov (.x 3)), T (.mov (.x 0)), T (.len (.t 0)), T (.bin .lss (.t 2) (.t 0))] (.t 0) .skip (.exit 0))
(.seq (.block 1 (.ifs [T (.mov (.x 0)), T (.mov (.x 3)), T (.ia 1 (.t 1) (.t 0)), T (.load none (.t 0)), T (.mov (.x 1)), T (.mov (.x 3)), T (.ia 1 (.t 1) (.t 0)), T (.load none (.t 0)), T (.bin .neq (.t 4) (.t 0))] (.t 0) (.seq (.ops [W 2 (.take (kb false))])
.ret) .skip))
(.ops [T (.mov (.x 3)), T (.bin .add (.t 0) (ki 1)), W 3 (.take (.t 0))])))
def euphroeref01_Same.s : SFunc := { np := 2, nv := 4, res := [.var 2], code := (.seq (.ops [W 2 (.take (kb false))])
(.seq (.ifs [T (.mov (.x 0)), T (.len (.t 0)), T (.mov (.x 1)), T (.len (.t 0)), T (.bin .neq (.t 2) (.t 0))] (.t 0) (.seq (.ops [W 2 (.take (kb false))])
.ret) .skip)
(.seq (.seq (.ops [W 3 (.take (ki 0))])
(.block 0 (.loop [] euphroeref01_Same.l0)))
(.seq (.ops [W 2 (.take (kb true))])
.ret)))) }
def euphroeref01_Same.m : List Nat := [0, 1, 4, 5]
/-- euphroe/euphroelaw21.far · 0:l/0 1:/2 2:/9 3:/10 4:/11 5:o/4 -/
def euphroelaw21_far.l0 : SCode := (.seq (.ifs [T (.bin .lss (.x 4) (.x 3))] (.t 0) .skip (.exit 0))
(.seq (.block 1 (.seq (.ops [T (.ia 2 (.x 2) (.x 4)), T (.load (some 2) (.t 0)), W 5 (.alloc false (.agg [.v (.int .u8 0), .nils 1])), N (.store 2 (.x 5) (.t 1))])
(.ifs [T (.fa 1 (.x 5)), T (.load none (.t 0)), T (.len (.t 0)), T (.bin .gtr (.t 0) (ki 300))] (.t 0) (.seq (.ops [W 1 (.take (kb true))])
.ret) .skip)))
(.ops [T (.bin .add (.x 4) (ki 1)), W 4 (.mov (.t 0))])))
def euphroelaw21_far.s : SFunc := { np := 1, nv := 6, res := [.var 1], code := (.seq (.ops [W 1 (.take (kb false))])
(.seq (.seq (.ops [T (.mov (.x 0)), T (.mov (.x 0)), T (.len (.t 0)), T (.mn (.t 0) (ki 40)), W 2 (.sub 2 (.t 3) none (some (.t 0)) none), W 3 (.len (.x 2)), W 4 (.mov (ki 0))])
(.block 0 (.loop [5] euphroelaw21_far.l0)))
(.seq (.ops [T (.mov (.x 0)), T (.len (.t 0)), T (.bin .gtr (.t 0) (ki 40)), W 1 (.take (.t 0))])
.ret))) }
def euphroelaw21_far.m : List Nat := [0, 2, 9, 10, 11, 4]
/-- euphroe/euphroelaw21.alive · 0:/0 1:l/1 2:b/2 3:e/3 4:k/4 5:f/5 6:o/6 7:ok/7 -/
def euphroelaw21_alive.s : SFunc := { np := 0, nv := 8, res := [.var 0], code := (.seq (.ops [W 0 (.take (kb false))])
(.seq (.ops [T (.lit 1 [(kk .u8 5), (kk .u8 120)]), T (.build [.v (.int .u8 0), .nils 1] [(0, 1, (kk .u8 1)), (1, 1, (.t 0))]), T (.lit 2 [(.t 0)]), W 1 (.take (.t 0))])
(.seq (.ops [T (.mov (.x 1)), T (.call false 53 [(.t 0)]), T (.take (.t 0)), T (.ext 0 (.t 0)), T (.ext 1 (.t 1)), W 2 (.take (.t 1)), W 3 (.take (.t 1))])
(.seq (.ops [T (.mov (.x 2)), T (.call false 56 [(.t 0)]), T (.take (.t 0)), T (.ext 0 (.t 0)), T (.ext 1 (.t 1)), W 4 (.take (.t 1)), W 5 (.take (.t 1))])
(.seq (.ops [T (.mov (.x 4)), T (.call false 59 [(.t 0), (kk .u8 1)]), T (.take (.t 0)), T (.ext 0 (.t 0)), T (.ext 1 (.t 1)), W 6 (.alloc false (.agg [.v (.int .u8 0), .nils 1])), N (.store 2 (.x 6) (.t 2)), W 7 (.take (.t 2))])
(.seq (.ops [T (.mov (.x 2)), T (.b2s (.t 0)), T (.bin .eql (.t 0) (.c (.v (.str [1, 4, 5, 120])))), T (.mov (.t 0)), GT 0 true (.mov (.x 3)), GT 1 true (.bin .eql (.t 0) (ki 0)), T (.pick (.t 2) (.t 0) (kb false)), T (.mov (.t 0)), GT 0 true (.mov (.x 1)), GT 1 true (.mov (.x 4)), GT 2 true (.call false 58 [(.t 1), (.t 0)]), T (.pick (.t 3) (.t 0) (kb false)), T (.mov (.t 0)), GT 0 true (.mov (.x 5)), GT 1 true (.bin .eql (.t 0) (ki 0)), T (.pick (.t 2) (.t 0) (kb false)), T (.mov (.t 0)), GT 0 true (.mov (.x 7)), T (.pick (.t 1) (.t 0) (kb false)), T (.mov (.t 0)), GT 0 true (.fa 1 (.x 6)), GT 1 true (.load none (.t 0)), GT 2 true (.len (.t 0)), GT 3 true (.bin .eql (.t 0) (ki 2)), T (.pick (.t 4) (.t 0) (kb false)), T (.mov (.t 0)), GT 0 true (.mov (.x 1)), GT 1 true (.call false 65 [(kn 2), (.t 0)]), T (.pick (.t 2) (.t 0) (kb false)), T (.mov (.t 0)), GT 0 true (.mov (.x 1)), GT 1 true (.call false 63 [(.t 0), (kk .u8 1)]), GT 2 true (.len (.t 0)), GT 3 true (.bin .eql (.t 0) (ki 0)), T (.pick (.t 4) (.t 0) (kb false)), T (.mov (.t 0)), GT 0 true (.mov (.x 1)), GT 1 true (.call false 61 [(.t 0)]), GT 2 true (.len (.t 0)), GT 3 true (.bin .eql (.t 0) (ki 1)), T (.pick (.t 4) (.t 0) (kb false)), W 0 (.take (.t 0))])
.ret)))))) }
def euphroelaw21_alive.m : List Nat := [0, 1, 2, 3, 4, 5, 6, 7]
/-- euphroe/opts.Lay · 0:l/0 1:/2 2:/3 3:b/4 4:/10 5:/11 6:/12 7:o/6 -/
def opts_Lay.l0 : SCode := (.seq (.ifs [T (.bin .lss (.x 6) (.x 5))] (.t 0) .skip (.exit 0))
(.seq (.block 1 (.seq (.ops [T (.ia 2 (.x 4) (.x 6)), T (.load (some 2) (.t 0)), W 7 (.alloc false (.agg [.v (.int .u8 0), .nils 1])), N (.store 2 (.x 7) (.t 1))])
(.seq (.ifs [T (.fa 1 (.x 7)), T (.load none (.t 0)), T (.len (.t 0)), T (.bin .gtr (.t 0) (ki 253))] (.t 0) (.seq (.ops [W 1 (.take (kn 1)), W 2 (.take (ki 8))])
.ret) .skip)
(.seq (.ops [T (.take (.x 3)), T (.fa 0 (.x 7)), T (.load none (.t 0)), T (.fa 1 (.x 7)), T (.load none (.t 0)), T (.len (.t 0)), T (.bin .add (ki 2) (.t 0)), T (.cvi .u8 (.t 0)), T (.lit 1 [(.t 5), (.t 0)]), T (.app 1 1 (.t 8) (.t 0)), W 3 (.take (.t 0))])
(.ops [T (.take (.x 3)), T (.fa 1 (.x 7)), T (.load none (.t 0)), T (.app 1 1 (.t 2) (.t 0)), W 3 (.take (.t 0))])))))
(.ops [T (.bin .add (.x 6) (ki 1)), W 6 (.mov (.t 0))])))
def opts_Lay.s : SFunc := { np := 1, nv := 8, res := [.var 1, .var 2], code := (.seq (.ops [W 1 (.take (kn 1)), W 2 (.take (ki 0))])
(.seq (.ifs [T (.mov (.x 0)), T (.len (.t 0)), T (.bin .gtr (.t 0) (ki 32))] (.t 0) (.seq (.ops [W 1 (.take (kn 1)), W 2 (.take (ki 5))])
.ret) .skip)
(.seq (.ops [W 3 (.take (kn 1))])
(.seq (.seq (.ops [W 4 (.mov (.x 0)), W 5 (.len (.x 4)), W 6 (.mov (ki 0))])
(.block 0 (.loop [7] opts_Lay.l0)))
(.seq (.ops [T (.take (.x 3)), W 1 (.take (.t 0)), W 2 (.take (ki 0))])
.ret))))) }
def opts_Lay.m : List Nat := [0, 2, 3, 4, 10, 11, 12, 6]
/-- euphroe/euphroelaw21.theirs · 0:l/0 1:/2 2:out/3 3:/6 4:/7 5:/8 6:o/5 -/
def euphroelaw21_theirs.l0 : SCode := (.seq (.ifs [T (.bin .lss (.x 5) (.x 4))] (.t 0) .skip (.exit 0))
(.seq (.block 1 (.seq (.ops [T (.ia 2 (.x 3) (.x 5)), T (.load (some 2) (.t 0)), W 6 (.alloc false (.agg [.v (.int .u8 0), .nils 1])), N (.store 2 (.x 6) (.t 1))])
(.ops [T (.take (.x 2)), T (.fa 0 (.x 6)), T (.load none (.t 0)), T (.fa 1 (.x 6)), T (.load none (.t 0)), T (.build [.v (.int .u8 0), .nils 1] [(0, 1, (.t 2)), (1, 1, (.t 0))]), T (.lit 2 [(.t 0)]), T (.app 2 32 (.t 6) (.t 0)), W 2 (.take (.t 0))])))
(.ops [T (.bin .add (.x 5) (ki 1)), W 5 (.mov (.t 0))])))
def euphroelaw21_theirs.s : SFunc := { np := 1, nv := 7, res := [.var 1], code := (.seq (.ops [W 1 (.take (kn 2))])
(.seq (.ops [W 2 (.take (kn 2))])
(.seq (.seq (.ops [W 3 (.mov (.x 0)), W 4 (.len (.x 3)), W 5 (.mov (ki 0))])
(.block 0 (.loop [6] euphroelaw21_theirs.l0)))
(.seq (.ops [T (.take (.x 2)), W 1 (.take (.t 0))])
.ret)))) }
def euphroelaw21_theirs.m : List Nat := [0, 2, 3, 6, 7, 8, 5]
/-- euphroe/euphroeref21.Lay · 0:l/0 1:/2 2:/3 3:out/4 4:i/5 -/
def euphroeref21_Lay.l0 : SCode := (.seq (.ifs [T (.mov (.x 4)), T (.mov (.x 0)), T (.len (.t 0)), T (.bin .lss (.t 2) (.t 0))] (.t 0) .skip (.exit 0))
(.seq (.block 1 (.seq (.ifs [T (.mov (.x 0)), T (.mov (.x 4)), T (.ia 2 (.t 1) (.t 0)), T (.fa 1 (.t 0)), T (.load none (.t 0)), T (.len (.t 0)), T (.bin .gtr (.t 0) (ki 253))] (.t 0) (.seq (.ops [W 1 (.take (kn 1)), W 2 (.take (ki 8))])
.ret) .skip)
(.ops [T (.take (.x 3)), T (.mov (.x 0)), T (.mov (.x 4)), T (.ia 2 (.t 1) (.t 0)), T (.fa 0 (.t 0)), T (.load none (.t 0)), T (.mov (.x 0)), T (.mov (.x 4)), T (.ia 2 (.t 1) (.t 0)), T (.fa 1 (.t 0)), T (.load none (.t 0)), T (.len (.t 0)), T (.bin .add (ki 2) (.t 0)), T (.cvi .u8 (.t 0)), T (.lit 1 [(.t 8), (.t 0)]), T (.app 1 1 (.t 14) (.t 0)), T (.mov (.x 0)), T (.mov (.x 4)), T (.ia 2 (.t 1) (.t 0)), T (.fa 1 (.t 0)), T (.load none (.t 0)), T (.app 1 1 (.t 5) (.t 0)), W 3 (.take (.t 0))])))
(.ops [T (.mov (.x 4)), T (.bin .add (.t 0) (ki 1)), W 4 (.take (.t 0))])))
def euphroeref21_Lay.s : SFunc := { np := 1, nv := 5, res := [.var 1, .var 2], code := (.seq (.ops [W 1 (.take (kn 1)), W 2 (.take (ki 0))])
(.seq (.ifs [T (.mov (.x 0)), T (.len (.t 0)), T (.bin .gtr (.t 0) (ki 32))] (.t 0) (.seq (.ops [W 1 (.take (kn 1)), W 2 (.take (ki 5))])
.ret) .skip)
(.seq (.ops [W 3 (.take (kn 1))])
(.seq (.seq (.ops [W 4 (.take (ki 0))])
(.block 0 (.loop [] euphroeref21_Lay.l0)))
(.seq (.ops [T (.take (.x 3)), W 1 (.take (.t 0)), W 2 (.take (ki 0))])
.ret))))) }
def euphroeref21_Lay.m : List Nat := [0, 2, 3, 4, 5]
/-- euphroe/opts.Parse · 0:b/0 1:/2 2:/3 3:l/4 4:o/5 5:n/6 6:e/7 -/
def opts_Parse.l0 : SCode := (.seq (.ifs [T (.mov (.x 0)), T (.len (.t 0)), T (.bin .gtr (.t 0) (ki 0))] (.t 0) .skip (.exit 0))
(.block 1 (.seq (.ifs [T (.mov (.x 3)), T (.len (.t 0)), T (.bin .eql (.t 0) (ki 32))] (.t 0) (.seq (.ops [W 1 (.take (kn 2)), W 2 (.take (ki 5))])
.ret) .skip)
(.seq (.ops [T (.mov (.x 0)), T (.call false 94 [(.t 0)]), T (.take (.t 0)), T (.ext 0 (.t 0)), T (.ext 1 (.t 1)), T (.ext 2 (.t 2)), W 4 (.alloc false (.agg [.v (.int .u8 0), .nils 1])), N (.store 2 (.x 4) (.t 3)), W 5 (.take (.t 3)), W 6 (.take (.t 3))])
(.seq (.ifs [T (.mov (.x 6)), T (.bin .neq (.t 0) (ki 0))] (.t 0) (.seq (.ops [T (.take (.x 6)), W 1 (.take (kn 2)), W 2 (.take (.t 1))])
.ret) .skip)
(.seq (.ops [T (.take (.x 3)), T (.load (some 2) (.x 4)), T (.lit 2 [(.t 0)]), T (.app 2 32 (.t 2) (.t 0)), W 3 (.take (.t 0))])
(.ops [T (.mov (.x 0)), T (.mov (.x 5)), T (.sub 1 (.t 1) (some (.t 0)) none none), W 0 (.take (.t 0))])))))))
def opts_Parse.s : SFunc := { np := 1, nv := 7, res := [.var 1, .var 2], code := (.seq (.ops [W 1 (.take (kn 2)), W 2 (.take (ki 0))])
(.seq (.ops [W 3 (.take (kn 2))])
(.seq (.block 0 (.loop [4, 5, 6] opts_Parse.l0))
(.seq (.ops [T (.take (.x 3)), W 1 (.take (.t 0)), W 2 (.take (ki 0))])
.ret)))) }
def opts_Parse.m : List Nat := [0, 2, 3, 4, 5, 6, 7]
/-- euphroe/euphroeref21.Parse · 0:b/0 1:/2 2:/3 3:out/4 4:at/5 5:n/6 -/
def euphroeref21_Parse.l0 : SCode := (.seq (.ifs [T (.mov (.x 4)), T (.mov (.x 0)), T (.len (.t 0)), T (.bin .lss (.t 2) (.t 0))] (.t 0) .skip (.exit 0))
(.block 1 (.seq (.ifs [T (.mov (.x 3)), T (.len (.t 0)), T (.bin .eql (.t 0) (ki 32))] (.t 0) (.seq (.ops [W 1 (.take (kn 2)), W 2 (.take (ki 5))])
.ret) .skip)
(.seq (.ifs [T (.mov (.x 0)), T (.len (.t 0)), T (.mov (.x 4)), T (.bin .sub (.t 1) (.t 0)), T (.bin .lss (.t 0) (ki 2))] (.t 0) (.seq (.ops [W 1 (.take (kn 2)), W 2 (.take (ki 4))])
.ret) .skip)
(.seq (.ops [T (.mov (.x 0)), T (.mov (.x 4)), T (.bin .add (.t 0) (ki 1)), T (.ia 1 (.t 2) (.t 0)), T (.load none (.t 0)), T (.cvi .i64 (.t 0)), W 5 (.take (.t 0))])
(.seq (.ifs [T (.mov (.x 5)), T (.bin .lss (.t 0) (ki 2))] (.t 0) (.seq (.ops [W 1 (.take (kn 2)), W 2 (.take (ki 3))])
.ret) .skip)
(.seq (.ifs [T (.mov (.x 0)), T (.len (.t 0)), T (.mov (.x 4)), T (.bin .sub (.t 1) (.t 0)), T (.mov (.x 5)), T (.bin .lss (.t 1) (.t 0))] (.t 0) (.seq (.ops [W 1 (.take (kn 2)), W 2 (.take (ki 4))])
.ret) .skip)
(.seq (.ops [T (.take (.x 3)), T (.mov (.x 0)), T (.mov (.x 4)), T (.ia 1 (.t 1) (.t 0)), T (.load none (.t 0)), T (.mov (.x 0)), T (.mov (.x 4)), T (.bin .add (.t 0) (ki 2)), T (.mov (.x 4)), T (.mov (.x 5)), T (.bin .add (.t 1) (.t 0)), T (.sub 1 (.t 5) (some (.t 3)) (some (.t 0)) none), T (.build [.v (.int .u8 0), .nils 1] [(0, 1, (.t 7)), (1, 1, (.t 0))]), T (.lit 2 [(.t 0)]), T (.app 2 32 (.t 13) (.t 0)), W 3 (.take (.t 0))])
(.ops [T (.mov (.x 4)), T (.mov (.x 5)), T (.bin .add (.t 1) (.t 0)), W 4 (.take (.t 0))])))))))))
def euphroeref21_Parse.s : SFunc := { np := 1, nv := 6, res := [.var 1, .var 2], code := (.seq (.ops [W 1 (.take (kn 2)), W 2 (.take (ki 0))])
(.seq (.ops [W 3 (.take (kn 2))])
(.seq (.seq (.ops [W 4 (.take (ki 0))])
(.block 0 (.loop [5] euphroeref21_Parse.l0)))
(.seq (.ops [T (.take (.x 3)), W 1 (.take (.t 0)), W 2 (.take (ki 0))])
.ret)))) }
def euphroeref21_Parse.m : List Nat := [0, 2, 3, 4, 5, 6]
/-- euphroe/opts.Same · 0:a/0 1:b/1 2:/4 -/
def opts_Same.s : SFunc := { np := 2, nv := 3, res := [.var 2], code := (.seq (.ops [W 2 (.take (kb false))])
(.seq (.ops [T (.mov (.x 0)), T (.mov (.x 1)), T (.call true 95 [(.t 1), (.t 0), (.c (.v (.fn 96)))]), W 2 (.take (.t 0))])
.ret)) }
def opts_Same.m : List Nat := [0, 1, 4]
/-- euphroe/opts.Find · 0:l/0 1:kind/1 2:kind/3 3:/4 4:/5 5:i/6 -/
def opts_Find.s : SFunc := { np := 2, nv := 6, res := [.cell (some 2) 3, .var 4], code := (.seq (.ops [W 2 (.box false (.x 1)), W 3 (.alloc false (.agg [.v (.int .u8 0), .nils 1])), W 4 (.take (kb false))])
(.seq (.ops [T (.mov (.x 0)), T (.mkf 98 [] [(.x 2)]), T (.call true 97 [(.t 1), (.t 0)]), W 5 (.take (.t 0))])
(.seq (.ifs [T (.mov (.x 5)), T (.bin .lss (.t 0) (ki 0))] (.t 0) (.seq (.ops [T (.build [.v (.int .u8 0), .nils 1] []), N (.store 2 (.x 3) (.t 0)), W 4 (.take (kb false))])
.ret) .skip)
(.seq (.ops [T (.mov (.x 0)), T (.mov (.x 5)), T (.ia 2 (.t 1) (.t 0)), T (.load (some 2) (.t 0)), N (.store 2 (.x 3) (.t 0)), W 4 (.take (kb true))])
.ret)))) }
def opts_Find.m : List Nat := [0, 1, 3, 4, 5, 6]
/-- euphroe/euphroeref21.Find · 0:l/0 1:kind/1 2:/4 3:/5 4:i/6 -/
def euphroeref21_Find.l0 : SCode := (.seq (.ifs [T (.mov (.x 4)), T (.mov (.x 0)), T (.len (.t 0)), T (.bin .lss (.t 2) (.t 0))] (.t 0) .skip (.exit 0))
(.seq (.block 1 (.ifs [T (.mov (.x 0)), T (.mov (.x 4)), T (.ia 2 (.t 1) (.t 0)), T (.fa 0 (.t 0)), T (.load none (.t 0)), T (.mov (.x 1)), T (.bin .eql (.t 1) (.t 0))] (.t 0) (.seq (.ops [T (.mov (.x 0)), T (.mov (.x 4)), T (.ia 2 (.t 1) (.t 0)), T (.load (some 2) (.t 0)), N (.store 2 (.x 2) (.t 0)), W 3 (.take (kb true))])
.ret) .skip))
(.ops [T (.mov (.x 4)), T (.bin .add (.t 0) (ki 1)), W 4 (.take (.t 0))])))
def euphroeref21_Find.s : SFunc := { np := 2, nv := 5, res := [.cell (some 2) 2, .var 3], code := (.seq (.ops [W 2 (.alloc false (.agg [.v (.int .u8 0), .nils 1])), W 3 (.take (kb false))])
(.seq (.seq (.ops [W 4 (.take (ki 0))])
(.block 0 (.loop [] euphroeref21_Find.l0)))
(.seq (.ops [T (.build [.v (.int .u8 0), .nils 1] []), N (.store 2 (.x 2) (.t 0)), W 3 (.take (kb false))])
.ret))) }
def euphroeref21_Find.m : List Nat := [0, 1, 4, 5, 6]
/-- euphroe/opts.Kinds · 0:l/0 1:/2 2:b/3 3:/6 4:/7 5:/8 6:o/5 -/
def opts_Kinds.l0 : SCode := (.seq (.ifs [T (.bin .lss (.x 5) (.x 4))] (.t 0) .skip (.exit 0))
(.seq (.block 1 (.seq (.ops [T (.ia 2 (.x 3) (.x 5)), T (.load (some 2) (.t 0)), W 6 (.alloc false (.agg [.v (.int .u8 0), .nils 1])), N (.store 2 (.x 6) (.t 1))])
(.ops [T (.take (.x 2)), T (.fa 0 (.x 6)), T (.load none (.t 0)), T (.lit 1 [(.t 0)]), T (.app 1 1 (.t 3) (.t 0)), W 2 (.take (.t 0))])))
(.ops [T (.bin .add (.x 5) (ki 1)), W 5 (.mov (.t 0))])))
def opts_Kinds.s : SFunc := { np := 1, nv := 7, res := [.var 1], code := (.seq (.ops [W 1 (.take (kn 1))])
(.seq (.ops [W 2 (.take (kn 1))])
(.seq (.seq (.ops [W 3 (.mov (.x 0)), W 4 (.len (.x 3)), W 5 (.mov (ki 0))])
(.block 0 (.loop [6] opts_Kinds.l0)))
(.seq (.ops [T (.take (.x 2)), W 1 (.take (.t 0))])
.ret)))) }
def opts_Kinds.m : List Nat := [0, 2, 3, 6, 7, 8, 5]
/-- euphroe/euphroeref21.Same · 0:a/0 1:b/1 2:/4 3:i/5 -/
def euphroeref21_Same.l0 : SCode := (.seq (.ifs [T (.mov (.x 3)), T (.mov (.x 0)), T (.len (.t 0)), T (.bin .lss (.t 2) (.t 0))] (.t 0) .skip (.exit 0))
(.seq (.block 1 (.ifs [T (.mov (.x 0)), T (.mov (.x 3)), T (.ia 2 (.t 1) (.t 0)), T (.load (some 2) (.t 0)), T (.mov (.x 1)), T (.mov (.x 3)), T (.ia 2 (.t 1) (.t 0)), T (.load (some 2) (.t 0)), T (.call false 99 [(.t 4), (.t 0)]), T (.un .not (.t 0))] (.t 0) (.seq (.ops [W 2 (.take (kb false))])
.ret) .skip))
(.ops [T (.mov (.x 3)), T (.bin .add (.t 0) (ki 1)), W 3 (.take (.t 0))])))
def euphroeref21_Same.s : SFunc := { np := 2, nv := 4, res := [.var 2], code := (.seq (.ops [W 2 (.take (kb false))])
(.seq (.ifs [T (.mov (.x 0)), T (.len (.t 0)), T (.mov (.x 1)), T (.len (.t 0)), T (.bin .neq (.t 2) (.t 0))] (.t 0) (.seq (.ops [W 2 (.take (kb false))])
.ret) .skip)
(.seq (.seq (.ops [W 3 (.take (ki 0))])
(.block 0 (.loop [] euphroeref21_Same.l0)))
(.seq (.ops [W 2 (.take (kb true))])
.ret)))) }
def euphroeref21_Same.m : List Nat := [0, 1, 4, 5]
/-- euphroe/opts.Without · 0:l/0 1:kind/1 2:kind/3 3:/4 -/
def opts_Without.s : SFunc := { np := 2, nv := 4, res := [.var 3], code := (.seq (.ops [W 2 (.box false (.x 1)), W 3 (.take (kn 2))])
(.seq (.ops [T (.mov (.x 0)), T (.call true 101 [(.t 0)]), T (.mkf 102 [] [(.x 2)]), T (.call true 100 [(.t 1), (.t 0)]), W 3 (.take (.t 0))])
.ret)) }
def opts_Without.m : List Nat := [0, 1, 3, 4]
/-- euphroe/euphroeref21.Without · 0:l/0 1:kind/1 2:/4 3:out/5 4:i/6 -/
def euphroeref21_Without.l0 : SCode := (.seq (.ifs [T (.mov (.x 4)), T (.mov (.x 0)), T (.len (.t 0)), T (.bin .lss (.t 2) (.t 0))] (.t 0) .skip (.exit 0))
(.seq (.block 1 (.ifs [T (.mov (.x 0)), T (.mov (.x 4)), T (.ia 2 (.t 1) (.t 0)), T (.fa 0 (.t 0)), T (.load none (.t 0)), T (.mov (.x 1)), T (.bin .neq (.t 1) (.t 0))] (.t 0) (.ops [T (.take (.x 3)), T (.mov (.x 0)), T (.mov (.x 4)), T (.ia 2 (.t 1) (.t 0)), T (.load (some 2) (.t 0)), T (.lit 2 [(.t 0)]), T (.app 2 32 (.t 5) (.t 0)), W 3 (.take (.t 0))]) .skip))
(.ops [T (.mov (.x 4)), T (.bin .add (.t 0) (ki 1)), W 4 (.take (.t 0))])))
def euphroeref21_Without.s : SFunc := { np := 2, nv := 5, res := [.var 2], code := (.seq (.ops [W 2 (.take (kn 2))])
(.seq (.ops [W 3 (.take (kn 2))])
(.seq (.seq (.ops [W 4 (.take (ki 0))])
(.block 0 (.loop [] euphroeref21_Without.l0)))
(.seq (.ops [T (.take (.x 3)), W 2 (.take (.t 0))])
.ret)))) }
def euphroeref21_Without.m : List Nat := [0, 1, 4, 5, 6]
/-- euphroe/opts.Among · 0:l/0 1:all/1 2:/4 3:/7 4:/8 5:/9 6:o/6 -/
def opts_Among.l0 : SCode := (.seq (.ifs [T (.bin .lss (.x 5) (.x 4))] (.t 0) .skip (.exit 0))
(.seq (.block 1 (.seq (.ops [T (.ia 2 (.x 3) (.x 5)), T (.load (some 2) (.t 0)), W 6 (.alloc false (.agg [.v (.int .u8 0), .nils 1])), N (.store 2 (.x 6) (.t 1))])
(.ifs [T (.mov (.x 0)), T (.len (.t 0)), T (.bin .gtr (.t 0) (ki 0)), T (.mov (.t 0)), GT 0 true (.mov (.x 0)), GT 1 true (.ia 2 (.t 0) (ki 0)), GT 2 true (.load (some 2) (.t 0)), GT 3 true (.load (some 2) (.x 6)), GT 4 true (.call false 96 [(.t 1), (.t 0)]), T (.pick (.t 5) (.t 0) (kb false))] (.t 0) (.ops [T (.mov (.x 0)), T (.sub 2 (.t 0) (some (ki 1)) none none), W 0 (.take (.t 0))]) .skip)))
(.ops [T (.bin .add (.x 5) (ki 1)), W 5 (.mov (.t 0))])))
def opts_Among.s : SFunc := { np := 2, nv := 7, res := [.var 2], code := (.seq (.ops [W 2 (.take (kb false))])
(.seq (.seq (.ops [W 3 (.mov (.x 1)), W 4 (.len (.x 3)), W 5 (.mov (ki 0))])
(.block 0 (.loop [6] opts_Among.l0)))
(.seq (.ops [T (.mov (.x 0)), T (.len (.t 0)), T (.bin .eql (.t 0) (ki 0)), W 2 (.take (.t 0))])
.ret))) }
def opts_Among.m : List Nat := [0, 1, 4, 7, 8, 9, 6]
/-- euphroe/euphroeref21.Among · 0:l/0 1:all/1 2:/4 3:i/5 -/
def euphroeref21_Among.l0 : SCode := (.seq (.ifs [T (.mov (.x 3)), T (.mov (.x 1)), T (.len (.t 0)), T (.bin .lss (.t 2) (.t 0))] (.t 0) .skip (.exit 0))
(.seq (.block 1 (.ifs [T (.mov (.x 0)), T (.ia 2 (.t 0) (ki 0)), T (.load (some 2) (.t 0)), T (.mov (.x 1)), T (.mov (.x 3)), T (.ia 2 (.t 1) (.t 0)), T (.load (some 2) (.t 0)), T (.call false 99 [(.t 4), (.t 0)])] (.t 0) (.seq (.ops [T (.mov (.x 0)), T (.sub 2 (.t 0) (some (ki 1)) none none), T (.mov (.x 1)), T (.mov (.x 3)), T (.bin .add (.t 0) (ki 1)), T (.sub 2 (.t 2) (some (.t 0)) none none), T (.call false 66 [(.t 4), (.t 0)]), W 2 (.take (.t 0))])
.ret) .skip))
(.ops [T (.mov (.x 3)), T (.bin .add (.t 0) (ki 1)), W 3 (.take (.t 0))])))
def euphroeref21_Among.s : SFunc := { np := 2, nv := 4, res := [.var 2], code := (.seq (.ops [W 2 (.take (kb false))])
(.seq (.ifs [T (.mov (.x 0)), T (.len (.t 0)), T (.bin .eql (.t 0) (ki 0))] (.t 0) (.seq (.ops [W 2 (.take (kb true))])
.ret) .skip)
(.seq (.seq (.ops [W 3 (.take (ki 0))])
(.block 0 (.loop [] euphroeref21_Among.l0)))
(.seq (.ops [W 2 (.take (kb false))])
.ret)))) }
def euphroeref21_Among.m : List Nat := [0, 1, 4, 5]
/-- bytes.Clone · 0:b/0 1:/2 -/
def bytes_Clone.s : SFunc := { np := 1, nv := 2, res := [.var 1], code := (.nilc 1 0 1 1 (.seq (.ops [W 1 (.take (kn 1))])
(.seq (.ifs [T (.mov (.x 0)), T (.eq .s false (.t 0) (kn 1))] (.t 0) (.seq (.ops [W 1 (.take (kn 1))])
.ret) .skip)
(.seq (.ops [T (.lit 1 []), T (.mov (.x 0)), T (.app 1 1 (.t 1) (.t 0)), W 1 (.take (.t 0))])
.ret)))) }
def bytes_Clone.m : List Nat := [0, 2]
/-- bytes.Equal · 0:a/0 1:b/1 2:/4 -/
def bytes_Equal.s : SFunc := { np := 2, nv := 3, res := [.var 2], code := (.seq (.ops [W 2 (.take (kb false))])
(.seq (.ops [T (.mov (.x 0)), T (.b2s (.t 0)), T (.mov (.x 1)), T (.b2s (.t 0)), T (.bin .eql (.t 2) (.t 0)), W 2 (.take (.t 0))])
.ret)) }
def bytes_Equal.m : List Nat := [0, 1, 4]
/-- euphroe/opts.first · 0:b/0 1:/2 2:/3 3:/4 4:n/5 -/
def opts_first.s : SFunc := { np := 1, nv := 5, res := [.cell (some 2) 1, .var 2, .var 3], code := (.seq (.ops [W 1 (.alloc false (.agg [.v (.int .u8 0), .nils 1])), W 2 (.take (ki 0)), W 3 (.take (ki 0))])
(.seq (.ifs [T (.mov (.x 0)), T (.len (.t 0)), T (.bin .lss (.t 0) (ki 2))] (.t 0) (.seq (.ops [T (.build [.v (.int .u8 0), .nils 1] []), N (.store 2 (.x 1) (.t 0)), W 2 (.take (ki 0)), W 3 (.take (ki 4))])
.ret) .skip)
(.seq (.ops [T (.mov (.x 0)), T (.ia 1 (.t 0) (ki 1)), T (.load none (.t 0)), T (.cvi .i64 (.t 0)), W 4 (.take (.t 0))])
(.seq (.block 0 (.ifs [T (.mov (.x 4)), T (.bin .lss (.t 0) (ki 2)), T (.take (.t 0))] (.t 0) (.seq (.ops [T (.build [.v (.int .u8 0), .nils 1] []), N (.store 2 (.x 1) (.t 0)), W 2 (.take (ki 0)), W 3 (.take (ki 3))])
.ret) (.ifs [T (.mov (.x 0)), T (.len (.t 0)), T (.mov (.x 4)), T (.bin .lss (.t 1) (.t 0)), T (.take (.t 0))] (.t 0) (.seq (.ops [T (.build [.v (.int .u8 0), .nils 1] []), N (.store 2 (.x 1) (.t 0)), W 2 (.take (ki 0)), W 3 (.take (ki 4))])
.ret) .skip)))
(.seq (.ops [T (.mov (.x 0)), T (.ia 1 (.t 0) (ki 0)), T (.load none (.t 0)), T (.mov (.x 0)), T (.mov (.x 4)), T (.sub 1 (.t 1) (some (ki 2)) (some (.t 0)) none), T (.call false 89 [(.t 0)]), T (.build [.v (.int .u8 0), .nils 1] [(0, 1, (.t 4)), (1, 1, (.t 0))]), T (.take (.x 4)), N (.store 2 (.x 1) (.t 1)), W 2 (.take (.t 1)), W 3 (.take (ki 0))])
.ret))))) }
def opts_first.m : List Nat := [0, 2, 3, 4, 5]
/-- slices.EqualFunc[[]euphroe/api.Option,[]euphroe/api.Option,euphroe/api.Option,euphroe/api.Option] · 0:s1/0 1:s2/1 2:eq/2 3:/6 4:/15 5:/16 6:/17 7:v1/8 8:i/7 9:v2/9 -/
def slices_EqualFunc_api_Option.l0 : SCode := (.seq (.ifs [T (.bin .lss (.x 6) (.x 5))] (.t 0) .skip (.exit 0))
(.seq (.block 1 (.seq (.ops [T (.mov (.x 6)), T (.ia 2 (.x 4) (.x 6)), T (.load (some 2) (.t 0)), W 7 (.alloc false (.agg [.v (.int .u8 0), .nils 1])), W 8 (.take (.t 3)), N (.store 2 (.x 7) (.t 2))])
(.seq (.ops [T (.mov (.x 1)), T (.mov (.x 8)), T (.ia 2 (.t 1) (.t 0)), T (.load (some 2) (.t 0)), W 9 (.alloc false (.agg [.v (.int .u8 0), .nils 1])), N (.store 2 (.x 9) (.t 1))])
(.ifs [T (.mov (.x 2)), T (.load (some 2) (.x 7)), T (.load (some 2) (.x 9)), T (.callv (.t 2) [(.t 1), (.t 0)]), T (.un .not (.t 0))] (.t 0) (.seq (.ops [W 3 (.take (kb false))])
.ret) .skip))))
(.ops [T (.bin .add (.x 6) (ki 1)), W 6 (.mov (.t 0))])))
def slices_EqualFunc_api_Option.s : SFunc := { np := 3, nv := 10, res := [.var 3], code := (.seq (.ops [W 3 (.take (kb false))])
(.seq (.ifs [T (.mov (.x 0)), T (.len (.t 0)), T (.mov (.x 1)), T (.len (.t 0)), T (.bin .neq (.t 2) (.t 0))] (.t 0) (.seq (.ops [W 3 (.take (kb false))])
.ret) .skip)
(.seq (.seq (.ops [W 4 (.mov (.x 0)), W 5 (.len (.x 4)), W 6 (.mov (ki 0))])
(.block 0 (.loop [7, 8, 9] slices_EqualFunc_api_Option.l0)))
(.seq (.ops [W 3 (.take (kb true))])
.ret)))) }
def slices_EqualFunc_api_Option.m : List Nat := [0, 1, 2, 6, 15, 16, 17, 8, 7, 9]
/-- euphroe/opts.same · 0:a/0 1:b/1 2:a/2 3:b/3 4:/4 -/
def opts_same.s : SFunc := { np := 2, nv := 5, res := [.var 4], code := (.seq (.ops [W 2 (.box false (.x 0)), W 3 (.box false (.x 1)), W 4 (.take (kb false))])
(.seq (.ops [T (.fa 0 (.x 2)), T (.load none (.t 0)), T (.fa 0 (.x 3)), T (.load none (.t 0)), T (.bin .eql (.t 2) (.t 0)), T (.mov (.t 0)), GT 0 true (.fa 1 (.x 2)), GT 1 true (.load none (.t 0)), GT 2 true (.fa 1 (.x 3)), GT 3 true (.load none (.t 0)), GT 4 true (.call false 91 [(.t 2), (.t 0)]), T (.pick (.t 5) (.t 0) (kb false)), W 4 (.take (.t 0))])
.ret)) }
def opts_same.m : List Nat := [0, 1, 2, 3, 4]
/-- slices.IndexFunc[[]euphroe/api.Option,euphroe/api.Option] · 0:s/0 1:f/1 2:/4 3:/7 4:/8 5:i/5 -/
def slices_IndexFunc_api_Option.l0 : SCode := (.seq (.ifs [T (.bin .lss (.x 4) (.x 3))] (.t 0) .skip (.exit 0))
(.seq (.block 1 (.seq (.ops [T (.mov (.x 4)), W 5 (.take (.t 0))])
(.ifs [T (.mov (.x 1)), T (.mov (.x 0)), T (.mov (.x 5)), T (.ia 2 (.t 1) (.t 0)), T (.load (some 2) (.t 0)), T (.callv (.t 4) [(.t 0)])] (.t 0) (.seq (.ops [T (.take (.x 5)), W 2 (.take (.t 0))])
.ret) .skip)))
(.ops [T (.bin .add (.x 4) (ki 1)), W 4 (.mov (.t 0))])))
def slices_IndexFunc_api_Option.s : SFunc := { np := 2, nv := 6, res := [.var 2], code := (.seq (.ops [W 2 (.take (ki 0))])
(.seq (.seq (.ops [T (.mov (.x 0)), W 3 (.len (.t 0)), W 4 (.mov (ki 0))])
(.block 0 (.loop [5] slices_IndexFunc_api_Option.l0)))
(.seq (.ops [W 2 (.take (ki (-1)))])
.ret))) }
def slices_IndexFunc_api_Option.m : List Nat := [0, 1, 4, 7, 8, 5]
/-- euphroe/opts.Find$1 · 0:o/0 1:/1 2:o/2 3:/3 -/
def opts_Find_1.s : SFunc := { np := 2, nv := 4, res := [.var 3], code := (.seq (.ops [W 2 (.box false (.x 0)), W 3 (.take (kb false))])
(.seq (.ops [T (.fa 0 (.x 2)), T (.load none (.t 0)), T (.load none (.x 1)), T (.bin .eql (.t 1) (.t 0)), W 3 (.take (.t 0))])
.ret)) }
def opts_Find_1.m : List Nat := [0, 1, 2, 3]
/-- euphroe/euphroeref21.one · 0:a/0 1:b/1 2:a/2 3:b/3 4:/4 -/
def euphroeref21_one.s : SFunc := { np := 2, nv := 5, res := [.var 4], code := (.seq (.ops [W 2 (.box false (.x 0)), W 3 (.box false (.x 1)), W 4 (.take (kb false))])
(.seq (.ops [T (.fa 0 (.x 2)), T (.load none (.t 0)), T (.fa 0 (.x 3)), T (.load none (.t 0)), T (.bin .eql (.t 2) (.t 0)), T (.mov (.t 0)), GT 0 true (.fa 1 (.x 2)), GT 1 true (.load none (.t 0)), GT 2 true (.fa 1 (.x 3)), GT 3 true (.load none (.t 0)), GT 4 true (.call false 40 [(.t 2), (.t 0)]), T (.pick (.t 5) (.t 0) (kb false)), W 4 (.take (.t 0))])
.ret)) }
def euphroeref21_one.m : List Nat := [0, 1, 2, 3, 4]
/-- slices.DeleteFunc[[]euphroe/api.Option,euphroe/api.Option] · 0:s/0 1:del/1 2:/4 3:i/5 4:j/6 5:v/7 -/
def slices_DeleteFunc_api_Option.l0 : SCode := (.seq (.ifs [T (.mov (.x 4)), T (.mov (.x 0)), T (.len (.t 0)), T (.bin .lss (.t 2) (.t 0))] (.t 0) .skip (.exit 0))
(.seq (.block 1 (.seq (.ops [T (.mov (.x 0)), T (.mov (.x 4)), T (.ia 2 (.t 1) (.t 0)), T (.load (some 2) (.t 0)), W 5 (.alloc false (.agg [.v (.int .u8 0), .nils 1])), N (.store 2 (.x 5) (.t 1))])
(.ifs [T (.mov (.x 1)), T (.load (some 2) (.x 5)), T (.callv (.t 1) [(.t 0)]), T (.un .not (.t 0))] (.t 0) (.seq (.ops [T (.mov (.x 0)), T (.mov (.x 3)), T (.load (some 2) (.x 5)), T (.ia 2 (.t 2) (.t 1)), N (.store 2 (.t 0) (.t 1))])
(.ops [T (.mov (.x 3)), T (.bin .add (.t 0) (ki 1)), W 3 (.take (.t 0))])) .skip)))
(.ops [T (.mov (.x 4)), T (.bin .add (.t 0) (ki 1)), W 4 (.take (.t 0))])))
def slices_DeleteFunc_api_Option.s : SFunc := { np := 2, nv := 6, res := [.var 2], code := (.seq (.ops [W 2 (.take (kn 2))])
(.seq (.ops [T (.mov (.x 0)), T (.mov (.x 1)), T (.call true 97 [(.t 1), (.t 0)]), W 3 (.take (.t 0))])
(.seq (.ifs [T (.mov (.x 3)), T (.bin .eql (.t 0) (ki (-1)))] (.t 0) (.seq (.ops [T (.take (.x 0)), W 2 (.take (.t 0))])
.ret) .skip)
(.seq (.seq (.ops [T (.mov (.x 3)), T (.bin .add (.t 0) (ki 1)), W 4 (.take (.t 0))])
(.block 0 (.loop [5] slices_DeleteFunc_api_Option.l0)))
(.seq (.ops [T (.mov (.x 0)), T (.mov (.x 3)), T (.sub 2 (.t 1) (some (.t 0)) none none), N (.clr 2 (.agg [.v (.int .u8 0), .nils 1]) (.t 0))])
(.seq (.ops [T (.mov (.x 0)), T (.mov (.x 3)), T (.sub 2 (.t 1) none (some (.t 0)) none), W 2 (.take (.t 0))])
.ret)))))) }
def slices_DeleteFunc_api_Option.m : List Nat := [0, 1, 4, 5, 6, 7]
/-- slices.Clone[[]euphroe/api.Option,euphroe/api.Option] · 0:s/0 1:/2 -/
def slices_Clone_api_Option.s : SFunc := { np := 1, nv := 2, res := [.var 1], code := (.nilc 1 0 2 32 (.seq (.ops [W 1 (.take (kn 2))])
(.seq (.ifs [T (.mov (.x 0)), T (.eq .s false (.t 0) (kn 2))] (.t 0) (.seq (.ops [W 1 (.take (kn 2))])
.ret) .skip)
(.seq (.clone 1 0 2 32)
.ret)))) }
def slices_Clone_api_Option.m : List Nat := [0, 2]
/-- euphroe/opts.Without$1 · 0:o/0 1:/1 2:o/2 3:/3 -/
def opts_Without_1.s : SFunc := { np := 2, nv := 4, res := [.var 3], code := (.seq (.ops [W 2 (.box false (.x 0)), W 3 (.take (kb false))])
(.seq (.ops [T (.fa 0 (.x 2)), T (.load none (.t 0)), T (.load none (.x 1)), T (.bin .eql (.t 1) (.t 0)), W 3 (.take (.t 0))])
.ret)) }
def opts_Without_1.m : List Nat := [0, 1, 2, 3]
def fns : List (Nat × SFunc × List Nat) := [(9, euphroelaw21_OptsLays.s, euphroelaw21_OptsLays.m), (10, euphroelaw21_OptsAsks.s, euphroelaw21_OptsAsks.m), (40, euphroeref01_Same.s, euphroeref01_Same.m), (51, euphroelaw21_far.s, euphroelaw21_far.m), (52, euphroelaw21_alive.s, euphroelaw21_alive.m), (53, opts_Lay.s, opts_Lay.m), (54, euphroelaw21_theirs.s, euphroelaw21_theirs.m), (55, euphroeref21_Lay.s, euphroeref21_Lay.m), (56, opts_Parse.s, opts_Parse.m), (57, euphroeref21_Parse.s, euphroeref21_Parse.m), (58, opts_Same.s, opts_Same.m), (59, opts_Find.s, opts_Find.m), (60, euphroeref21_Find.s, euphroeref21_Find.m), (61, opts_Kinds.s, opts_Kinds.m), (62, euphroeref21_Same.s, euphroeref21_Same.m), (63, opts_Without.s, opts_Without.m), (64, euphroeref21_Without.s, euphroeref21_Without.m), (65, opts_Among.s, opts_Among.m), (66, euphroeref21_Among.s, euphroeref21_Among.m), (89, bytes_Clone.s, bytes_Clone.m), (91, bytes_Equal.s, bytes_Equal.m), (94, opts_first.s, opts_first.m), (95, slices_EqualFunc_api_Option.s, slices_EqualFunc_api_Option.m), (96, opts_same.s, opts_same.m), (97, slices_IndexFunc_api_Option.s, slices_IndexFunc_api_Option.m), (98, opts_Find_1.s, opts_Find_1.m), (99, euphroeref21_one.s, euphroeref21_one.m), (100, slices_DeleteFunc_api_Option.s, slices_DeleteFunc_api_Option.m), (101, slices_Clone_api_Option.s, slices_Clone_api_Option.m), (102, opts_Without_1.s, opts_Without_1.m)]
abbrev euphroelaw21_OptsLays.n : Nat := 9
abbrev euphroelaw21_OptsAsks.n : Nat := 10
abbrev euphroeref01_Same.n : Nat := 40
abbrev euphroelaw21_far.n : Nat := 51
abbrev euphroelaw21_alive.n : Nat := 52
abbrev opts_Lay.n : Nat := 53
abbrev euphroelaw21_theirs.n : Nat := 54
abbrev euphroeref21_Lay.n : Nat := 55
abbrev opts_Parse.n : Nat := 56
abbrev euphroeref21_Parse.n : Nat := 57
abbrev opts_Same.n : Nat := 58
abbrev opts_Find.n : Nat := 59
abbrev euphroeref21_Find.n : Nat := 60
abbrev opts_Kinds.n : Nat := 61
abbrev euphroeref21_Same.n : Nat := 62
abbrev opts_Without.n : Nat := 63
abbrev euphroeref21_Without.n : Nat := 64
abbrev opts_Among.n : Nat := 65
abbrev euphroeref21_Among.n : Nat := 66
abbrev bytes_Clone.n : Nat := 89
abbrev bytes_Equal.n : Nat := 91
abbrev opts_first.n : Nat := 94
abbrev slices_EqualFunc_api_Option.n : Nat := 95
abbrev opts_same.n : Nat := 96
abbrev slices_IndexFunc_api_Option.n : Nat := 97
abbrev opts_Find_1.n : Nat := 98
abbrev euphroeref21_one.n : Nat := 99
abbrev slices_DeleteFunc_api_Option.n : Nat := 100
abbrev slices_Clone_api_Option.n : Nat := 101
abbrev opts_Without_1.n : Nat := 102
end Go.Q
