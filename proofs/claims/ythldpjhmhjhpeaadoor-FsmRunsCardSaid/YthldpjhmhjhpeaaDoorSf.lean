/- The slim code of the functions, written by a program of ours. No condition. -/
import Derived.Test.YthldpjhmhjhpeaaDoorEpd
set_option maxRecDepth 100000
namespace Go.Q
open SOp SCode
/-- euphroe/euphroelaw23.FsmNext · 0:s/0 1:e/1 2:/4 3:n/5 4:a/6 5:f/7 6:m/8 7:b/9 8:g/10 9:timed/13 -/
def euphroelaw23_FsmNext.s : SFunc := { np := 2, nv := 10, res := [.var 2], code := (.seq (.ops [W 2 (.take (kb false))])
(.seq (.ops [T (.mov (.x 0)), T (.mov (.x 1)), T (.call false 13 [(.t 1), (.t 0)]), T (.take (.t 0)), T (.ext 0 (.t 0)), T (.ext 1 (.t 1)), T (.ext 2 (.t 2)), W 3 (.take (.t 2)), W 4 (.take (.t 2)), W 5 (.take (.t 2))])
(.seq (.ops [T (.mov (.x 0)), T (.mov (.x 1)), T (.call false 14 [(.t 1), (.t 0)]), T (.take (.t 0)), T (.ext 0 (.t 0)), T (.ext 1 (.t 1)), T (.ext 2 (.t 2)), W 6 (.take (.t 2)), W 7 (.take (.t 2)), W 8 (.take (.t 2))])
(.seq (.ops [T (.mov (.x 0)), T (.call false 14 [(.t 0), (ki 4)]), T (.take (.t 0)), T (.ext 0 (.t 0)), T (.ext 1 (.t 1)), T (.ext 2 (.t 2)), T (.take (.t 2)), T (.take (.t 2)), W 9 (.take (.t 2))])
(.seq (.ops [T (.mov (.x 3)), T (.mov (.x 6)), T (.bin .eql (.t 1) (.t 0)), T (.mov (.t 0)), GT 0 true (.mov (.x 4)), GT 1 true (.mov (.x 7)), GT 2 true (.call false 15 [(.t 1), (.t 0)]), T (.pick (.t 3) (.t 0) (kb false)), T (.mov (.t 0)), GT 0 true (.mov (.x 5)), GT 1 true (.mov (.x 8)), GT 2 true (.bin .eql (.t 1) (.t 0)), T (.pick (.t 3) (.t 0) (kb false)), T (.mov (.t 0)), GT 0 true (.mov (.x 0)), GT 1 true (.call false 16 [(.t 0)]), GT 2 true (.mov (.x 0)), GT 3 true (.call false 17 [(.t 0)]), GT 4 true (.bin .eql (.t 2) (.t 0)), T (.pick (.t 5) (.t 0) (kb false)), T (.mov (.t 0)), GT 0 true (.mov (.x 0)), GT 1 true (.call false 18 [(.t 0)]), GT 2 true (.mov (.x 9)), GT 3 true (.bin .eql (.t 0) (ki 0)), GT 4 true (.eq .b false (.t 2) (.t 0)), T (.pick (.t 5) (.t 0) (kb false)), T (.mov (.t 0)), GT 0 true (.call false 19 []), T (.pick (.t 1) (.t 0) (kb false)), W 2 (.take (.t 0))])
.ret))))) }
def euphroelaw23_FsmNext.m : List Nat := [0, 1, 4, 5, 6, 7, 8, 9, 10, 13]
/-- euphroe/euphroelaw23.FsmLayers · 0:s/0 1:l/1 2:/4 3:at/5 4:/21 5:/22 6:/23 7:e/7 8:n/8 9:a/9 10:bad/10 11:up/11 12:down/12 13:req/13 14:/36 15:/37 16:/38 17:x/15 -/
def euphroelaw23_FsmLayers.l1 : SCode := (.seq (.ifs [T (.bin .lss (.x 16) (.x 15))] (.t 0) .skip (.exit 2))
(.seq (.block 3 (.seq (.ops [T (.ia 1 (.x 14) (.x 16)), T (.load none (.t 0)), W 17 (.take (.t 0))])
(.seq (.ops [T (.mov (.x 11)), T (.mov (.t 0)), GT 0 false (.mov (.x 17)), GT 1 false (.bin .eql (.t 0) (ki 1)), T (.pick (.t 2) (kb true) (.t 0)), W 11 (.take (.t 0))])
(.seq (.ops [T (.mov (.x 12)), T (.mov (.t 0)), GT 0 false (.mov (.x 17)), GT 1 false (.bin .eql (.t 0) (ki 2)), T (.pick (.t 2) (kb true) (.t 0)), W 12 (.take (.t 0))])
(.ops [T (.mov (.x 13)), T (.mov (.t 0)), GT 0 false (.mov (.x 17)), GT 1 false (.bin .eql (.t 0) (ki 7)), T (.pick (.t 2) (kb true) (.t 0)), W 13 (.take (.t 0))])))))
(.ops [T (.bin .add (.x 16) (ki 1)), W 16 (.mov (.t 0))])))
def euphroelaw23_FsmLayers.l0 : SCode := (.seq (.ifs [T (.bin .lss (.x 6) (.x 5))] (.t 0) .skip (.exit 0))
(.seq (.block 1 (.seq (.ops [T (.ia 1 (.x 4) (.x 6)), T (.load none (.t 0)), W 7 (.take (.t 0))])
(.seq (.ops [T (.mov (.x 3)), T (.mov (.x 7)), T (.call false 13 [(.t 1), (.t 0)]), T (.take (.t 0)), T (.ext 0 (.t 0)), T (.ext 1 (.t 1)), T (.ext 2 (.t 2)), W 8 (.take (.t 2)), W 9 (.take (.t 2)), W 10 (.take (.t 2))])
(.seq (.ifs [T (.mov (.x 10)), T (.bin .neq (.t 0) (ki 0))] (.t 0) (.exit 1) .skip)
(.seq (.ops [W 11 (.take (kb false)), W 12 (.take (kb false)), W 13 (.take (kb false))])
(.seq (.seq (.ops [W 14 (.mov (.x 9)), W 15 (.len (.x 14)), W 16 (.mov (ki 0))])
(.block 2 (.loop [17] euphroelaw23_FsmLayers.l1)))
(.seq (.ifs [T (.mov (.x 11)), T (.mov (.x 8)), T (.bin .eql (.t 0) (ki 9)), T (.mov (.t 0)), GT 0 true (.mov (.x 3)), GT 1 true (.bin .neq (.t 0) (ki 9)), T (.pick (.t 2) (.t 0) (kb false)), T (.eq .b true (.t 6) (.t 0)), T (.mov (.t 0)), GT 0 false (.mov (.x 12)), GT 1 false (.mov (.x 3)), GT 2 false (.bin .eql (.t 0) (ki 9)), GT 3 false (.mov (.t 0)), GT 0 true (.mov (.x 8)), GT 1 true (.bin .neq (.t 0) (ki 9)), GT 6 false (.pick (.t 2) (.t 0) (kb false)), GT 7 false (.eq .b true (.t 6) (.t 0)), T (.pick (.t 8) (kb true) (.t 0)), T (.mov (.t 0)), GT 0 false (.mov (.x 13)), GT 1 false (.mov (.t 0)), GT 0 true (.mov (.x 8)), GT 1 true (.bin .neq (.t 0) (ki 6)), GT 4 false (.pick (.t 2) (.t 0) (kb false)), GT 5 false (.mov (.t 0)), GT 0 true (.mov (.x 8)), GT 1 true (.bin .neq (.t 0) (ki 8)), GT 8 false (.pick (.t 2) (.t 0) (kb false)), T (.pick (.t 9) (kb true) (.t 0))] (.t 0) (.seq (.ops [W 2 (.take (kb false))])
.ret) .skip)
(.ops [T (.mov (.x 8)), W 3 (.take (.t 0))]))))))))
(.ops [T (.bin .add (.x 6) (ki 1)), W 6 (.mov (.t 0))])))
def euphroelaw23_FsmLayers.s : SFunc := { np := 2, nv := 18, res := [.var 2], code := (.seq (.ops [W 2 (.take (kb false))])
(.seq (.ifs [T (.mov (.x 1)), T (.len (.t 0)), T (.bin .gtr (.t 0) (ki 200))] (.t 0) (.seq (.ops [T (.call false 19 []), W 2 (.take (.t 0))])
.ret) .skip)
(.seq (.ops [T (.mov (.x 0)), W 3 (.take (.t 0))])
(.seq (.seq (.ops [W 4 (.mov (.x 1)), W 5 (.len (.x 4)), W 6 (.mov (ki 0))])
(.block 0 (.loop [7, 8, 9, 10, 11, 12, 13, 14, 15, 16, 17] euphroelaw23_FsmLayers.l0)))
(.seq (.ops [T (.call false 19 []), W 2 (.take (.t 0))])
.ret))))) }
def euphroelaw23_FsmLayers.m : List Nat := [0, 1, 4, 5, 21, 22, 23, 7, 8, 9, 10, 11, 12, 13, 36, 37, 38, 15]
/-- euphroe/euphroelaw23.FsmRuns · 0:s/0 1:to/1 2:l/2 3:/6 4:k/7 5:/21 6:/22 7:/23 8:e/9 9:n/10 10:a/11 11:done/12 12:m/13 13:b/14 14:want/15 15:reaches/16 -/
def euphroelaw23_FsmRuns.l0 : SCode := (.seq (.ifs [T (.bin .lss (.x 7) (.x 6))] (.t 0) .skip (.exit 0))
(.seq (.block 1 (.seq (.ops [T (.ia 1 (.x 5) (.x 7)), T (.load none (.t 0)), W 8 (.take (.t 0))])
(.ops [T (.take (.x 4)), T (.mov (.x 8)), T (.lit 1 [(.t 0)]), T (.app 1 8 (.t 2) (.t 0)), W 4 (.take (.t 0))])))
(.ops [T (.bin .add (.x 7) (ki 1)), W 7 (.mov (.t 0))])))
def euphroelaw23_FsmRuns.s : SFunc := { np := 3, nv := 16, res := [.var 3], code := (.seq (.ops [W 3 (.take (kb false))])
(.seq (.ifs [T (.mov (.x 2)), T (.len (.t 0)), T (.bin .gtr (.t 0) (ki 200))] (.t 0) (.seq (.ops [T (.call false 19 []), W 3 (.take (.t 0))])
.ret) .skip)
(.seq (.ops [W 4 (.take (kn 1))])
(.seq (.seq (.ops [W 5 (.mov (.x 2)), W 6 (.len (.x 5)), W 7 (.mov (ki 0))])
(.block 0 (.loop [8] euphroelaw23_FsmRuns.l0)))
(.seq (.ops [T (.mov (.x 0)), T (.mov (.x 4)), T (.call false 20 [(.t 1), (.t 0)]), T (.take (.t 0)), T (.ext 0 (.t 0)), T (.ext 1 (.t 1)), T (.ext 2 (.t 2)), W 9 (.take (.t 2)), W 10 (.take (.t 2)), W 11 (.take (.t 2))])
(.seq (.ops [T (.mov (.x 0)), T (.mov (.x 2)), T (.call false 21 [(.t 1), (.t 0)]), T (.take (.t 0)), T (.ext 0 (.t 0)), T (.ext 1 (.t 1)), T (.ext 2 (.t 2)), W 12 (.take (.t 2)), W 13 (.take (.t 2)), W 14 (.take (.t 2))])
(.seq (.ops [T (.mov (.x 1)), T (.bin .geq (.t 0) (ki 0)), T (.mov (.t 0)), GT 0 true (.mov (.x 1)), GT 1 true (.bin .leq (.t 0) (ki 9)), T (.pick (.t 2) (.t 0) (kb false)), T (.mov (.t 0)), GT 0 true (.mov (.x 0)), GT 1 true (.call false 22 [(.t 0)]), GT 2 true (.mov (.x 1)), GT 3 true (.mn (.t 0) (ki 9)), GT 4 true (.mx (ki 0) (.t 0)), GT 5 true (.idxA 10 1 none (.t 3) (.t 0)), T (.pick (.t 6) (.t 0) (kb false)), W 15 (.take (.t 0))])
(.seq (.ops [T (.mov (.x 9)), T (.mov (.x 12)), T (.bin .eql (.t 1) (.t 0)), T (.mov (.t 0)), GT 0 true (.mov (.x 10)), GT 1 true (.mov (.x 13)), GT 2 true (.call false 15 [(.t 1), (.t 0)]), T (.pick (.t 3) (.t 0) (kb false)), T (.mov (.t 0)), GT 0 true (.mov (.x 11)), GT 1 true (.mov (.x 14)), GT 2 true (.bin .eql (.t 1) (.t 0)), T (.pick (.t 3) (.t 0) (kb false)), T (.mov (.t 0)), GT 0 true (.mov (.x 0)), GT 1 true (.mov (.x 1)), GT 2 true (.call false 23 [(.t 1), (.t 0)]), GT 3 true (.mov (.x 15)), GT 4 true (.eq .b false (.t 1) (.t 0)), T (.pick (.t 5) (.t 0) (kb false)), T (.mov (.t 0)), GT 0 true (.call false 19 []), T (.pick (.t 1) (.t 0) (kb false)), W 3 (.take (.t 0))])
.ret)))))))) }
def euphroelaw23_FsmRuns.m : List Nat := [0, 1, 2, 6, 7, 21, 22, 23, 9, 10, 11, 12, 13, 14, 15, 16]
/-- euphroe/euphroelaw23.FsmCloses · 0:s/0 1:l/1 2:/4 3:k/5 4:/21 5:/22 6:/23 7:e/7 8:n/8 9:m/11 10:e/13 11:g/14 12:f/16 -/
def euphroelaw23_FsmCloses.l0 : SCode := (.seq (.ifs [T (.bin .lss (.x 6) (.x 5))] (.t 0) .skip (.exit 0))
(.seq (.block 1 (.seq (.ops [T (.ia 1 (.x 4) (.x 6)), T (.load none (.t 0)), W 7 (.take (.t 0))])
(.ops [T (.take (.x 3)), T (.mov (.x 7)), T (.lit 1 [(.t 0)]), T (.app 1 8 (.t 2) (.t 0)), W 3 (.take (.t 0))])))
(.ops [T (.bin .add (.x 6) (ki 1)), W 6 (.mov (.t 0))])))
def euphroelaw23_FsmCloses.s : SFunc := { np := 2, nv := 13, res := [.var 2], code := (.seq (.ops [W 2 (.take (kb false))])
(.seq (.ifs [T (.mov (.x 1)), T (.len (.t 0)), T (.bin .gtr (.t 0) (ki 200))] (.t 0) (.seq (.ops [T (.call false 19 []), W 2 (.take (.t 0))])
.ret) .skip)
(.seq (.ops [W 3 (.take (kn 1))])
(.seq (.seq (.ops [W 4 (.mov (.x 1)), W 5 (.len (.x 4)), W 6 (.mov (ki 0))])
(.block 0 (.loop [7] euphroelaw23_FsmCloses.l0)))
(.seq (.ops [T (.mov (.x 0)), T (.mov (.x 3)), T (.call false 20 [(.t 1), (.t 0)]), T (.take (.t 0)), T (.ext 0 (.t 0)), T (.ext 1 (.t 1)), T (.ext 2 (.t 2)), W 8 (.take (.t 2)), T (.take (.t 2)), T (.take (.t 2))])
(.seq (.ops [T (.mov (.x 8)), T (.call false 13 [(.t 0), (ki 3)]), T (.take (.t 0)), T (.ext 0 (.t 0)), T (.ext 1 (.t 1)), T (.ext 2 (.t 2)), W 9 (.take (.t 2)), T (.take (.t 2)), W 10 (.take (.t 2))])
(.seq (.seq (.ops [T (.mov (.x 9)), T (.call false 13 [(.t 0), (ki 5)]), T (.take (.t 0)), T (.ext 0 (.t 0)), T (.ext 1 (.t 1)), T (.ext 2 (.t 2)), W 11 (.take (.t 2)), T (.take (.t 2)), W 12 (.take (.t 2))])
(.ifs [T (.mov (.x 12)), T (.bin .eql (.t 0) (ki 0))] (.t 0) (.ops [T (.mov (.x 11)), W 9 (.take (.t 0))]) .skip))
(.seq (.ops [T (.mov (.x 10)), T (.bin .eql (.t 0) (ki 0)), T (.mov (.t 0)), GT 0 true (.mov (.x 9)), GT 1 true (.bin .eql (.t 0) (ki 0)), GT 2 true (.mov (.t 0)), GT 0 false (.mov (.x 9)), GT 1 false (.bin .eql (.t 0) (ki 2)), GT 5 true (.pick (.t 2) (kb true) (.t 0)), T (.pick (.t 6) (.t 0) (kb false)), T (.mov (.t 0)), GT 0 true (.mov (.x 9)), GT 1 true (.call false 18 [(.t 0)]), GT 2 true (.un .not (.t 0)), T (.pick (.t 3) (.t 0) (kb false)), T (.mov (.t 0)), GT 0 true (.mov (.x 8)), GT 1 true (.mov (.x 9)), GT 2 true (.call false 23 [(.t 1), (.t 0)]), T (.pick (.t 3) (.t 0) (kb false)), T (.mov (.t 0)), GT 0 true (.call false 19 []), T (.pick (.t 1) (.t 0) (kb false)), W 2 (.take (.t 0))])
.ret)))))))) }
def euphroelaw23_FsmCloses.m : List Nat := [0, 1, 4, 5, 21, 22, 23, 7, 8, 11, 13, 14, 16]
/-- euphroe/fsm.Next · 0:s/0 1:e/1 2:/4 3:/5 4:/6 5:cell/7 6:l/8 7:done/9 8:/38 9:/39 10:/40 11:w/11 -/
def fsm_Next.l0 : SCode := (.seq (.ifs [T (.bin .lss (.x 10) (.x 9))] (.t 0) .skip (.exit 0))
(.seq (.block 1 (.seq (.ops [T (.ia 1 (.x 8) (.x 10)), T (.load none (.t 0)), W 11 (.take (.t 0))])
(.ops [T (.take (.x 7)), T (.mov (.x 11)), T (.call false 53 [(.t 0)]), T (.lit 1 [(.t 0)]), T (.app 1 8 (.t 3) (.t 0)), W 7 (.take (.t 0))])))
(.ops [T (.bin .add (.x 10) (ki 1)), W 10 (.mov (.t 0))])))
def fsm_Next.s : SFunc := { np := 2, nv := 12, res := [.var 2, .var 3, .var 4], code := (.seq (.ops [W 2 (.take (ki 0)), W 3 (.take (kn 1)), W 4 (.take (ki 0))])
(.seq (.ifs [T (.mov (.x 0)), T (.call false 50 [(.t 0)]), T (.un .not (.t 0)), T (.mov (.t 0)), GT 0 false (.mov (.x 1)), GT 1 false (.bin .lss (.t 0) (ki 0)), T (.pick (.t 2) (kb true) (.t 0)), T (.mov (.t 0)), GT 0 false (.mov (.x 1)), GT 1 false (.bin .gtr (.t 0) (ki 15)), T (.pick (.t 2) (kb true) (.t 0))] (.t 0) (.seq (.ops [W 2 (.take (ki 0)), W 3 (.take (kn 1)), W 4 (.take (ki 1))])
.ret) .skip)
(.seq (.ops [T (.call false 52 []), T (.mov (.x 1)), T (.idxA 16 1 none (.t 1) (.t 0)), T (.call false 51 [(.t 0), (.c (.v (.str [124])))]), T (.mov (.x 0)), T (.ia 1 (.t 1) (.t 0)), T (.load none (.t 0)), W 5 (.take (.t 0))])
(.seq (.ifs [T (.mov (.x 5)), T (.bin .eql (.t 0) (.c (.v (.str [45]))))] (.t 0) (.seq (.ops [W 2 (.take (ki 0)), W 3 (.take (kn 1)), W 4 (.take (ki 11))])
.ret) .skip)
(.seq (.ops [T (.mov (.x 5)), T (.call false 51 [(.t 0), (.c (.v (.str [32])))]), W 6 (.take (.t 0))])
(.seq (.ops [W 7 (.take (kn 1))])
(.seq (.seq (.ops [T (.mov (.x 6)), T (.mov (.x 6)), T (.len (.t 0)), T (.bin .sub (.t 0) (ki 1)), W 8 (.sub 1 (.t 3) none (some (.t 0)) none), W 9 (.len (.x 8)), W 10 (.mov (ki 0))])
(.block 0 (.loop [11] fsm_Next.l0)))
(.seq (.ops [T (.mov (.x 6)), T (.mov (.x 6)), T (.len (.t 0)), T (.bin .sub (.t 0) (ki 1)), T (.ia 1 (.t 3) (.t 0)), T (.load none (.t 0)), T (.idx (.t 0) (ki 0)), T (.bin .sub (.t 0) (kk .u8 48)), T (.cvi .i64 (.t 0)), T (.take (.x 7)), W 2 (.take (.t 1)), W 3 (.take (.t 1)), W 4 (.take (ki 0))])
.ret)))))))) }
def fsm_Next.m : List Nat := [0, 1, 4, 5, 6, 7, 8, 9, 38, 39, 40, 11]
/-- euphroe/euphroeref23.Next · 0:state/0 1:event/1 2:/4 3:/5 4:/6 5:l/7 6:x/8 -/
def euphroeref23_Next.s : SFunc := { np := 2, nv := 7, res := [.var 2, .var 3, .var 4], code := (.seq (.ops [W 2 (.take (ki 0)), W 3 (.take (kn 1)), W 4 (.take (ki 0))])
(.seq (.ops [T (.mov (.x 1)), T (.call false 54 [(.t 0)]), W 5 (.take (.t 0))])
(.seq (.ifs [T (.mov (.x 5)), T (.eq .s false (.t 0) (kn 1)), T (.mov (.t 0)), GT 0 false (.mov (.x 0)), GT 1 false (.bin .lss (.t 0) (ki 0)), T (.pick (.t 2) (kb true) (.t 0)), T (.mov (.t 0)), GT 0 false (.mov (.x 0)), GT 1 false (.bin .gtr (.t 0) (ki 9)), T (.pick (.t 2) (kb true) (.t 0))] (.t 0) (.seq (.ops [W 2 (.take (ki 0)), W 3 (.take (kn 1)), W 4 (.take (ki 1))])
.ret) .skip)
(.seq (.ops [T (.mov (.x 5)), T (.mov (.x 0)), T (.ia 1 (.t 1) (.t 0)), T (.load none (.t 0)), W 6 (.take (.t 0))])
(.seq (.ifs [T (.mov (.x 6)), T (.ia 1 (.t 0) (ki 0)), T (.load none (.t 0)), T (.bin .lss (.t 0) (ki 0))] (.t 0) (.seq (.ops [W 2 (.take (ki 0)), W 3 (.take (kn 1)), W 4 (.take (ki 11))])
.ret) .skip)
(.seq (.ops [T (.mov (.x 6)), T (.ia 1 (.t 0) (ki 0)), T (.load none (.t 0)), T (.mov (.x 6)), T (.sub 1 (.t 0) (some (ki 1)) none none), W 2 (.take (.t 2)), W 3 (.take (.t 1)), W 4 (.take (ki 0))])
.ret)))))) }
def euphroeref23_Next.m : List Nat := [0, 1, 4, 5, 6, 7, 8]
/-- euphroe/euphroelaw23.same · 0:a/0 1:b/1 2:/4 3:/12 4:/13 5:i/5 -/
def euphroelaw23_same.l0 : SCode := (.seq (.ifs [T (.bin .lss (.x 4) (.x 3))] (.t 0) .skip (.exit 0))
(.seq (.block 1 (.seq (.ops [T (.mov (.x 4)), W 5 (.take (.t 0))])
(.ifs [T (.mov (.x 0)), T (.mov (.x 5)), T (.ia 1 (.t 1) (.t 0)), T (.load none (.t 0)), T (.mov (.x 1)), T (.mov (.x 5)), T (.ia 1 (.t 1) (.t 0)), T (.load none (.t 0)), T (.bin .neq (.t 4) (.t 0))] (.t 0) (.seq (.ops [W 2 (.take (kb false))])
.ret) .skip)))
(.ops [T (.bin .add (.x 4) (ki 1)), W 4 (.mov (.t 0))])))
def euphroelaw23_same.s : SFunc := { np := 2, nv := 6, res := [.var 2], code := (.seq (.ops [W 2 (.take (kb false))])
(.seq (.ifs [T (.mov (.x 0)), T (.len (.t 0)), T (.mov (.x 1)), T (.len (.t 0)), T (.bin .neq (.t 2) (.t 0))] (.t 0) (.seq (.ops [W 2 (.take (kb false))])
.ret) .skip)
(.seq (.seq (.ops [T (.mov (.x 0)), W 3 (.len (.t 0)), W 4 (.mov (ki 0))])
(.block 0 (.loop [5] euphroelaw23_same.l0)))
(.seq (.ops [W 2 (.take (kb true))])
.ret)))) }
def euphroelaw23_same.m : List Nat := [0, 1, 4, 12, 13, 5]
/-- euphroe/fsm.Name · 0:s/0 1:/2 -/
def fsm_Name.s : SFunc := { np := 1, nv := 2, res := [.var 1], code := (.seq (.ops [W 1 (.take (.c (.v (.str []))))])
(.seq (.ifs [T (.mov (.x 0)), T (.call false 50 [(.t 0)]), T (.un .not (.t 0))] (.t 0) (.seq (.ops [W 1 (.take (.c (.v (.str []))))])
.ret) .skip)
(.seq (.ops [T (.call false 55 []), T (.mov (.x 0)), T (.idxA 10 1 none (.t 1) (.t 0)), W 1 (.take (.t 0))])
.ret))) }
def fsm_Name.m : List Nat := [0, 2]
/-- euphroe/euphroeref23.Name · 0:state/0 1:/2 -/
def euphroeref23_Name.s : SFunc := { np := 1, nv := 2, res := [.var 1], code := (.seq (.ops [W 1 (.take (.c (.v (.str []))))])
(.seq (.ifs [T (.mov (.x 0)), T (.bin .lss (.t 0) (ki 0)), T (.mov (.t 0)), GT 0 false (.mov (.x 0)), GT 1 false (.bin .gtr (.t 0) (ki 9)), T (.pick (.t 2) (kb true) (.t 0))] (.t 0) (.seq (.ops [W 1 (.take (.c (.v (.str []))))])
.ret) .skip)
(.seq (.ops [T (.lit 1 [(.c (.v (.str [73, 110, 105, 116, 105, 97, 108]))), (.c (.v (.str [83, 116, 97, 114, 116, 105, 110, 103]))), (.c (.v (.str [67, 108, 111, 115, 101, 100]))), (.c (.v (.str [83, 116, 111, 112, 112, 101, 100]))), (.c (.v (.str [67, 108, 111, 115, 105, 110, 103]))), (.c (.v (.str [83, 116, 111, 112, 112, 105, 110, 103]))), (.c (.v (.str [82, 101, 113, 83, 101, 110, 116]))), (.c (.v (.str [65, 99, 107, 82, 99, 118, 100]))), (.c (.v (.str [65, 99, 107, 83, 101, 110, 116]))), (.c (.v (.str [79, 112, 101, 110, 101, 100])))]), T (.mov (.x 0)), T (.ia 1 (.t 1) (.t 0)), T (.load none (.t 0)), W 1 (.take (.t 0))])
.ret))) }
def euphroeref23_Name.m : List Nat := [0, 2]
/-- euphroe/fsm.Timed · 0:s/0 1:/2 2:e/5 -/
def fsm_Timed.s : SFunc := { np := 1, nv := 3, res := [.var 1], code := (.seq (.ops [W 1 (.take (kb false))])
(.seq (.ops [T (.mov (.x 0)), T (.call false 13 [(.t 0), (ki 4)]), T (.take (.t 0)), T (.ext 0 (.t 0)), T (.ext 1 (.t 1)), T (.ext 2 (.t 2)), T (.take (.t 2)), T (.take (.t 2)), W 2 (.take (.t 2))])
(.seq (.ops [T (.mov (.x 2)), T (.bin .eql (.t 0) (ki 0)), W 1 (.take (.t 0))])
.ret))) }
def fsm_Timed.m : List Nat := [0, 2, 5]
/-- euphroe/euphroelaw23.alive · 0:/0 1:s/1 2:a/2 3:e/3 -/
def euphroelaw23_alive.s : SFunc := { np := 0, nv := 4, res := [.var 0], code := (.seq (.ops [W 0 (.take (kb false))])
(.seq (.ops [T (.call false 13 [(ki 1), (ki 0)]), T (.take (.t 0)), T (.ext 0 (.t 0)), T (.ext 1 (.t 1)), T (.ext 2 (.t 2)), W 1 (.take (.t 2)), W 2 (.take (.t 2)), W 3 (.take (.t 2))])
(.seq (.ops [T (.mov (.x 1)), T (.bin .eql (.t 0) (ki 6)), T (.mov (.t 0)), GT 0 true (.mov (.x 2)), GT 1 true (.len (.t 0)), GT 2 true (.bin .eql (.t 0) (ki 2)), T (.pick (.t 3) (.t 0) (kb false)), T (.mov (.t 0)), GT 0 true (.mov (.x 2)), GT 1 true (.ia 1 (.t 0) (ki 0)), GT 2 true (.load none (.t 0)), GT 3 true (.bin .eql (.t 0) (ki 5)), T (.pick (.t 4) (.t 0) (kb false)), T (.mov (.t 0)), GT 0 true (.mov (.x 2)), GT 1 true (.ia 1 (.t 0) (ki 1)), GT 2 true (.load none (.t 0)), GT 3 true (.bin .eql (.t 0) (ki 7)), T (.pick (.t 4) (.t 0) (kb false)), T (.mov (.t 0)), GT 0 true (.mov (.x 3)), GT 1 true (.bin .eql (.t 0) (ki 0)), T (.pick (.t 2) (.t 0) (kb false)), T (.mov (.t 0)), GT 0 true (.mov (.x 1)), GT 1 true (.call false 16 [(.t 0)]), GT 2 true (.bin .eql (.t 0) (.c (.v (.str [82, 101, 113, 83, 101, 110, 116])))), T (.pick (.t 3) (.t 0) (kb false)), T (.mov (.t 0)), GT 0 true (.mov (.x 1)), GT 1 true (.call false 18 [(.t 0)]), T (.pick (.t 2) (.t 0) (kb false)), T (.mov (.t 0)), GT 0 true (.call false 23 [(ki 0), (ki 9)]), T (.pick (.t 1) (.t 0) (kb false)), W 0 (.take (.t 0))])
.ret))) }
def euphroelaw23_alive.m : List Nat := [0, 1, 2, 3]
/-- euphroe/fsm.Run · 0:s/0 1:l/1 2:/4 3:/5 4:/6 5:all/7 6:/16 7:/17 8:/18 9:i/8 10:e/9 11:next/10 12:done/11 13:bad/12 -/
def fsm_Run.l0 : SCode := (.seq (.ifs [T (.bin .lss (.x 8) (.x 7))] (.t 0) .skip (.exit 0))
(.seq (.block 1 (.seq (.ops [T (.mov (.x 8)), T (.ia 1 (.x 6) (.x 8)), T (.load none (.t 0)), W 9 (.take (.t 2)), W 10 (.take (.t 1))])
(.seq (.ops [T (.mov (.x 0)), T (.mov (.x 10)), T (.call false 13 [(.t 1), (.t 0)]), T (.take (.t 0)), T (.ext 0 (.t 0)), T (.ext 1 (.t 1)), T (.ext 2 (.t 2)), W 11 (.take (.t 2)), W 12 (.take (.t 2)), W 13 (.take (.t 2))])
(.seq (.ifs [T (.mov (.x 13)), T (.bin .neq (.t 0) (ki 0))] (.t 0) (.seq (.ops [T (.take (.x 0)), T (.take (.x 5)), T (.take (.x 9)), W 2 (.take (.t 2)), W 3 (.take (.t 2)), W 4 (.take (.t 2))])
.ret) .skip)
(.seq (.ops [T (.mov (.x 11)), W 0 (.take (.t 0))])
(.ops [T (.take (.x 5)), T (.mov (.x 12)), T (.app 1 8 (.t 1) (.t 0)), W 5 (.take (.t 0))]))))))
(.ops [T (.bin .add (.x 8) (ki 1)), W 8 (.mov (.t 0))])))
def fsm_Run.s : SFunc := { np := 2, nv := 14, res := [.var 2, .var 3, .var 4], code := (.seq (.ops [W 2 (.take (ki 0)), W 3 (.take (kn 1)), W 4 (.take (ki 0))])
(.seq (.ifs [T (.mov (.x 0)), T (.call false 50 [(.t 0)]), T (.un .not (.t 0))] (.t 0) (.seq (.ops [W 2 (.take (ki 0)), W 3 (.take (kn 1)), W 4 (.take (ki 0))])
.ret) .skip)
(.seq (.ops [W 5 (.take (kn 1))])
(.seq (.seq (.ops [W 6 (.mov (.x 1)), W 7 (.len (.x 6)), W 8 (.mov (ki 0))])
(.block 0 (.loop [9, 10, 11, 12, 13] fsm_Run.l0)))
(.seq (.ops [T (.take (.x 0)), T (.take (.x 5)), T (.mov (.x 1)), T (.len (.t 0)), W 2 (.take (.t 3)), W 3 (.take (.t 3)), W 4 (.take (.t 2))])
.ret))))) }
def fsm_Run.m : List Nat := [0, 1, 4, 5, 6, 7, 16, 17, 18, 8, 9, 10, 11, 12]
/-- euphroe/euphroeref23.Run · 0:state/0 1:l/1 2:/4 3:/5 4:/6 5:all/7 6:i/8 7:s/9 8:a/10 9:e/11 -/
def euphroeref23_Run.l0 : SCode := (.seq (.ifs [T (.mov (.x 6)), T (.mov (.x 1)), T (.len (.t 0)), T (.bin .lss (.t 2) (.t 0))] (.t 0) .skip (.exit 0))
(.seq (.block 1 (.seq (.ops [T (.mov (.x 0)), T (.mov (.x 1)), T (.mov (.x 6)), T (.ia 1 (.t 1) (.t 0)), T (.load none (.t 0)), T (.call false 14 [(.t 4), (.t 0)]), T (.take (.t 0)), T (.ext 0 (.t 0)), T (.ext 1 (.t 1)), T (.ext 2 (.t 2)), W 7 (.take (.t 2)), W 8 (.take (.t 2)), W 9 (.take (.t 2))])
(.seq (.ifs [T (.mov (.x 9)), T (.bin .neq (.t 0) (ki 0))] (.t 0) (.seq (.ops [T (.take (.x 0)), T (.take (.x 5)), T (.take (.x 6)), W 2 (.take (.t 2)), W 3 (.take (.t 2)), W 4 (.take (.t 2))])
.ret) .skip)
(.seq (.ops [T (.mov (.x 7)), W 0 (.take (.t 0))])
(.ops [T (.take (.x 5)), T (.mov (.x 8)), T (.app 1 8 (.t 1) (.t 0)), W 5 (.take (.t 0))])))))
(.ops [T (.mov (.x 6)), T (.bin .add (.t 0) (ki 1)), W 6 (.take (.t 0))])))
def euphroeref23_Run.s : SFunc := { np := 2, nv := 10, res := [.var 2, .var 3, .var 4], code := (.seq (.ops [W 2 (.take (ki 0)), W 3 (.take (kn 1)), W 4 (.take (ki 0))])
(.seq (.ifs [T (.mov (.x 0)), T (.bin .lss (.t 0) (ki 0)), T (.mov (.t 0)), GT 0 false (.mov (.x 0)), GT 1 false (.bin .gtr (.t 0) (ki 9)), T (.pick (.t 2) (kb true) (.t 0))] (.t 0) (.seq (.ops [W 2 (.take (ki 0)), W 3 (.take (kn 1)), W 4 (.take (ki 0))])
.ret) .skip)
(.seq (.ops [W 5 (.take (kn 1))])
(.seq (.seq (.ops [W 6 (.take (ki 0))])
(.block 0 (.loop [7, 8, 9] euphroeref23_Run.l0)))
(.seq (.ops [T (.take (.x 0)), T (.take (.x 5)), T (.mov (.x 1)), T (.len (.t 0)), W 2 (.take (.t 3)), W 3 (.take (.t 3)), W 4 (.take (.t 2))])
.ret))))) }
def euphroeref23_Run.m : List Nat := [0, 1, 4, 5, 6, 7, 8, 9, 10, 11]
/-- euphroe/euphroeref23.Reached · 0:from/0 1:/2 2:is/3 3:round/4 4:s/5 5:e/6 6:n/7 7:bad/9 -/
def euphroeref23_Reached.l2 : SCode := (.seq (.ifs [T (.mov (.x 5)), T (.bin .lss (.t 0) (ki 16))] (.t 0) .skip (.exit 4))
(.seq (.block 5 (.seq (.ops [T (.mov (.x 4)), T (.mov (.x 5)), T (.call false 14 [(.t 1), (.t 0)]), T (.take (.t 0)), T (.ext 0 (.t 0)), T (.ext 1 (.t 1)), T (.ext 2 (.t 2)), W 6 (.take (.t 2)), T (.take (.t 2)), W 7 (.take (.t 2))])
(.ifs [T (.mov (.x 4)), T (.iaA 10 1 (.x 2) (.t 0)), T (.load none (.t 0)), T (.mov (.t 0)), GT 0 true (.mov (.x 7)), GT 1 true (.bin .eql (.t 0) (ki 0)), T (.pick (.t 2) (.t 0) (kb false))] (.t 0) (.ops [T (.mov (.x 6)), T (.iaA 10 1 (.x 2) (.t 0)), N (.store 1 (.t 0) (kb true))]) .skip)))
(.ops [T (.mov (.x 5)), T (.bin .add (.t 0) (ki 1)), W 5 (.take (.t 0))])))
def euphroeref23_Reached.l1 : SCode := (.seq (.ifs [T (.mov (.x 4)), T (.bin .lss (.t 0) (ki 10))] (.t 0) .skip (.exit 2))
(.seq (.block 3 (.seq (.ops [W 5 (.take (ki 0))])
(.block 4 (.loop [6, 7] euphroeref23_Reached.l2))))
(.ops [T (.mov (.x 4)), T (.bin .add (.t 0) (ki 1)), W 4 (.take (.t 0))])))
def euphroeref23_Reached.l0 : SCode := (.seq (.ifs [T (.mov (.x 3)), T (.bin .lss (.t 0) (ki 10))] (.t 0) .skip (.exit 0))
(.seq (.block 1 (.seq (.ops [W 4 (.take (ki 0))])
(.block 2 (.loop [5, 6, 7] euphroeref23_Reached.l1))))
(.ops [T (.mov (.x 3)), T (.bin .add (.t 0) (ki 1)), W 3 (.take (.t 0))])))
def euphroeref23_Reached.s : SFunc := { np := 1, nv := 8, res := [.cell (some 10) 1], code := (.seq (.ops [W 1 (.alloc false (.v (.agg (List.replicate 10 (.bool false)))))])
(.seq (.ops [W 2 (.alloc false (.v (.agg (List.replicate 10 (.bool false)))))])
(.seq (.ifs [T (.mov (.x 0)), T (.bin .lss (.t 0) (ki 0)), T (.mov (.t 0)), GT 0 false (.mov (.x 0)), GT 1 false (.bin .gtr (.t 0) (ki 9)), T (.pick (.t 2) (kb true) (.t 0))] (.t 0) (.seq (.ops [T (.load (some 10) (.x 2)), N (.store 10 (.x 1) (.t 0))])
.ret) .skip)
(.seq (.ops [T (.mov (.x 0)), T (.iaA 10 1 (.x 2) (.t 0)), N (.store 1 (.t 0) (kb true))])
(.seq (.seq (.ops [W 3 (.take (ki 0))])
(.block 0 (.loop [4, 5, 6, 7] euphroeref23_Reached.l0)))
(.seq (.ops [T (.load (some 10) (.x 2)), N (.store 10 (.x 1) (.t 0))])
.ret)))))) }
def euphroeref23_Reached.m : List Nat := [0, 2, 3, 4, 5, 6, 7, 9]
/-- euphroe/fsm.Reaches · 0:from/0 1:to/1 2:/4 3:met/5 4:todo/6 5:s/7 6:e/8 7:next/9 8:bad/11 -/
def fsm_Reaches.l1 : SCode := (.seq (.ifs [T (.mov (.x 6)), T (.bin .leq (.t 0) (ki 15))] (.t 0) .skip (.exit 2))
(.seq (.block 3 (.seq (.ops [T (.mov (.x 5)), T (.mov (.x 6)), T (.call false 13 [(.t 1), (.t 0)]), T (.take (.t 0)), T (.ext 0 (.t 0)), T (.ext 1 (.t 1)), T (.ext 2 (.t 2)), W 7 (.take (.t 2)), T (.take (.t 2)), W 8 (.take (.t 2))])
(.ifs [T (.mov (.x 8)), T (.bin .eql (.t 0) (ki 0)), T (.mov (.t 0)), GT 0 true (.mov (.x 7)), GT 1 true (.iaA 10 1 (.x 3) (.t 0)), GT 2 true (.load none (.t 0)), GT 3 true (.un .not (.t 0)), T (.pick (.t 4) (.t 0) (kb false))] (.t 0) (.seq (.ops [T (.mov (.x 7)), T (.iaA 10 1 (.x 3) (.t 0)), N (.store 1 (.t 0) (kb true))])
(.ops [T (.take (.x 4)), T (.mov (.x 7)), T (.lit 1 [(.t 0)]), T (.app 1 8 (.t 2) (.t 0)), W 4 (.take (.t 0))])) .skip)))
(.ops [T (.mov (.x 6)), T (.bin .add (.t 0) (ki 1)), W 6 (.take (.t 0))])))
def fsm_Reaches.l0 : SCode := (.seq (.ifs [T (.mov (.x 4)), T (.len (.t 0)), T (.bin .gtr (.t 0) (ki 0))] (.t 0) .skip (.exit 0))
(.block 1 (.seq (.ops [T (.mov (.x 4)), T (.ia 1 (.t 0) (ki 0)), T (.load none (.t 0)), W 5 (.take (.t 0))])
(.seq (.ops [T (.take (.x 4)), T (.subl 1 (.t 0) (ki 1)), W 4 (.take (.t 0))])
(.seq (.ops [W 6 (.take (ki 0))])
(.block 2 (.loop [7, 8] fsm_Reaches.l1)))))))
def fsm_Reaches.s : SFunc := { np := 2, nv := 9, res := [.var 2], code := (.seq (.ops [W 2 (.take (kb false))])
(.seq (.ifs [T (.mov (.x 0)), T (.call false 50 [(.t 0)]), T (.un .not (.t 0)), T (.mov (.t 0)), GT 0 false (.mov (.x 1)), GT 1 false (.call false 50 [(.t 0)]), GT 2 false (.un .not (.t 0)), T (.pick (.t 3) (kb true) (.t 0))] (.t 0) (.seq (.ops [W 2 (.take (kb false))])
.ret) .skip)
(.seq (.ops [W 3 (.alloc false (.v (.agg (List.replicate 10 (.bool false)))))])
(.seq (.ops [T (.mov (.x 0)), T (.iaA 10 1 (.x 3) (.t 0)), N (.store 1 (.t 0) (kb true))])
(.seq (.seq (.ops [T (.mov (.x 0)), T (.lit 1 [(.t 0)]), W 4 (.take (.t 0))])
(.block 0 (.loop [5, 6, 7, 8] fsm_Reaches.l0)))
(.seq (.ops [T (.mov (.x 1)), T (.iaA 10 1 (.x 3) (.t 0)), T (.load none (.t 0)), W 2 (.take (.t 0))])
.ret)))))) }
def fsm_Reaches.m : List Nat := [0, 1, 4, 5, 6, 7, 8, 9, 11]
/-- (euphroe/fsm.State).ok · 0:s/0 1:/2 -/
def fsm_State_ok.s : SFunc := { np := 1, nv := 2, res := [.var 1], code := (.seq (.ops [W 1 (.take (kb false))])
(.seq (.ops [T (.mov (.x 0)), T (.bin .geq (.t 0) (ki 0)), T (.mov (.t 0)), GT 0 true (.mov (.x 0)), GT 1 true (.bin .leq (.t 0) (ki 9)), T (.pick (.t 2) (.t 0) (kb false)), W 1 (.take (.t 0))])
.ret)) }
def fsm_State_ok.m : List Nat := [0, 2]
/-- euphroe/fsm.rows · 0:/0 -/
def fsm_rows.s : SFunc := { np := 0, nv := 1, res := [.cell (some 16) 0], code := (.seq (.ops [W 0 (.alloc false (.v (.agg (List.replicate 16 (.str [])))))])
(.seq (.ops [T (.build (List.replicate 16 (.v (.str []))) [(0, 1, (.c (.v (.str [50, 124, 105, 114, 99, 32, 115, 99, 114, 32, 54, 124, 45, 124, 45, 124, 45, 124, 45, 124, 45, 124, 45, 124, 45, 124, 45])))), (1, 1, (.c (.v (.str [45, 124, 45, 124, 48, 124, 116, 108, 115, 32, 49, 124, 48, 124, 49, 124, 49, 124, 49, 124, 49, 124, 116, 108, 100, 32, 49])))), (2, 1, (.c (.v (.str [116, 108, 115, 32, 49, 124, 49, 124, 105, 114, 99, 32, 115, 99, 114, 32, 54, 124, 51, 124, 53, 124, 53, 124, 54, 124, 55, 124, 56, 124, 57])))), (3, 1, (.c (.v (.str [48, 124, 116, 108, 102, 32, 48, 124, 50, 124, 50, 124, 52, 124, 52, 124, 105, 114, 99, 32, 115, 116, 114, 32, 52, 124, 105, 114, 99, 32, 115, 116, 114, 32, 52, 124, 105, 114, 99, 32, 115, 116, 114, 32, 52, 124, 116, 108, 100, 32, 105, 114, 99, 32, 115, 116, 114, 32, 52])))), (4, 1, (.c (.v (.str [45, 124, 45, 124, 45, 124, 45, 124, 115, 116, 114, 32, 52, 124, 115, 116, 114, 32, 53, 124, 115, 99, 114, 32, 54, 124, 115, 99, 114, 32, 54, 124, 115, 99, 114, 32, 56, 124, 45])))), (5, 1, (.c (.v (.str [45, 124, 45, 124, 45, 124, 45, 124, 116, 108, 102, 32, 50, 124, 116, 108, 102, 32, 51, 124, 116, 108, 102, 32, 51, 124, 116, 108, 102, 32, 51, 124, 116, 108, 102, 32, 51, 124, 45])))), (6, 1, (.c (.v (.str [45, 124, 45, 124, 115, 116, 97, 32, 50, 124, 105, 114, 99, 32, 115, 99, 114, 32, 115, 99, 97, 32, 56, 124, 52, 124, 53, 124, 115, 99, 97, 32, 56, 124, 115, 99, 97, 32, 116, 108, 117, 32, 57, 124, 115, 99, 97, 32, 56, 124, 116, 108, 100, 32, 115, 99, 114, 32, 115, 99, 97, 32, 56])))), (7, 1, (.c (.v (.str [45, 124, 45, 124, 115, 116, 97, 32, 50, 124, 105, 114, 99, 32, 115, 99, 114, 32, 115, 99, 110, 32, 54, 124, 52, 124, 53, 124, 115, 99, 110, 32, 54, 124, 115, 99, 110, 32, 55, 124, 115, 99, 110, 32, 54, 124, 116, 108, 100, 32, 115, 99, 114, 32, 115, 99, 110, 32, 54])))), (8, 1, (.c (.v (.str [45, 124, 45, 124, 115, 116, 97, 32, 50, 124, 115, 116, 97, 32, 51, 124, 52, 124, 53, 124, 105, 114, 99, 32, 55, 124, 115, 99, 114, 32, 54, 124, 105, 114, 99, 32, 116, 108, 117, 32, 57, 124, 116, 108, 100, 32, 115, 99, 114, 32, 54])))), (9, 1, (.c (.v (.str [45, 124, 45, 124, 115, 116, 97, 32, 50, 124, 115, 116, 97, 32, 51, 124, 52, 124, 53, 124, 105, 114, 99, 32, 115, 99, 114, 32, 54, 124, 115, 99, 114, 32, 54, 124, 105, 114, 99, 32, 115, 99, 114, 32, 56, 124, 116, 108, 100, 32, 115, 99, 114, 32, 54])))), (10, 1, (.c (.v (.str [45, 124, 45, 124, 115, 116, 97, 32, 50, 124, 115, 116, 97, 32, 51, 124, 115, 116, 97, 32, 52, 124, 115, 116, 97, 32, 53, 124, 115, 116, 97, 32, 54, 124, 115, 116, 97, 32, 54, 124, 115, 116, 97, 32, 54, 124, 116, 108, 100, 32, 122, 114, 99, 32, 115, 116, 97, 32, 53])))), (11, 1, (.c (.v (.str [45, 124, 45, 124, 50, 124, 51, 124, 116, 108, 102, 32, 50, 124, 116, 108, 102, 32, 51, 124, 54, 124, 54, 124, 56, 124, 116, 108, 100, 32, 115, 99, 114, 32, 54])))), (12, 1, (.c (.v (.str [45, 124, 45, 124, 115, 99, 106, 32, 50, 124, 115, 99, 106, 32, 51, 124, 115, 99, 106, 32, 52, 124, 115, 99, 106, 32, 53, 124, 115, 99, 106, 32, 54, 124, 115, 99, 106, 32, 55, 124, 115, 99, 106, 32, 56, 124, 115, 99, 106, 32, 57])))), (13, 1, (.c (.v (.str [45, 124, 45, 124, 50, 124, 51, 124, 52, 124, 53, 124, 54, 124, 54, 124, 56, 124, 57])))), (14, 1, (.c (.v (.str [45, 124, 45, 124, 116, 108, 102, 32, 50, 124, 116, 108, 102, 32, 51, 124, 116, 108, 102, 32, 50, 124, 116, 108, 102, 32, 51, 124, 116, 108, 102, 32, 51, 124, 116, 108, 102, 32, 51, 124, 116, 108, 102, 32, 51, 124, 116, 108, 100, 32, 105, 114, 99, 32, 115, 116, 114, 32, 53])))), (15, 1, (.c (.v (.str [45, 124, 45, 124, 50, 124, 51, 124, 52, 124, 53, 124, 54, 124, 55, 124, 56, 124, 115, 101, 114, 32, 57]))))]), N (.store 16 (.x 0) (.t 0))])
.ret)) }
def fsm_rows.m : List Nat := [0]
/-- euphroe/fsm.action · 0:s/0 1:/2 -/
def fsm_action.s : SFunc := { np := 1, nv := 2, res := [.var 1], code := (.seq (.ops [W 1 (.take (ki 0))])
(.seq (.ops [T (.mov (.x 0)), T (.call false 82 [(.c (.v (.str [116, 108, 117, 32, 116, 108, 100, 32, 116, 108, 115, 32, 116, 108, 102, 32, 105, 114, 99, 32, 122, 114, 99, 32, 115, 99, 114, 32, 115, 99, 97, 32, 115, 99, 110, 32, 115, 116, 114, 32, 115, 116, 97, 32, 115, 99, 106, 32, 115, 101, 114]))), (.t 0)]), T (.bin .quo (.t 0) (ki 4)), T (.bin .add (.t 0) (ki 1)), W 1 (.take (.t 0))])
.ret)) }
def fsm_action.m : List Nat := [0, 2]
/-- euphroe/euphroeref23.row · 0:event/0 1:/2 2:/3 -/
def euphroeref23_row.s : SFunc := { np := 1, nv := 3, res := [.var 1], keep := true, code := (.seq (.ops [W 1 (.take (kn 1))])
(.seq (.seq (.ops [W 2 (.mov (.x 0))])
(.block 0 (.ifs [T (.bin .eql (.x 2) (ki 0)), T (.take (.t 0))] (.t 0) (.seq (.ops [T (.lit 1 [(ki 2)]), T (.lit 1 [(ki 6), (ki 5), (ki 7)]), T (.lit 1 [(ki (-1))]), T (.lit 1 [(ki (-1))]), T (.lit 1 [(ki (-1))]), T (.lit 1 [(ki (-1))]), T (.lit 1 [(ki (-1))]), T (.lit 1 [(ki (-1))]), T (.lit 1 [(ki (-1))]), T (.lit 1 [(ki (-1))]), T (.lit 1 [(.t 9), (.t 8), (.t 7), (.t 6), (.t 5), (.t 4), (.t 3), (.t 2), (.t 1), (.t 0)]), W 1 (.take (.t 0))])
.ret) (.ifs [T (.bin .eql (.x 2) (ki 1)), T (.take (.t 0))] (.t 0) (.seq (.ops [T (.lit 1 [(ki (-1))]), T (.lit 1 [(ki (-1))]), T (.lit 1 [(ki 0)]), T (.lit 1 [(ki 1), (ki 3)]), T (.lit 1 [(ki 0)]), T (.lit 1 [(ki 1)]), T (.lit 1 [(ki 1)]), T (.lit 1 [(ki 1)]), T (.lit 1 [(ki 1)]), T (.lit 1 [(ki 1), (ki 2)]), T (.lit 1 [(.t 9), (.t 8), (.t 7), (.t 6), (.t 5), (.t 4), (.t 3), (.t 2), (.t 1), (.t 0)]), W 1 (.take (.t 0))])
.ret) (.ifs [T (.bin .eql (.x 2) (ki 2)), T (.take (.t 0))] (.t 0) (.seq (.ops [T (.lit 1 [(ki 1), (ki 3)]), T (.lit 1 [(ki 1)]), T (.lit 1 [(ki 6), (ki 5), (ki 7)]), T (.lit 1 [(ki 3)]), T (.lit 1 [(ki 5)]), T (.lit 1 [(ki 5)]), T (.lit 1 [(ki 6)]), T (.lit 1 [(ki 7)]), T (.lit 1 [(ki 8)]), T (.lit 1 [(ki 9)]), T (.lit 1 [(.t 9), (.t 8), (.t 7), (.t 6), (.t 5), (.t 4), (.t 3), (.t 2), (.t 1), (.t 0)]), W 1 (.take (.t 0))])
.ret) (.ifs [T (.bin .eql (.x 2) (ki 3)), T (.take (.t 0))] (.t 0) (.seq (.ops [T (.lit 1 [(ki 0)]), T (.lit 1 [(ki 0), (ki 4)]), T (.lit 1 [(ki 2)]), T (.lit 1 [(ki 2)]), T (.lit 1 [(ki 4)]), T (.lit 1 [(ki 4)]), T (.lit 1 [(ki 4), (ki 5), (ki 10)]), T (.lit 1 [(ki 4), (ki 5), (ki 10)]), T (.lit 1 [(ki 4), (ki 5), (ki 10)]), T (.lit 1 [(ki 4), (ki 2), (ki 5), (ki 10)]), T (.lit 1 [(.t 9), (.t 8), (.t 7), (.t 6), (.t 5), (.t 4), (.t 3), (.t 2), (.t 1), (.t 0)]), W 1 (.take (.t 0))])
.ret) (.ifs [T (.bin .eql (.x 2) (ki 4)), T (.take (.t 0))] (.t 0) (.seq (.ops [T (.lit 1 [(ki (-1))]), T (.lit 1 [(ki (-1))]), T (.lit 1 [(ki (-1))]), T (.lit 1 [(ki (-1))]), T (.lit 1 [(ki 4), (ki 10)]), T (.lit 1 [(ki 5), (ki 10)]), T (.lit 1 [(ki 6), (ki 7)]), T (.lit 1 [(ki 6), (ki 7)]), T (.lit 1 [(ki 8), (ki 7)]), T (.lit 1 [(ki (-1))]), T (.lit 1 [(.t 9), (.t 8), (.t 7), (.t 6), (.t 5), (.t 4), (.t 3), (.t 2), (.t 1), (.t 0)]), W 1 (.take (.t 0))])
.ret) (.ifs [T (.bin .eql (.x 2) (ki 5)), T (.take (.t 0))] (.t 0) (.seq (.ops [T (.lit 1 [(ki (-1))]), T (.lit 1 [(ki (-1))]), T (.lit 1 [(ki (-1))]), T (.lit 1 [(ki (-1))]), T (.lit 1 [(ki 2), (ki 4)]), T (.lit 1 [(ki 3), (ki 4)]), T (.lit 1 [(ki 3), (ki 4)]), T (.lit 1 [(ki 3), (ki 4)]), T (.lit 1 [(ki 3), (ki 4)]), T (.lit 1 [(ki (-1))]), T (.lit 1 [(.t 9), (.t 8), (.t 7), (.t 6), (.t 5), (.t 4), (.t 3), (.t 2), (.t 1), (.t 0)]), W 1 (.take (.t 0))])
.ret) (.ifs [T (.bin .eql (.x 2) (ki 6)), T (.take (.t 0))] (.t 0) (.seq (.ops [T (.lit 1 [(ki (-1))]), T (.lit 1 [(ki (-1))]), T (.lit 1 [(ki 2), (ki 11)]), T (.lit 1 [(ki 8), (ki 5), (ki 7), (ki 8)]), T (.lit 1 [(ki 4)]), T (.lit 1 [(ki 5)]), T (.lit 1 [(ki 8), (ki 8)]), T (.lit 1 [(ki 9), (ki 8), (ki 1)]), T (.lit 1 [(ki 8), (ki 8)]), T (.lit 1 [(ki 8), (ki 2), (ki 7), (ki 8)]), T (.lit 1 [(.t 9), (.t 8), (.t 7), (.t 6), (.t 5), (.t 4), (.t 3), (.t 2), (.t 1), (.t 0)]), W 1 (.take (.t 0))])
.ret) (.ifs [T (.bin .eql (.x 2) (ki 7)), T (.take (.t 0))] (.t 0) (.seq (.ops [T (.lit 1 [(ki (-1))]), T (.lit 1 [(ki (-1))]), T (.lit 1 [(ki 2), (ki 11)]), T (.lit 1 [(ki 6), (ki 5), (ki 7), (ki 9)]), T (.lit 1 [(ki 4)]), T (.lit 1 [(ki 5)]), T (.lit 1 [(ki 6), (ki 9)]), T (.lit 1 [(ki 7), (ki 9)]), T (.lit 1 [(ki 6), (ki 9)]), T (.lit 1 [(ki 6), (ki 2), (ki 7), (ki 9)]), T (.lit 1 [(.t 9), (.t 8), (.t 7), (.t 6), (.t 5), (.t 4), (.t 3), (.t 2), (.t 1), (.t 0)]), W 1 (.take (.t 0))])
.ret) (.ifs [T (.bin .eql (.x 2) (ki 8)), T (.take (.t 0))] (.t 0) (.seq (.ops [T (.lit 1 [(ki (-1))]), T (.lit 1 [(ki (-1))]), T (.lit 1 [(ki 2), (ki 11)]), T (.lit 1 [(ki 3), (ki 11)]), T (.lit 1 [(ki 4)]), T (.lit 1 [(ki 5)]), T (.lit 1 [(ki 7), (ki 5)]), T (.lit 1 [(ki 6), (ki 7)]), T (.lit 1 [(ki 9), (ki 5), (ki 1)]), T (.lit 1 [(ki 6), (ki 2), (ki 7)]), T (.lit 1 [(.t 9), (.t 8), (.t 7), (.t 6), (.t 5), (.t 4), (.t 3), (.t 2), (.t 1), (.t 0)]), W 1 (.take (.t 0))])
.ret) (.ifs [T (.bin .eql (.x 2) (ki 9)), T (.take (.t 0))] (.t 0) (.seq (.ops [T (.lit 1 [(ki (-1))]), T (.lit 1 [(ki (-1))]), T (.lit 1 [(ki 2), (ki 11)]), T (.lit 1 [(ki 3), (ki 11)]), T (.lit 1 [(ki 4)]), T (.lit 1 [(ki 5)]), T (.lit 1 [(ki 6), (ki 5), (ki 7)]), T (.lit 1 [(ki 6), (ki 7)]), T (.lit 1 [(ki 8), (ki 5), (ki 7)]), T (.lit 1 [(ki 6), (ki 2), (ki 7)]), T (.lit 1 [(.t 9), (.t 8), (.t 7), (.t 6), (.t 5), (.t 4), (.t 3), (.t 2), (.t 1), (.t 0)]), W 1 (.take (.t 0))])
.ret) (.ifs [T (.bin .eql (.x 2) (ki 10)), T (.take (.t 0))] (.t 0) (.seq (.ops [T (.lit 1 [(ki (-1))]), T (.lit 1 [(ki (-1))]), T (.lit 1 [(ki 2), (ki 11)]), T (.lit 1 [(ki 3), (ki 11)]), T (.lit 1 [(ki 4), (ki 11)]), T (.lit 1 [(ki 5), (ki 11)]), T (.lit 1 [(ki 6), (ki 11)]), T (.lit 1 [(ki 6), (ki 11)]), T (.lit 1 [(ki 6), (ki 11)]), T (.lit 1 [(ki 5), (ki 2), (ki 6), (ki 11)]), T (.lit 1 [(.t 9), (.t 8), (.t 7), (.t 6), (.t 5), (.t 4), (.t 3), (.t 2), (.t 1), (.t 0)]), W 1 (.take (.t 0))])
.ret) (.ifs [T (.bin .eql (.x 2) (ki 11)), T (.take (.t 0))] (.t 0) (.seq (.ops [T (.lit 1 [(ki (-1))]), T (.lit 1 [(ki (-1))]), T (.lit 1 [(ki 2)]), T (.lit 1 [(ki 3)]), T (.lit 1 [(ki 2), (ki 4)]), T (.lit 1 [(ki 3), (ki 4)]), T (.lit 1 [(ki 6)]), T (.lit 1 [(ki 6)]), T (.lit 1 [(ki 8)]), T (.lit 1 [(ki 6), (ki 2), (ki 7)]), T (.lit 1 [(.t 9), (.t 8), (.t 7), (.t 6), (.t 5), (.t 4), (.t 3), (.t 2), (.t 1), (.t 0)]), W 1 (.take (.t 0))])
.ret) (.ifs [T (.bin .eql (.x 2) (ki 12)), T (.take (.t 0))] (.t 0) (.seq (.ops [T (.lit 1 [(ki (-1))]), T (.lit 1 [(ki (-1))]), T (.lit 1 [(ki 2), (ki 12)]), T (.lit 1 [(ki 3), (ki 12)]), T (.lit 1 [(ki 4), (ki 12)]), T (.lit 1 [(ki 5), (ki 12)]), T (.lit 1 [(ki 6), (ki 12)]), T (.lit 1 [(ki 7), (ki 12)]), T (.lit 1 [(ki 8), (ki 12)]), T (.lit 1 [(ki 9), (ki 12)]), T (.lit 1 [(.t 9), (.t 8), (.t 7), (.t 6), (.t 5), (.t 4), (.t 3), (.t 2), (.t 1), (.t 0)]), W 1 (.take (.t 0))])
.ret) (.ifs [T (.bin .eql (.x 2) (ki 13)), T (.take (.t 0))] (.t 0) (.seq (.ops [T (.lit 1 [(ki (-1))]), T (.lit 1 [(ki (-1))]), T (.lit 1 [(ki 2)]), T (.lit 1 [(ki 3)]), T (.lit 1 [(ki 4)]), T (.lit 1 [(ki 5)]), T (.lit 1 [(ki 6)]), T (.lit 1 [(ki 6)]), T (.lit 1 [(ki 8)]), T (.lit 1 [(ki 9)]), T (.lit 1 [(.t 9), (.t 8), (.t 7), (.t 6), (.t 5), (.t 4), (.t 3), (.t 2), (.t 1), (.t 0)]), W 1 (.take (.t 0))])
.ret) (.ifs [T (.bin .eql (.x 2) (ki 14)), T (.take (.t 0))] (.t 0) (.seq (.ops [T (.lit 1 [(ki (-1))]), T (.lit 1 [(ki (-1))]), T (.lit 1 [(ki 2), (ki 4)]), T (.lit 1 [(ki 3), (ki 4)]), T (.lit 1 [(ki 2), (ki 4)]), T (.lit 1 [(ki 3), (ki 4)]), T (.lit 1 [(ki 3), (ki 4)]), T (.lit 1 [(ki 3), (ki 4)]), T (.lit 1 [(ki 3), (ki 4)]), T (.lit 1 [(ki 5), (ki 2), (ki 5), (ki 10)]), T (.lit 1 [(.t 9), (.t 8), (.t 7), (.t 6), (.t 5), (.t 4), (.t 3), (.t 2), (.t 1), (.t 0)]), W 1 (.take (.t 0))])
.ret) (.ifs [T (.bin .eql (.x 2) (ki 15)), T (.take (.t 0))] (.t 0) (.seq (.ops [T (.lit 1 [(ki (-1))]), T (.lit 1 [(ki (-1))]), T (.lit 1 [(ki 2)]), T (.lit 1 [(ki 3)]), T (.lit 1 [(ki 4)]), T (.lit 1 [(ki 5)]), T (.lit 1 [(ki 6)]), T (.lit 1 [(ki 7)]), T (.lit 1 [(ki 8)]), T (.lit 1 [(ki 9), (ki 13)]), T (.lit 1 [(.t 9), (.t 8), (.t 7), (.t 6), (.t 5), (.t 4), (.t 3), (.t 2), (.t 1), (.t 0)]), W 1 (.take (.t 0))])
.ret) .skip))))))))))))))))))
(.seq (.ops [W 1 (.take (kn 1))])
.ret))) }
def euphroeref23_row.m : List Nat := [0, 2, 3]
/-- euphroe/fsm.names · 0:/0 -/
def fsm_names.s : SFunc := { np := 0, nv := 1, res := [.cell (some 10) 0], code := (.seq (.ops [W 0 (.alloc false (.v (.agg (List.replicate 10 (.str [])))))])
(.seq (.ops [T (.build (List.replicate 10 (.v (.str []))) [(0, 1, (.c (.v (.str [73, 110, 105, 116, 105, 97, 108])))), (1, 1, (.c (.v (.str [83, 116, 97, 114, 116, 105, 110, 103])))), (2, 1, (.c (.v (.str [67, 108, 111, 115, 101, 100])))), (3, 1, (.c (.v (.str [83, 116, 111, 112, 112, 101, 100])))), (4, 1, (.c (.v (.str [67, 108, 111, 115, 105, 110, 103])))), (5, 1, (.c (.v (.str [83, 116, 111, 112, 112, 105, 110, 103])))), (6, 1, (.c (.v (.str [82, 101, 113, 83, 101, 110, 116])))), (7, 1, (.c (.v (.str [65, 99, 107, 82, 99, 118, 100])))), (8, 1, (.c (.v (.str [65, 99, 107, 83, 101, 110, 116])))), (9, 1, (.c (.v (.str [79, 112, 101, 110, 101, 100]))))]), N (.store 10 (.x 0) (.t 0))])
.ret)) }
def fsm_names.m : List Nat := [0]
def fns : List (Nat × SFunc × List Nat) := [(3, euphroelaw23_FsmNext.s, euphroelaw23_FsmNext.m), (4, euphroelaw23_FsmLayers.s, euphroelaw23_FsmLayers.m), (5, euphroelaw23_FsmRuns.s, euphroelaw23_FsmRuns.m), (6, euphroelaw23_FsmCloses.s, euphroelaw23_FsmCloses.m), (13, fsm_Next.s, fsm_Next.m), (14, euphroeref23_Next.s, euphroeref23_Next.m), (15, euphroelaw23_same.s, euphroelaw23_same.m), (16, fsm_Name.s, fsm_Name.m), (17, euphroeref23_Name.s, euphroeref23_Name.m), (18, fsm_Timed.s, fsm_Timed.m), (19, euphroelaw23_alive.s, euphroelaw23_alive.m), (20, fsm_Run.s, fsm_Run.m), (21, euphroeref23_Run.s, euphroeref23_Run.m), (22, euphroeref23_Reached.s, euphroeref23_Reached.m), (23, fsm_Reaches.s, fsm_Reaches.m), (50, fsm_State_ok.s, fsm_State_ok.m), (52, fsm_rows.s, fsm_rows.m), (53, fsm_action.s, fsm_action.m), (54, euphroeref23_row.s, euphroeref23_row.m), (55, fsm_names.s, fsm_names.m)]
abbrev euphroelaw23_FsmNext.n : Nat := 3
abbrev euphroelaw23_FsmLayers.n : Nat := 4
abbrev euphroelaw23_FsmRuns.n : Nat := 5
abbrev euphroelaw23_FsmCloses.n : Nat := 6
abbrev fsm_Next.n : Nat := 13
abbrev euphroeref23_Next.n : Nat := 14
abbrev euphroelaw23_same.n : Nat := 15
abbrev fsm_Name.n : Nat := 16
abbrev euphroeref23_Name.n : Nat := 17
abbrev fsm_Timed.n : Nat := 18
abbrev euphroelaw23_alive.n : Nat := 19
abbrev fsm_Run.n : Nat := 20
abbrev euphroeref23_Run.n : Nat := 21
abbrev euphroeref23_Reached.n : Nat := 22
abbrev fsm_Reaches.n : Nat := 23
abbrev fsm_State_ok.n : Nat := 50
abbrev fsm_rows.n : Nat := 52
abbrev fsm_action.n : Nat := 53
abbrev euphroeref23_row.n : Nat := 54
abbrev fsm_names.n : Nat := 55
def fnOf (n : Nat) : Option SFunc := (fns.find? (·.1 == n)).map (·.2.1)
def primOf (n : Nat) : Option (List D → St → Option (D × St)) := if n = 51 then some (primSplit splitF) else if n = 82 then some (primSS indexF) else none
def G : Prg := { fn := fnOf, prim := primOf }
theorem euphroelaw23_FsmNext.g : G.fn 3 = some euphroelaw23_FsmNext.s := by rfl
theorem euphroelaw23_FsmLayers.g : G.fn 4 = some euphroelaw23_FsmLayers.s := by rfl
theorem euphroelaw23_FsmRuns.g : G.fn 5 = some euphroelaw23_FsmRuns.s := by rfl
theorem euphroelaw23_FsmCloses.g : G.fn 6 = some euphroelaw23_FsmCloses.s := by rfl
theorem fsm_Next.g : G.fn 13 = some fsm_Next.s := by rfl
theorem euphroeref23_Next.g : G.fn 14 = some euphroeref23_Next.s := by rfl
theorem euphroelaw23_same.g : G.fn 15 = some euphroelaw23_same.s := by rfl
theorem fsm_Name.g : G.fn 16 = some fsm_Name.s := by rfl
theorem euphroeref23_Name.g : G.fn 17 = some euphroeref23_Name.s := by rfl
theorem fsm_Timed.g : G.fn 18 = some fsm_Timed.s := by rfl
theorem euphroelaw23_alive.g : G.fn 19 = some euphroelaw23_alive.s := by rfl
theorem fsm_Run.g : G.fn 20 = some fsm_Run.s := by rfl
theorem euphroeref23_Run.g : G.fn 21 = some euphroeref23_Run.s := by rfl
theorem euphroeref23_Reached.g : G.fn 22 = some euphroeref23_Reached.s := by rfl
theorem fsm_Reaches.g : G.fn 23 = some fsm_Reaches.s := by rfl
theorem fsm_State_ok.g : G.fn 50 = some fsm_State_ok.s := by rfl
theorem fsm_rows.g : G.fn 52 = some fsm_rows.s := by rfl
theorem fsm_action.g : G.fn 53 = some fsm_action.s := by rfl
theorem euphroeref23_row.g : G.fn 54 = some euphroeref23_row.s := by rfl
theorem fsm_names.g : G.fn 55 = some fsm_names.s := by rfl
end Go.Q
