/- The slim code of the functions, written by a program of ours. No condition. -/
import Derived.Test.YtmbdamompcdolaaDoorEpd
set_option maxRecDepth 100000
namespace Go.Q
open SOp SCode
/-- euphroe/euphroelaw26.IpcpoTexts · 0:a/0 1:s/1 2:/4 3:x/5 4:e/6 5:y/7 6:f/8 7:z/9 8:g/10 -/
def euphroelaw26_IpcpoTexts.s : SFunc := { np := 2, nv := 9, res := [.var 2], code := (.seq (.ops [W 2 (.take (kb false))])
(.seq (.ifs [T (.mov (.x 1)), T (.lens (.t 0)), T (.bin .gtr (.t 0) (ki 100))] (.t 0) (.seq (.ops [T (.call false 19 []), W 2 (.take (.t 0))])
.ret) .skip)
(.seq (.ops [T (.mov (.x 1)), T (.call false 20 [(.t 0)]), T (.take (.t 0)), T (.ext 0 (.t 0)), T (.ext 1 (.t 1)), W 3 (.take (.t 1)), W 4 (.take (.t 1))])
(.seq (.ops [T (.mov (.x 1)), T (.call false 21 [(.t 0)]), T (.take (.t 0)), T (.ext 0 (.t 0)), T (.ext 1 (.t 1)), W 5 (.take (.t 1)), W 6 (.take (.t 1))])
(.seq (.ops [T (.mov (.x 0)), T (.call false 22 [(.t 0)]), T (.call false 20 [(.t 0)]), T (.take (.t 0)), T (.ext 0 (.t 0)), T (.ext 1 (.t 1)), W 7 (.take (.t 1)), W 8 (.take (.t 1))])
(.seq (.ops [T (.mov (.x 0)), T (.call false 22 [(.t 0)]), T (.mov (.x 0)), T (.call false 23 [(.t 0)]), T (.bin .eql (.t 2) (.t 0)), T (.mov (.t 0)), GT 0 true (.mov (.x 3)), GT 1 true (.mov (.x 5)), GT 2 true (.bin .eql (.t 1) (.t 0)), T (.pick (.t 3) (.t 0) (kb false)), T (.mov (.t 0)), GT 0 true (.mov (.x 4)), GT 1 true (.mov (.x 6)), GT 2 true (.bin .eql (.t 1) (.t 0)), T (.pick (.t 3) (.t 0) (kb false)), T (.mov (.t 0)), GT 0 true (.mov (.x 7)), GT 1 true (.mov (.x 0)), GT 2 true (.bin .eql (.t 1) (.t 0)), T (.pick (.t 3) (.t 0) (kb false)), T (.mov (.t 0)), GT 0 true (.mov (.x 8)), GT 1 true (.bin .eql (.t 0) (ki 0)), T (.pick (.t 2) (.t 0) (kb false)), T (.mov (.t 0)), GT 0 true (.call false 19 []), T (.pick (.t 1) (.t 0) (kb false)), W 2 (.take (.t 0))])
.ret)))))) }
def euphroelaw26_IpcpoTexts.m : List Nat := [0, 1, 4, 5, 6, 7, 8, 9, 10]
/-- euphroe/euphroelaw26.IpcpoAgrees · 0:client/0 1:server/1 2:client/2 3:server/3 4:/4 5:c/5 6:s/6 7:/28 8:code/7 9:l/8 10:/37 11:code/9 12:back/11 -/
def euphroelaw26_IpcpoAgrees.l0 : SCode := (.seq (.ifs [T (.bin .lss (.x 7) (ki 3))] (.t 0) .skip (.exit 0))
(.seq (.block 1 (.seq (.ops [T (.load (some 5) (.x 6)), T (.load (some 5) (.x 5)), T (.call false 26 [(.t 0)]), T (.call false 25 [(.t 2), (.t 0)]), T (.take (.t 0)), T (.ext 0 (.t 0)), T (.ext 1 (.t 1)), W 8 (.take (.t 1)), W 9 (.take (.t 1))])
(.seq (.ops [W 10 (.mov (.x 8))])
(.block 2 (.ifs [T (.bin .eql (.x 10) (kk .u8 4)), T (.take (.t 0))] (.t 0) (.ops [T (.load (some 5) (.x 5)), T (.mov (.x 9)), T (.call false 27 [(.t 1), (.t 0)]), T (.take (.t 0)), T (.ext 0 (.t 0)), T (.ext 1 (.t 1)), N (.store 5 (.x 5) (.t 1))]) (.ifs [T (.bin .eql (.x 10) (kk .u8 3)), T (.take (.t 0))] (.t 0) (.ops [T (.load (some 5) (.x 5)), T (.mov (.x 9)), T (.call false 28 [(.t 1), (.t 0)]), N (.store 5 (.x 5) (.t 0))]) .skip))))))
(.ops [T (.bin .add (.x 7) (ki 1)), W 7 (.mov (.t 0))])))
def euphroelaw26_IpcpoAgrees.s : SFunc := { np := 2, nv := 13, res := [.var 4], code := (.seq (.ops [W 2 (.box false (.x 0)), W 3 (.box false (.x 1)), W 4 (.take (kb false))])
(.seq (.ops [T (.fa 0 (.x 2)), N (.store 1 (.t 0) (kb false)), T (.fa 0 (.x 3)), N (.store 1 (.t 0) (kb true))])
(.seq (.ifs [T (.fa 1 (.x 3)), T (.load none (.t 0)), T (.bin .eql (.t 0) (kk .u32 0)), T (.mov (.t 0)), GT 0 false (.fa 2 (.x 3)), GT 1 false (.load none (.t 0)), GT 2 false (.bin .eql (.t 0) (kk .u32 0)), T (.pick (.t 3) (kb true) (.t 0))] (.t 0) (.seq (.ops [T (.call false 19 []), W 4 (.take (.t 0))])
.ret) .skip)
(.seq (.ops [T (.load (some 5) (.x 2)), T (.call false 24 [(.t 0)]), T (.load (some 5) (.x 3)), T (.call false 24 [(.t 0)]), W 5 (.alloc false (.v (.agg [(.bool false), (.int .u32 0), (.int .u32 0), (.int .u32 0), (.bool false)]))), W 6 (.alloc true (.v (.agg [(.bool false), (.int .u32 0), (.int .u32 0), (.int .u32 0), (.bool false)]))), N (.store 5 (.x 5) (.t 4)), N (.store 5 (.x 6) (.t 3))])
(.seq (.seq (.ops [W 7 (.mov (ki 0))])
(.block 0 (.loop [8, 9, 10] euphroelaw26_IpcpoAgrees.l0)))
(.seq (.ops [T (.load (some 5) (.x 6)), T (.load (some 5) (.x 5)), T (.call false 26 [(.t 0)]), T (.call false 25 [(.t 2), (.t 0)]), T (.take (.t 0)), T (.ext 0 (.t 0)), T (.ext 1 (.t 1)), W 11 (.take (.t 1)), T (.take (.t 1))])
(.seq (.ops [T (.load (some 5) (.x 5)), T (.load (some 5) (.x 6)), T (.call false 26 [(.t 0)]), T (.call false 25 [(.t 2), (.t 0)]), T (.take (.t 0)), T (.ext 0 (.t 0)), T (.ext 1 (.t 1)), W 12 (.take (.t 1)), T (.take (.t 1))])
(.seq (.ops [T (.mov (.x 11)), T (.bin .eql (.t 0) (kk .u8 2)), T (.mov (.t 0)), GT 0 true (.mov (.x 12)), GT 1 true (.bin .eql (.t 0) (kk .u8 2)), T (.pick (.t 2) (.t 0) (kb false)), T (.mov (.t 0)), GT 0 true (.fa 1 (.x 5)), GT 1 true (.load none (.t 0)), GT 2 true (.fa 2 (.x 6)), GT 3 true (.load none (.t 0)), GT 4 true (.bin .eql (.t 2) (.t 0)), T (.pick (.t 5) (.t 0) (kb false)), T (.mov (.t 0)), GT 0 true (.fa 4 (.x 5)), GT 1 true (.load none (.t 0)), GT 2 true (.un .not (.t 0)), GT 3 true (.mov (.t 0)), GT 0 false (.fa 3 (.x 5)), GT 1 false (.load none (.t 0)), GT 2 false (.fa 3 (.x 6)), GT 3 false (.load none (.t 0)), GT 4 false (.bin .eql (.t 2) (.t 0)), GT 9 true (.pick (.t 5) (kb true) (.t 0)), T (.pick (.t 10) (.t 0) (kb false)), T (.mov (.t 0)), GT 0 true (.call false 19 []), T (.pick (.t 1) (.t 0) (kb false)), W 4 (.take (.t 0))])
.ret)))))))) }
def euphroelaw26_IpcpoAgrees.m : List Nat := [0, 1, 2, 3, 4, 5, 6, 28, 7, 8, 37, 9, 11]
/-- euphroe/euphroelaw26.IpcpoJudges · 0:s/0 1:l/1 2:s/2 3:/4 4:c/5 5:a/6 6:d/7 7:b/8 8:p/9 9:ok/10 10:q/11 11:is/12 -/
def euphroelaw26_IpcpoJudges.s : SFunc := { np := 2, nv := 12, res := [.var 3], code := (.seq (.ops [W 2 (.box false (.x 0)), W 3 (.take (kb false))])
(.seq (.ifs [T (.mov (.x 1)), T (.call false 29 [(.t 0)])] (.t 0) (.seq (.ops [T (.call false 19 []), W 3 (.take (.t 0))])
.ret) .skip)
(.seq (.ops [T (.load (some 5) (.x 2)), T (.call false 24 [(.t 0)]), T (.mov (.x 1)), T (.call false 30 [(.t 0)]), T (.call false 25 [(.t 2), (.t 0)]), T (.take (.t 0)), T (.ext 0 (.t 0)), T (.ext 1 (.t 1)), W 4 (.take (.t 1)), W 5 (.take (.t 1))])
(.seq (.ops [T (.load (some 5) (.x 2)), T (.mov (.x 1)), T (.call false 31 [(.t 1), (.t 0)]), T (.take (.t 0)), T (.ext 0 (.t 0)), T (.ext 1 (.t 1)), W 6 (.take (.t 1)), W 7 (.take (.t 1))])
(.seq (.ops [T (.load (some 5) (.x 2)), T (.call false 24 [(.t 0)]), T (.mov (.x 1)), T (.call false 30 [(.t 0)]), T (.call false 27 [(.t 2), (.t 0)]), T (.take (.t 0)), T (.ext 0 (.t 0)), T (.ext 1 (.t 1)), W 8 (.alloc false (.v (.agg [(.bool false), (.int .u32 0), (.int .u32 0), (.int .u32 0), (.bool false)]))), N (.store 5 (.x 8) (.t 2)), W 9 (.take (.t 2))])
(.seq (.ops [T (.load (some 5) (.x 2)), T (.mov (.x 1)), T (.call false 32 [(.t 1), (.t 0)]), T (.take (.t 0)), T (.ext 0 (.t 0)), T (.ext 1 (.t 1)), W 10 (.alloc false (.v (.agg [(.bool false), (.int .u32 0), (.int .u32 0), (.int .u32 0), (.bool false)]))), N (.store 5 (.x 10) (.t 2)), W 11 (.take (.t 2))])
(.seq (.ops [T (.mov (.x 4)), T (.mov (.x 6)), T (.bin .eql (.t 1) (.t 0)), T (.mov (.t 0)), GT 0 true (.mov (.x 5)), GT 1 true (.mov (.x 7)), GT 2 true (.call false 30 [(.t 0)]), GT 3 true (.call false 33 [(.t 2), (.t 0)]), T (.pick (.t 4) (.t 0) (kb false)), T (.mov (.t 0)), GT 0 true (.load (some 5) (.x 2)), GT 1 true (.call false 24 [(.t 0)]), GT 2 true (.call false 26 [(.t 0)]), GT 3 true (.load (some 5) (.x 2)), GT 4 true (.call false 34 [(.t 0)]), GT 5 true (.call false 30 [(.t 0)]), GT 6 true (.call false 33 [(.t 3), (.t 0)]), T (.pick (.t 7) (.t 0) (kb false)), T (.mov (.t 0)), GT 0 true (.load (some 5) (.x 2)), GT 1 true (.call false 24 [(.t 0)]), GT 2 true (.mov (.x 1)), GT 3 true (.call false 30 [(.t 0)]), GT 4 true (.call false 28 [(.t 2), (.t 0)]), GT 5 true (.load (some 5) (.x 2)), GT 6 true (.mov (.x 1)), GT 7 true (.call false 35 [(.t 1), (.t 0)]), GT 8 true (.call false 24 [(.t 0)]), GT 9 true (.eq (.g [0, 1, 1, 1, 0]) false (.t 4) (.t 0)), T (.pick (.t 10) (.t 0) (kb false)), T (.mov (.t 0)), GT 0 true (.load (some 5) (.x 8)), GT 1 true (.load (some 5) (.x 10)), GT 2 true (.call false 24 [(.t 0)]), GT 3 true (.eq (.g [0, 1, 1, 1, 0]) false (.t 2) (.t 0)), T (.pick (.t 4) (.t 0) (kb false)), T (.mov (.t 0)), GT 0 true (.mov (.x 9)), GT 1 true (.mov (.x 11)), GT 2 true (.eq .b false (.t 1) (.t 0)), T (.pick (.t 3) (.t 0) (kb false)), T (.mov (.t 0)), GT 0 true (.call false 19 []), T (.pick (.t 1) (.t 0) (kb false)), W 3 (.take (.t 0))])
.ret))))))) }
def euphroelaw26_IpcpoJudges.m : List Nat := [0, 1, 2, 4, 5, 6, 7, 8, 9, 10, 11, 12]
/-- euphroe/euphroelaw26.alive · 0:/0 1:a/1 2:e/2 3:c/3 4:l/4 -/
def euphroelaw26_alive.s : SFunc := { np := 0, nv := 5, res := [.var 0], code := (.seq (.ops [W 0 (.take (kb false))])
(.seq (.ops [T (.call false 20 [(.c (.v (.str [49, 48, 46, 48, 46, 48, 46, 49])))]), T (.take (.t 0)), T (.ext 0 (.t 0)), T (.ext 1 (.t 1)), W 1 (.take (.t 1)), W 2 (.take (.t 1))])
(.seq (.ops [T (.build [.v (.bool false), .v (.int .u32 0), .v (.int .u32 0), .v (.int .u32 0), .v (.bool false)] [(0, 1, (kb true)), (2, 1, (kk .u32 5))]), T (.build [.v (.bool false), .v (.int .u32 0), .v (.int .u32 0), .v (.int .u32 0), .v (.bool false)] []), T (.call false 26 [(.t 0)]), T (.call false 25 [(.t 2), (.t 0)]), T (.take (.t 0)), T (.ext 0 (.t 0)), T (.ext 1 (.t 1)), W 3 (.take (.t 1)), W 4 (.take (.t 1))])
(.seq (.ops [T (.call false 22 [(kk .u32 167772161)]), T (.bin .eql (.t 0) (.c (.v (.str [49, 48, 46, 48, 46, 48, 46, 49])))), T (.mov (.t 0)), GT 0 true (.mov (.x 1)), GT 1 true (.bin .eql (.t 0) (kk .u32 167772161)), T (.pick (.t 2) (.t 0) (kb false)), T (.mov (.t 0)), GT 0 true (.mov (.x 2)), GT 1 true (.bin .eql (.t 0) (ki 0)), T (.pick (.t 2) (.t 0) (kb false)), T (.mov (.t 0)), GT 0 true (.mov (.x 3)), GT 1 true (.bin .eql (.t 0) (kk .u8 3)), T (.pick (.t 2) (.t 0) (kb false)), T (.mov (.t 0)), GT 0 true (.mov (.x 4)), GT 1 true (.len (.t 0)), GT 2 true (.bin .eql (.t 0) (ki 1)), T (.pick (.t 3) (.t 0) (kb false)), T (.mov (.t 0)), GT 0 true (.mov (.x 4)), GT 1 true (.ia 2 (.t 0) (ki 0)), GT 2 true (.fa 1 (.t 0)), GT 3 true (.load none (.t 0)), GT 4 true (.ia 1 (.t 0) (ki 3)), GT 5 true (.load none (.t 0)), GT 6 true (.bin .eql (.t 0) (kk .u8 5)), T (.pick (.t 7) (.t 0) (kb false)), W 0 (.take (.t 0))])
.ret)))) }
def euphroelaw26_alive.m : List Nat := [0, 1, 2, 3, 4]
/-- euphroe/ipcpo.Parse · 0:s/0 1:/2 2:/3 3:l/4 4:a/5 5:/12 6:/13 7:/14 8:w/7 9:n/8 10:e/9 -/
def ipcpo_Parse.l0 : SCode := (.seq (.ifs [T (.bin .lss (.x 7) (.x 6))] (.t 0) .skip (.exit 0))
(.seq (.block 1 (.seq (.ops [T (.ia 1 (.x 5) (.x 7)), T (.load none (.t 0)), W 8 (.take (.t 0))])
(.seq (.ops [T (.mov (.x 8)), T (.call false 47 [(.t 0)]), T (.take (.t 0)), T (.ext 0 (.t 0)), T (.ext 1 (.t 1)), W 9 (.take (.t 1)), W 10 (.take (.t 1))])
(.seq (.ifs [T (.mov (.x 10)), T (.eq .i true (.t 0) (.c (.v .nili))), T (.mov (.t 0)), GT 0 false (.mov (.x 9)), GT 1 false (.bin .lss (.t 0) (ki 0)), T (.pick (.t 2) (kb true) (.t 0)), T (.mov (.t 0)), GT 0 false (.mov (.x 9)), GT 1 false (.bin .gtr (.t 0) (ki 255)), T (.pick (.t 2) (kb true) (.t 0))] (.t 0) (.seq (.ops [W 1 (.take (kk .u32 0)), W 2 (.take (ki 3))])
.ret) .skip)
(.ops [T (.mov (.x 4)), T (.bin .shl (.t 0) (kk .u64 8)), T (.mov (.x 9)), T (.cvi .u32 (.t 0)), T (.bin .or (.t 2) (.t 0)), W 4 (.take (.t 0))])))))
(.ops [T (.bin .add (.x 7) (ki 1)), W 7 (.mov (.t 0))])))
def ipcpo_Parse.s : SFunc := { np := 1, nv := 11, res := [.var 1, .var 2], code := (.seq (.ops [W 1 (.take (kk .u32 0)), W 2 (.take (ki 0))])
(.seq (.ops [T (.mov (.x 0)), T (.call false 46 [(.t 0), (.c (.v (.str [46])))]), W 3 (.take (.t 0))])
(.seq (.ops [W 4 (.take (kk .u32 0))])
(.seq (.seq (.ops [W 5 (.mov (.x 3)), W 6 (.len (.x 5)), W 7 (.mov (ki 0))])
(.block 0 (.loop [8, 9, 10] ipcpo_Parse.l0)))
(.seq (.ifs [T (.mov (.x 3)), T (.len (.t 0)), T (.bin .neq (.t 0) (ki 4)), T (.mov (.t 0)), GT 0 false (.mov (.x 4)), GT 1 false (.call false 22 [(.t 0)]), GT 2 false (.mov (.x 0)), GT 3 false (.bin .neq (.t 1) (.t 0)), T (.pick (.t 4) (kb true) (.t 0))] (.t 0) (.seq (.ops [W 1 (.take (kk .u32 0)), W 2 (.take (ki 3))])
.ret) .skip)
(.seq (.ops [T (.take (.x 4)), W 1 (.take (.t 0)), W 2 (.take (ki 0))])
.ret)))))) }
def ipcpo_Parse.m : List Nat := [0, 2, 3, 4, 5, 12, 13, 14, 7, 8, 9]
/-- euphroe/euphroeref26.Parse · 0:s/0 1:/2 2:/3 3:n/4 4:at/5 5:i/6 6:a/7 -/
def euphroeref26_Parse.l0 : SCode := (.seq (.ifs [T (.mov (.x 5)), T (.mov (.x 0)), T (.lens (.t 0)), T (.bin .lss (.t 2) (.t 0)), T (.mov (.t 0)), GT 0 true (.mov (.x 5)), GT 1 true (.bin .lss (.t 0) (ki 16)), T (.pick (.t 2) (.t 0) (kb false))] (.t 0) .skip (.exit 0))
(.seq (.block 1 (.seq (.ifs [T (.mov (.x 0)), T (.mov (.x 5)), T (.idx (.t 1) (.t 0)), T (.bin .eql (.t 0) (kk .u8 46))] (.t 0) (.seq (.ops [T (.mov (.x 4)), T (.bin .add (.t 0) (ki 1)), W 4 (.take (.t 0))])
(.seq (.ifs [T (.mov (.x 4)), T (.bin .gtr (.t 0) (ki 3))] (.t 0) (.seq (.ops [W 1 (.take (kk .u32 0)), W 2 (.take (ki 3))])
.ret) .skip)
(.exit 1))) .skip)
(.seq (.ifs [T (.mov (.x 0)), T (.mov (.x 5)), T (.idx (.t 1) (.t 0)), T (.bin .lss (.t 0) (kk .u8 48)), T (.mov (.t 0)), GT 0 false (.mov (.x 0)), GT 1 false (.mov (.x 5)), GT 2 false (.idx (.t 1) (.t 0)), GT 3 false (.bin .gtr (.t 0) (kk .u8 57)), T (.pick (.t 4) (kb true) (.t 0)), T (.mov (.t 0)), GT 0 false (.mov (.x 4)), GT 1 false (.iaA 4 1 (.x 3) (.t 0)), GT 2 false (.load none (.t 0)), GT 3 false (.bin .gtr (.t 0) (kk .u32 255)), T (.pick (.t 4) (kb true) (.t 0))] (.t 0) (.seq (.ops [W 1 (.take (kk .u32 0)), W 2 (.take (ki 3))])
.ret) .skip)
(.ops [T (.mov (.x 4)), T (.mov (.x 4)), T (.iaA 4 1 (.x 3) (.t 0)), T (.load none (.t 0)), T (.bin .mul (kk .u32 10) (.t 0)), T (.mov (.x 0)), T (.mov (.x 5)), T (.idx (.t 1) (.t 0)), T (.bin .sub (.t 0) (kk .u8 48)), T (.cvi .u32 (.t 0)), T (.bin .add (.t 5) (.t 0)), T (.iaA 4 1 (.x 3) (.t 10)), N (.store 1 (.t 0) (.t 1))]))))
(.ops [T (.mov (.x 5)), T (.bin .add (.t 0) (ki 1)), W 5 (.take (.t 0))])))
def euphroeref26_Parse.s : SFunc := { np := 1, nv := 7, res := [.var 1, .var 2], code := (.seq (.ops [W 1 (.take (kk .u32 0)), W 2 (.take (ki 0))])
(.seq (.ops [W 3 (.alloc false (.v (.agg [(.int .u32 0), (.int .u32 0), (.int .u32 0), (.int .u32 0)])))])
(.seq (.ops [W 4 (.take (ki 0))])
(.seq (.seq (.ops [W 5 (.take (ki 0))])
(.block 0 (.loop [] euphroeref26_Parse.l0)))
(.seq (.ifs [T (.mov (.x 4)), T (.bin .neq (.t 0) (ki 3)), T (.mov (.t 0)), GT 0 false (.iaA 4 1 (.x 3) (ki 0)), GT 1 false (.load none (.t 0)), GT 2 false (.bin .gtr (.t 0) (kk .u32 255)), T (.pick (.t 3) (kb true) (.t 0)), T (.mov (.t 0)), GT 0 false (.iaA 4 1 (.x 3) (ki 1)), GT 1 false (.load none (.t 0)), GT 2 false (.bin .gtr (.t 0) (kk .u32 255)), T (.pick (.t 3) (kb true) (.t 0)), T (.mov (.t 0)), GT 0 false (.iaA 4 1 (.x 3) (ki 2)), GT 1 false (.load none (.t 0)), GT 2 false (.bin .gtr (.t 0) (kk .u32 255)), T (.pick (.t 3) (kb true) (.t 0)), T (.mov (.t 0)), GT 0 false (.iaA 4 1 (.x 3) (ki 3)), GT 1 false (.load none (.t 0)), GT 2 false (.bin .gtr (.t 0) (kk .u32 255)), T (.pick (.t 3) (kb true) (.t 0))] (.t 0) (.seq (.ops [W 1 (.take (kk .u32 0)), W 2 (.take (ki 3))])
.ret) .skip)
(.seq (.ops [T (.iaA 4 1 (.x 3) (ki 0)), T (.load none (.t 0)), T (.bin .mul (kk .u32 16777216) (.t 0)), T (.iaA 4 1 (.x 3) (ki 1)), T (.load none (.t 0)), T (.bin .mul (kk .u32 65536) (.t 0)), T (.bin .add (.t 3) (.t 0)), T (.iaA 4 1 (.x 3) (ki 2)), T (.load none (.t 0)), T (.bin .mul (kk .u32 256) (.t 0)), T (.bin .add (.t 3) (.t 0)), T (.iaA 4 1 (.x 3) (ki 3)), T (.load none (.t 0)), T (.bin .add (.t 2) (.t 0)), W 6 (.take (.t 0))])
(.seq (.ifs [T (.mov (.x 6)), T (.call false 23 [(.t 0)]), T (.mov (.x 0)), T (.bin .neq (.t 1) (.t 0))] (.t 0) (.seq (.ops [W 1 (.take (kk .u32 0)), W 2 (.take (ki 3))])
.ret) .skip)
(.seq (.ops [T (.take (.x 6)), W 1 (.take (.t 0)), W 2 (.take (ki 0))])
.ret)))))))) }
def euphroeref26_Parse.m : List Nat := [0, 2, 3, 4, 5, 6, 7]
/-- euphroe/ipcpo.Text · 0:a/0 1:/2 2:b/3 3:l/5 4:/14 5:/15 6:/16 7:c/7 -/
def ipcpo_Text.l0 : SCode := (.seq (.ifs [T (.bin .lss (.x 6) (.x 5))] (.t 0) .skip (.exit 0))
(.seq (.block 1 (.seq (.ops [T (.ia 1 (.x 4) (.x 6)), T (.load none (.t 0)), W 7 (.take (.t 0))])
(.ops [T (.take (.x 3)), T (.mov (.x 7)), T (.cvi .i64 (.t 0)), T (.call false 49 [(.t 0)]), T (.lit 1 [(.t 0)]), T (.app 1 16 (.t 4) (.t 0)), W 3 (.take (.t 0))])))
(.ops [T (.bin .add (.x 6) (ki 1)), W 6 (.mov (.t 0))])))
def ipcpo_Text.s : SFunc := { np := 1, nv := 8, res := [.var 1], code := (.seq (.ops [W 1 (.take (.c (.v (.str []))))])
(.seq (.ops [T (.mov (.x 0)), T (.cvi .u64 (.t 0)), T (.call false 48 [(.t 0), (ki 4), (kb false)]), T (.take (.t 0)), T (.ext 0 (.t 0)), T (.ext 1 (.t 1)), W 2 (.take (.t 1)), T (.take (.t 1))])
(.seq (.ops [W 3 (.take (kn 1))])
(.seq (.seq (.ops [W 4 (.mov (.x 2)), W 5 (.len (.x 4)), W 6 (.mov (ki 0))])
(.block 0 (.loop [7] ipcpo_Text.l0)))
(.seq (.ops [T (.mov (.x 3)), T (.call false 50 [(.t 0), (.c (.v (.str [46])))]), W 1 (.take (.t 0))])
.ret))))) }
def ipcpo_Text.m : List Nat := [0, 2, 3, 5, 14, 15, 16, 7]
/-- euphroe/euphroeref26.Text · 0:a/0 1:/2 -/
def euphroeref26_Text.s : SFunc := { np := 1, nv := 2, res := [.var 1], code := (.seq (.ops [W 1 (.take (.c (.v (.str []))))])
(.seq (.ops [T (.mov (.x 0)), T (.bin .quo (.t 0) (kk .u32 16777216)), T (.call false 51 [(.t 0)]), T (.bin .add (.t 0) (.c (.v (.str [46])))), T (.mov (.x 0)), T (.bin .quo (.t 0) (kk .u32 65536)), T (.bin .rem (.t 0) (kk .u32 256)), T (.call false 51 [(.t 0)]), T (.bin .add (.t 4) (.t 0)), T (.bin .add (.t 0) (.c (.v (.str [46])))), T (.mov (.x 0)), T (.bin .quo (.t 0) (kk .u32 256)), T (.bin .rem (.t 0) (kk .u32 256)), T (.call false 51 [(.t 0)]), T (.bin .add (.t 4) (.t 0)), T (.bin .add (.t 0) (.c (.v (.str [46])))), T (.mov (.x 0)), T (.bin .rem (.t 0) (kk .u32 256)), T (.call false 51 [(.t 0)]), T (.bin .add (.t 3) (.t 0)), W 1 (.take (.t 0))])
.ret)) }
def euphroeref26_Text.m : List Nat := [0, 2]
/-- euphroe/euphroelaw26.side · 0:s/0 1:s/1 2:/2 -/
def euphroelaw26_side.s : SFunc := { np := 1, nv := 3, res := [.cell (some 5) 2], code := (.seq (.ops [W 1 (.box false (.x 0)), W 2 (.alloc false (.v (.agg [(.bool false), (.int .u32 0), (.int .u32 0), (.int .u32 0), (.bool false)])))])
(.seq (.ops [T (.fa 0 (.x 1)), T (.load none (.t 0)), T (.fa 1 (.x 1)), T (.load none (.t 0)), T (.fa 2 (.x 1)), T (.load none (.t 0)), T (.fa 3 (.x 1)), T (.load none (.t 0)), T (.fa 4 (.x 1)), T (.load none (.t 0)), T (.build [.v (.bool false), .v (.int .u32 0), .v (.int .u32 0), .v (.int .u32 0), .v (.bool false)] [(0, 1, (.t 8)), (1, 1, (.t 6)), (2, 1, (.t 4)), (3, 1, (.t 2)), (4, 1, (.t 0))]), N (.store 5 (.x 2) (.t 0))])
.ret)) }
def euphroelaw26_side.m : List Nat := [0, 1, 2]
/-- euphroe/ipcpo.Judge · 0:s/0 1:l/1 2:/16 3:/17 4:s/2 5:l/3 6:/4 7:/5 8:rejected/6 9:naked/7 10:/15 11:i/8 12:o/9 13:x/11 14:code/10 15:met/13 -/
def ipcpo_Judge.l1 : SCode := (.block 1 (.seq (.ops [T (.load (some 5) (.x 4)), T (.load (some 2) (.x 12)), T (.call false 53 [(.t 1), (.t 0)]), T (.take (.t 0)), T (.ext 0 (.t 0)), T (.ext 1 (.t 1)), W 13 (.alloc false (.agg [.v (.int .u8 0), .nils 1])), W 14 (.take (.t 2)), N (.store 2 (.x 13) (.t 2))])
(.seq (.ops [T (.load none (.x 5)), T (.mov (.x 11)), T (.sub 2 (.t 1) none (some (.t 0)) none), T (.fa 0 (.x 12)), T (.load none (.t 0)), T (.call false 54 [(.t 2), (.t 0)]), T (.take (.t 0)), T (.ext 0 (.t 0)), T (.ext 1 (.t 1)), T (.alloc false (.agg [.v (.int .u8 0), .nils 1])), N (.store 2 (.t 0) (.t 2)), W 15 (.take (.t 2))])
(.block 2 (.ifs [T (.mov (.x 15)), T (.mov (.t 0)), GT 0 false (.mov (.x 14)), GT 1 false (.bin .eql (.t 0) (kk .u8 4)), T (.pick (.t 2) (kb true) (.t 0)), T (.take (.t 0))] (.t 0) (.ops [T (.loadT (.x 8) []), T (.load (some 2) (.x 12)), T (.lit 2 [(.t 0)]), T (.app 2 32 (.t 2) (.t 0)), N (.store 1 (.x 8) (.t 0))]) (.ifs [T (.mov (.x 14)), T (.bin .eql (.t 0) (kk .u8 3)), T (.take (.t 0))] (.t 0) (.ops [T (.loadT (.x 9) []), T (.load (some 2) (.x 13)), T (.lit 2 [(.t 0)]), T (.app 2 32 (.t 2) (.t 0)), N (.store 1 (.x 9) (.t 0))]) .skip))))))
def ipcpo_Judge.l0 : SCode := (.seq (.ops [W 11 (.take (.x 2))])
(.ops [W 12 (.alloc false (.agg [.v (.int .u8 0), .nils 1])), N (.store 2 (.x 12) (.x 3))]))
def ipcpo_Judge.s : SFunc := { np := 2, nv := 16, res := [.var 6, .var 7], code := (.seq (.ops [W 4 (.box false (.x 0)), W 5 (.box false (.x 1)), W 6 (.take (kk .u8 0)), W 7 (.take (kn 2))])
(.seq (.ops [W 8 (.alloc false (.nils 2)), W 9 (.alloc false (.nils 2))])
(.seq (.seq (.ops [T (.load none (.x 5)), W 10 (.call true 52 [(.t 0)])])
(.block 0 (.range 2 77 10 [2, 3] ipcpo_Judge.l0 ipcpo_Judge.l1)))
(.seq (.block 3 (.ifs [T (.load none (.x 8)), T (.len (.t 0)), T (.bin .gtr (.t 0) (ki 0)), T (.take (.t 0))] (.t 0) (.seq (.ops [T (.load none (.x 8)), W 6 (.take (kk .u8 4)), W 7 (.take (.t 1))])
.ret) (.ifs [T (.load none (.x 9)), T (.len (.t 0)), T (.bin .gtr (.t 0) (ki 0)), T (.take (.t 0))] (.t 0) (.seq (.ops [T (.load none (.x 9)), W 6 (.take (kk .u8 3)), W 7 (.take (.t 1))])
.ret) .skip)))
(.seq (.ops [T (.load none (.x 5)), T (.call true 55 [(.t 0)]), W 6 (.take (kk .u8 2)), W 7 (.take (.t 1))])
.ret))))) }
def ipcpo_Judge.m : List Nat := [0, 1, 16, 17, 2, 3, 4, 5, 6, 7, 15, 8, 9, 11, 10, 13]
/-- euphroe/ipcpo.Options · 0:s/0 1:s/1 2:/2 3:l/3 -/
def ipcpo_Options.s : SFunc := { np := 1, nv := 4, res := [.var 2], code := (.seq (.ops [W 1 (.box false (.x 0)), W 2 (.take (kn 2))])
(.seq (.ops [T (.fa 1 (.x 1)), T (.load none (.t 0)), T (.call false 56 [(kk .u8 3), (.t 0)]), T (.lit 2 [(.t 0)]), W 3 (.take (.t 0))])
(.seq (.ifs [T (.fa 0 (.x 1)), T (.load none (.t 0)), T (.un .not (.t 0)), T (.mov (.t 0)), GT 0 true (.fa 4 (.x 1)), GT 1 true (.load none (.t 0)), T (.pick (.t 2) (.t 0) (kb false))] (.t 0) (.ops [T (.take (.x 3)), T (.fa 3 (.x 1)), T (.load none (.t 0)), T (.call false 56 [(kk .u8 129), (.t 0)]), T (.lit 2 [(.t 0)]), T (.app 2 32 (.t 4) (.t 0)), W 3 (.take (.t 0))]) .skip)
(.seq (.ops [T (.take (.x 3)), W 2 (.take (.t 0))])
.ret)))) }
def ipcpo_Options.m : List Nat := [0, 1, 2, 3]
/-- euphroe/ipcpo.Rejected · 0:s/0 1:l/1 2:s/2 3:/4 4:/5 5:is/7 6:bad/9 -/
def ipcpo_Rejected.s : SFunc := { np := 2, nv := 7, res := [.cell (some 5) 3, .var 4], code := (.seq (.ops [W 2 (.box false (.x 0)), W 3 (.alloc false (.v (.agg [(.bool false), (.int .u32 0), (.int .u32 0), (.int .u32 0), (.bool false)]))), W 4 (.take (kb false))])
(.seq (.seq (.ops [T (.mov (.x 1)), T (.call false 54 [(.t 0), (kk .u8 129)]), T (.take (.t 0)), T (.ext 0 (.t 0)), T (.ext 1 (.t 1)), T (.alloc false (.agg [.v (.int .u8 0), .nils 1])), N (.store 2 (.t 0) (.t 2)), W 5 (.take (.t 2))])
(.ifs [T (.mov (.x 5)), T (.mov (.t 0)), GT 0 true (.fa 0 (.x 2)), GT 1 true (.load none (.t 0)), GT 2 true (.un .not (.t 0)), T (.pick (.t 3) (.t 0) (kb false))] (.t 0) (.ops [T (.fa 4 (.x 2)), N (.store 1 (.t 0) (kb false))]) .skip))
(.seq (.ops [T (.mov (.x 1)), T (.call false 54 [(.t 0), (kk .u8 3)]), T (.take (.t 0)), T (.ext 0 (.t 0)), T (.ext 1 (.t 1)), T (.alloc false (.agg [.v (.int .u8 0), .nils 1])), N (.store 2 (.t 0) (.t 2)), W 6 (.take (.t 2))])
(.seq (.ops [T (.load (some 5) (.x 2)), T (.mov (.x 6)), T (.un .not (.t 0)), N (.store 5 (.x 3) (.t 2)), W 4 (.take (.t 1))])
.ret)))) }
def ipcpo_Rejected.m : List Nat := [0, 1, 2, 4, 5, 7, 9]
/-- euphroe/ipcpo.Naked · 0:s/0 1:l/1 2:s/2 3:/4 -/
def ipcpo_Naked.s : SFunc := { np := 2, nv := 4, res := [.cell (some 5) 3], code := (.seq (.ops [W 2 (.box false (.x 0)), W 3 (.alloc false (.v (.agg [(.bool false), (.int .u32 0), (.int .u32 0), (.int .u32 0), (.bool false)])))])
(.seq (.ifs [T (.fa 0 (.x 2)), T (.load none (.t 0))] (.t 0) (.seq (.ops [T (.load (some 5) (.x 2)), N (.store 5 (.x 3) (.t 0))])
.ret) .skip)
(.seq (.ops [T (.mov (.x 1)), T (.fa 1 (.x 2)), T (.load none (.t 0)), T (.call false 57 [(.t 2), (kk .u8 3), (.t 0)]), T (.fa 1 (.x 2)), N (.store 1 (.t 0) (.t 1))])
(.seq (.ifs [T (.fa 4 (.x 2)), T (.load none (.t 0))] (.t 0) (.ops [T (.mov (.x 1)), T (.fa 3 (.x 2)), T (.load none (.t 0)), T (.call false 57 [(.t 2), (kk .u8 129), (.t 0)]), T (.fa 3 (.x 2)), N (.store 1 (.t 0) (.t 1))]) .skip)
(.seq (.ops [T (.load (some 5) (.x 2)), N (.store 5 (.x 3) (.t 0))])
.ret))))) }
def ipcpo_Naked.m : List Nat := [0, 1, 2, 4]
/-- euphroe/euphroelaw26.far · 0:l/0 1:/2 2:/9 3:/10 4:/11 5:o/4 -/
def euphroelaw26_far.l0 : SCode := (.seq (.ifs [T (.bin .lss (.x 4) (.x 3))] (.t 0) .skip (.exit 0))
(.seq (.block 1 (.seq (.ops [T (.ia 2 (.x 2) (.x 4)), T (.load (some 2) (.t 0)), W 5 (.alloc false (.agg [.v (.int .u8 0), .nils 1])), N (.store 2 (.x 5) (.t 1))])
(.ifs [T (.fa 1 (.x 5)), T (.load none (.t 0)), T (.len (.t 0)), T (.bin .gtr (.t 0) (ki 300))] (.t 0) (.seq (.ops [W 1 (.take (kb true))])
.ret) .skip)))
(.ops [T (.bin .add (.x 4) (ki 1)), W 4 (.mov (.t 0))])))
def euphroelaw26_far.s : SFunc := { np := 1, nv := 6, res := [.var 1], code := (.seq (.ops [W 1 (.take (kb false))])
(.seq (.seq (.ops [T (.mov (.x 0)), T (.mov (.x 0)), T (.len (.t 0)), T (.mn (.t 0) (ki 40)), W 2 (.sub 2 (.t 3) none (some (.t 0)) none), W 3 (.len (.x 2)), W 4 (.mov (ki 0))])
(.block 0 (.loop [5] euphroelaw26_far.l0)))
(.seq (.ops [T (.mov (.x 0)), T (.len (.t 0)), T (.bin .gtr (.t 0) (ki 40)), W 1 (.take (.t 0))])
.ret))) }
def euphroelaw26_far.m : List Nat := [0, 2, 9, 10, 11, 4]
/-- euphroe/euphroelaw26.theirs · 0:l/0 1:/2 2:out/3 3:/6 4:/7 5:/8 6:o/5 -/
def euphroelaw26_theirs.l0 : SCode := (.seq (.ifs [T (.bin .lss (.x 5) (.x 4))] (.t 0) .skip (.exit 0))
(.seq (.block 1 (.seq (.ops [T (.ia 2 (.x 3) (.x 5)), T (.load (some 2) (.t 0)), W 6 (.alloc false (.agg [.v (.int .u8 0), .nils 1])), N (.store 2 (.x 6) (.t 1))])
(.ops [T (.take (.x 2)), T (.fa 0 (.x 6)), T (.load none (.t 0)), T (.fa 1 (.x 6)), T (.load none (.t 0)), T (.build [.v (.int .u8 0), .nils 1] [(0, 1, (.t 2)), (1, 1, (.t 0))]), T (.lit 2 [(.t 0)]), T (.app 2 32 (.t 6) (.t 0)), W 2 (.take (.t 0))])))
(.ops [T (.bin .add (.x 5) (ki 1)), W 5 (.mov (.t 0))])))
def euphroelaw26_theirs.s : SFunc := { np := 1, nv := 7, res := [.var 1], code := (.seq (.ops [W 1 (.take (kn 2))])
(.seq (.ops [W 2 (.take (kn 2))])
(.seq (.seq (.ops [W 3 (.mov (.x 0)), W 4 (.len (.x 3)), W 5 (.mov (ki 0))])
(.block 0 (.loop [6] euphroelaw26_theirs.l0)))
(.seq (.ops [T (.take (.x 2)), W 1 (.take (.t 0))])
.ret)))) }
def euphroelaw26_theirs.m : List Nat := [0, 2, 3, 6, 7, 8, 5]
/-- euphroe/euphroeref26.Judge · 0:s/0 1:l/1 2:s/2 3:/4 4:/5 5:rej/6 6:nak/7 7:i/8 8:met/10 9:gives/11 -/
def euphroeref26_Judge.l0 : SCode := (.seq (.ifs [T (.mov (.x 7)), T (.mov (.x 1)), T (.len (.t 0)), T (.bin .lss (.t 2) (.t 0))] (.t 0) .skip (.exit 0))
(.seq (.block 1 (.seq (.ops [T (.mov (.x 1)), T (.mov (.x 7)), T (.sub 2 (.t 1) none (some (.t 0)) none), T (.mov (.x 1)), T (.mov (.x 7)), T (.ia 2 (.t 1) (.t 0)), T (.fa 0 (.t 0)), T (.load none (.t 0)), T (.call false 58 [(.t 5), (.t 0)]), T (.take (.t 0)), T (.ext 0 (.t 0)), T (.ext 1 (.t 1)), T (.alloc false (.agg [.v (.int .u8 0), .nils 1])), N (.store 2 (.t 0) (.t 2)), W 8 (.take (.t 2))])
(.seq (.ifs [T (.load (some 5) (.x 2)), T (.mov (.x 1)), T (.mov (.x 7)), T (.ia 2 (.t 1) (.t 0)), T (.load (some 2) (.t 0)), T (.mov (.x 8)), T (.call false 59 [(.t 5), (.t 1), (.t 0)])] (.t 0) (.seq (.ops [T (.take (.x 5)), T (.mov (.x 1)), T (.mov (.x 7)), T (.ia 2 (.t 1) (.t 0)), T (.load (some 2) (.t 0)), T (.lit 2 [(.t 0)]), T (.app 2 32 (.t 5) (.t 0)), W 5 (.take (.t 0))])
(.exit 1)) .skip)
(.seq (.ops [T (.fa 2 (.x 2)), T (.load none (.t 0)), W 9 (.take (.t 0))])
(.seq (.ifs [T (.mov (.x 1)), T (.mov (.x 7)), T (.ia 2 (.t 1) (.t 0)), T (.fa 0 (.t 0)), T (.load none (.t 0)), T (.bin .eql (.t 0) (kk .u8 129))] (.t 0) (.ops [T (.fa 3 (.x 2)), T (.load none (.t 0)), W 9 (.take (.t 0))]) .skip)
(.ifs [T (.fa 0 (.x 2)), T (.load none (.t 0)), T (.mov (.t 0)), GT 0 true (.mov (.x 1)), GT 1 true (.mov (.x 7)), GT 2 true (.ia 2 (.t 1) (.t 0)), GT 3 true (.fa 1 (.t 0)), GT 4 true (.load none (.t 0)), GT 5 true (.call false 44 [(.t 0)]), GT 6 true (.cvi .u32 (.t 0)), GT 7 true (.mov (.x 9)), GT 8 true (.bin .neq (.t 1) (.t 0)), T (.pick (.t 9) (.t 0) (kb false))] (.t 0) (.ops [T (.take (.x 6)), T (.mov (.x 1)), T (.mov (.x 7)), T (.ia 2 (.t 1) (.t 0)), T (.fa 0 (.t 0)), T (.load none (.t 0)), T (.mov (.x 9)), T (.call false 60 [(.t 1), (.t 0)]), T (.lit 2 [(.t 0)]), T (.app 2 32 (.t 8) (.t 0)), W 6 (.take (.t 0))]) .skip))))))
(.ops [T (.mov (.x 7)), T (.bin .add (.t 0) (ki 1)), W 7 (.take (.t 0))])))
def euphroeref26_Judge.s : SFunc := { np := 2, nv := 10, res := [.var 3, .var 4], code := (.seq (.ops [W 2 (.box false (.x 0)), W 3 (.take (kk .u8 0)), W 4 (.take (kn 2))])
(.seq (.ops [W 5 (.take (kn 2)), W 6 (.take (kn 2))])
(.seq (.seq (.ops [W 7 (.take (ki 0))])
(.block 0 (.loop [8, 9] euphroeref26_Judge.l0)))
(.seq (.ifs [T (.mov (.x 5)), T (.len (.t 0)), T (.bin .gtr (.t 0) (ki 0))] (.t 0) (.seq (.ops [T (.take (.x 5)), W 3 (.take (kk .u8 4)), W 4 (.take (.t 1))])
.ret) .skip)
(.seq (.ifs [T (.mov (.x 6)), T (.len (.t 0)), T (.bin .gtr (.t 0) (ki 0))] (.t 0) (.seq (.ops [T (.take (.x 6)), W 3 (.take (kk .u8 3)), W 4 (.take (.t 1))])
.ret) .skip)
(.seq (.ops [T (.take (.x 1)), W 3 (.take (kk .u8 2)), W 4 (.take (.t 1))])
.ret)))))) }
def euphroeref26_Judge.m : List Nat := [0, 1, 2, 4, 5, 6, 7, 8, 10, 11]
/-- euphroe/euphroeref26.Rejected · 0:s/0 1:l/1 2:s/2 3:/4 4:/5 5:is/7 6:bad/9 -/
def euphroeref26_Rejected.s : SFunc := { np := 2, nv := 7, res := [.cell (some 5) 3, .var 4], code := (.seq (.ops [W 2 (.box false (.x 0)), W 3 (.alloc false (.v (.agg [(.bool false), (.int .u32 0), (.int .u32 0), (.int .u32 0), (.bool false)]))), W 4 (.take (kb false))])
(.seq (.seq (.ops [T (.mov (.x 1)), T (.call false 58 [(.t 0), (kk .u8 129)]), T (.take (.t 0)), T (.ext 0 (.t 0)), T (.ext 1 (.t 1)), T (.alloc false (.agg [.v (.int .u8 0), .nils 1])), N (.store 2 (.t 0) (.t 2)), W 5 (.take (.t 2))])
(.ifs [T (.mov (.x 5)), T (.mov (.t 0)), GT 0 true (.fa 0 (.x 2)), GT 1 true (.load none (.t 0)), GT 2 true (.un .not (.t 0)), T (.pick (.t 3) (.t 0) (kb false))] (.t 0) (.ops [T (.fa 4 (.x 2)), N (.store 1 (.t 0) (kb false))]) .skip))
(.seq (.ops [T (.mov (.x 1)), T (.call false 58 [(.t 0), (kk .u8 3)]), T (.take (.t 0)), T (.ext 0 (.t 0)), T (.ext 1 (.t 1)), T (.alloc false (.agg [.v (.int .u8 0), .nils 1])), N (.store 2 (.t 0) (.t 2)), W 6 (.take (.t 2))])
(.seq (.ops [T (.load (some 5) (.x 2)), T (.mov (.x 6)), T (.un .not (.t 0)), N (.store 5 (.x 3) (.t 2)), W 4 (.take (.t 1))])
.ret)))) }
def euphroeref26_Rejected.m : List Nat := [0, 1, 2, 4, 5, 7, 9]
/-- euphroe/opts.Same · 0:a/0 1:b/1 2:/4 -/
def opts_Same.s : SFunc := { np := 2, nv := 3, res := [.var 2], code := (.seq (.ops [W 2 (.take (kb false))])
(.seq (.ops [T (.mov (.x 0)), T (.mov (.x 1)), T (.call true 61 [(.t 1), (.t 0), (.c (.v (.fn 62)))]), W 2 (.take (.t 0))])
.ret)) }
def opts_Same.m : List Nat := [0, 1, 4]
/-- euphroe/euphroeref26.Options · 0:s/0 1:s/1 2:/2 3:out/3 -/
def euphroeref26_Options.s : SFunc := { np := 1, nv := 4, res := [.var 2], code := (.seq (.ops [W 1 (.box false (.x 0)), W 2 (.take (kn 2))])
(.seq (.ops [T (.fa 1 (.x 1)), T (.load none (.t 0)), T (.call false 60 [(kk .u8 3), (.t 0)]), T (.lit 2 [(.t 0)]), W 3 (.take (.t 0))])
(.seq (.ifs [T (.fa 0 (.x 1)), T (.load none (.t 0)), T (.un .not (.t 0)), T (.mov (.t 0)), GT 0 true (.fa 4 (.x 1)), GT 1 true (.load none (.t 0)), T (.pick (.t 2) (.t 0) (kb false))] (.t 0) (.ops [T (.take (.x 3)), T (.fa 3 (.x 1)), T (.load none (.t 0)), T (.call false 60 [(kk .u8 129), (.t 0)]), T (.lit 2 [(.t 0)]), T (.app 2 32 (.t 4) (.t 0)), W 3 (.take (.t 0))]) .skip)
(.seq (.ops [T (.take (.x 3)), W 2 (.take (.t 0))])
.ret)))) }
def euphroeref26_Options.m : List Nat := [0, 1, 2, 3]
/-- euphroe/euphroeref26.Naked · 0:s/0 1:l/1 2:s/2 3:/4 4:a/5 5:a/6 -/
def euphroeref26_Naked.s : SFunc := { np := 2, nv := 6, res := [.cell (some 5) 3], code := (.seq (.ops [W 2 (.box false (.x 0)), W 3 (.alloc false (.v (.agg [(.bool false), (.int .u32 0), (.int .u32 0), (.int .u32 0), (.bool false)])))])
(.seq (.ifs [T (.fa 0 (.x 2)), T (.load none (.t 0))] (.t 0) (.seq (.ops [T (.load (some 5) (.x 2)), N (.store 5 (.x 3) (.t 0))])
.ret) .skip)
(.seq (.seq (.ops [T (.mov (.x 1)), T (.call false 63 [(.t 0), (kk .u8 3)]), W 4 (.take (.t 0))])
(.ifs [T (.mov (.x 4)), T (.bin .neq (.t 0) (kk .u32 0))] (.t 0) (.ops [T (.mov (.x 4)), T (.fa 1 (.x 2)), N (.store 1 (.t 0) (.t 1))]) .skip))
(.seq (.seq (.ops [T (.mov (.x 1)), T (.call false 63 [(.t 0), (kk .u8 129)]), W 5 (.take (.t 0))])
(.ifs [T (.mov (.x 5)), T (.bin .neq (.t 0) (kk .u32 0)), T (.mov (.t 0)), GT 0 true (.fa 4 (.x 2)), GT 1 true (.load none (.t 0)), T (.pick (.t 2) (.t 0) (kb false))] (.t 0) (.ops [T (.mov (.x 5)), T (.fa 3 (.x 2)), N (.store 1 (.t 0) (.t 1))]) .skip))
(.seq (.ops [T (.load (some 5) (.x 2)), N (.store 5 (.x 3) (.t 0))])
.ret))))) }
def euphroeref26_Naked.m : List Nat := [0, 1, 2, 4, 5, 6]
/-- euphroe/euphroeref01.Big · 0:n/0 1:width/1 2:/4 3:out/5 4:i/6 -/
def euphroeref01_Big.l0 : SCode := (.seq (.ifs [T (.mov (.x 4)), T (.bin .geq (.t 0) (ki 0))] (.t 0) .skip (.exit 0))
(.seq (.block 1 (.seq (.ops [T (.mov (.x 3)), T (.mov (.x 4)), T (.mov (.x 0)), T (.bin .rem (.t 0) (kk .u64 256)), T (.cvi .u8 (.t 0)), T (.ia 1 (.t 4) (.t 3)), N (.store 1 (.t 0) (.t 1))])
(.ops [T (.mov (.x 0)), T (.bin .quo (.t 0) (kk .u64 256)), W 0 (.take (.t 0))])))
(.ops [T (.mov (.x 4)), T (.bin .sub (.t 0) (ki 1)), W 4 (.take (.t 0))])))
def euphroeref01_Big.s : SFunc := { np := 2, nv := 5, res := [.var 2], code := (.seq (.ops [W 2 (.take (kn 1))])
(.seq (.ops [T (.mov (.x 1)), T (.make 1 1 (.v (.int .u8 0)) (.t 0) (.t 0)), W 3 (.take (.t 0))])
(.seq (.seq (.ops [T (.mov (.x 1)), T (.bin .sub (.t 0) (ki 1)), W 4 (.take (.t 0))])
(.block 0 (.loop [] euphroeref01_Big.l0)))
(.seq (.ops [T (.take (.x 3)), W 2 (.take (.t 0))])
.ret)))) }
def euphroeref01_Big.m : List Nat := [0, 1, 4, 5, 6]
/-- euphroe/octs.Get · 0:b/0 1:little/1 2:/4 3:/5 4:n/6 5:/17 6:/18 7:/19 8:i/7 9:c/8 -/
def octs_Get.l0 : SCode := (.seq (.ifs [T (.bin .lss (.x 7) (.x 6))] (.t 0) .skip (.exit 0))
(.seq (.block 1 (.seq (.ops [T (.mov (.x 7)), T (.ia 1 (.x 5) (.x 7)), T (.load none (.t 0)), W 8 (.take (.t 2)), W 9 (.take (.t 1))])
(.ifs [T (.mov (.x 1))] (.t 0) (.ops [T (.mov (.x 4)), T (.mov (.x 9)), T (.cvi .u64 (.t 0)), T (.mov (.x 8)), T (.bin .mul (ki 8) (.t 0)), T (.bin .shl (.t 2) (.t 0)), T (.bin .or (.t 5) (.t 0)), W 4 (.take (.t 0))]) (.ops [T (.mov (.x 4)), T (.bin .shl (.t 0) (kk .u64 8)), T (.mov (.x 9)), T (.cvi .u64 (.t 0)), T (.bin .or (.t 2) (.t 0)), W 4 (.take (.t 0))]))))
(.ops [T (.bin .add (.x 7) (ki 1)), W 7 (.mov (.t 0))])))
def octs_Get.s : SFunc := { np := 2, nv := 10, res := [.var 2, .var 3], code := (.seq (.ops [W 2 (.take (kk .u64 0)), W 3 (.take (ki 0))])
(.seq (.ifs [T (.mov (.x 0)), T (.len (.t 0)), T (.bin .lss (.t 0) (ki 1)), T (.mov (.t 0)), GT 0 false (.mov (.x 0)), GT 1 false (.len (.t 0)), GT 2 false (.bin .gtr (.t 0) (ki 8)), T (.pick (.t 3) (kb true) (.t 0))] (.t 0) (.seq (.ops [W 2 (.take (kk .u64 0)), W 3 (.take (ki 1))])
.ret) .skip)
(.seq (.ops [W 4 (.take (kk .u64 0))])
(.seq (.seq (.ops [W 5 (.mov (.x 0)), W 6 (.len (.x 5)), W 7 (.mov (ki 0))])
(.block 0 (.loop [8, 9] octs_Get.l0)))
(.seq (.ops [T (.take (.x 4)), W 2 (.take (.t 0)), W 3 (.take (ki 0))])
.ret))))) }
def octs_Get.m : List Nat := [0, 1, 4, 5, 6, 17, 18, 19, 7, 8]
/-- euphroe/euphroeref01.Num · 0:b/0 1:/2 2:n/3 3:i/4 -/
def euphroeref01_Num.l0 : SCode := (.seq (.ifs [T (.mov (.x 3)), T (.mov (.x 0)), T (.len (.t 0)), T (.bin .lss (.t 2) (.t 0))] (.t 0) .skip (.exit 0))
(.seq (.block 1 (.ops [T (.mov (.x 2)), T (.bin .mul (.t 0) (kk .u64 256)), T (.mov (.x 0)), T (.mov (.x 3)), T (.ia 1 (.t 1) (.t 0)), T (.load none (.t 0)), T (.cvi .u64 (.t 0)), T (.bin .add (.t 5) (.t 0)), W 2 (.take (.t 0))]))
(.ops [T (.mov (.x 3)), T (.bin .add (.t 0) (ki 1)), W 3 (.take (.t 0))])))
def euphroeref01_Num.s : SFunc := { np := 1, nv := 4, res := [.var 1], code := (.seq (.ops [W 1 (.take (kk .u64 0))])
(.seq (.ops [W 2 (.take (kk .u64 0))])
(.seq (.seq (.ops [W 3 (.take (ki 0))])
(.block 0 (.loop [] euphroeref01_Num.l0)))
(.seq (.ops [T (.take (.x 2)), W 1 (.take (.t 0))])
.ret)))) }
def euphroeref01_Num.m : List Nat := [0, 2, 3, 4]
/-- bytes.Equal · 0:a/0 1:b/1 2:/4 -/
def bytes_Equal.s : SFunc := { np := 2, nv := 3, res := [.var 2], code := (.seq (.ops [W 2 (.take (kb false))])
(.seq (.ops [T (.mov (.x 0)), T (.b2s (.t 0)), T (.mov (.x 1)), T (.b2s (.t 0)), T (.bin .eql (.t 2) (.t 0)), W 2 (.take (.t 0))])
.ret)) }
def bytes_Equal.m : List Nat := [0, 1, 4]
/-- euphroe/octs.Put · 0:n/0 1:width/1 2:little/2 3:/6 4:/7 5:b/8 6:/19 7:/20 8:i/9 -/
def octs_Put.l0 : SCode := (.seq (.ifs [T (.bin .lss (.x 7) (.x 6))] (.t 0) .skip (.exit 0))
(.seq (.block 1 (.seq (.ops [T (.mov (.x 7)), W 8 (.take (.t 0))])
(.ops [T (.mov (.x 5)), T (.mov (.x 8)), T (.mov (.x 0)), T (.mov (.x 8)), T (.bin .mul (ki 8) (.t 0)), T (.bin .shr (.t 2) (.t 0)), T (.cvi .u8 (.t 0)), T (.ia 1 (.t 6) (.t 5)), N (.store 1 (.t 0) (.t 1))])))
(.ops [T (.bin .add (.x 7) (ki 1)), W 7 (.mov (.t 0))])))
def octs_Put.s : SFunc := { np := 3, nv := 9, res := [.var 3, .var 4], code := (.seq (.ops [W 3 (.take (kn 1)), W 4 (.take (ki 0))])
(.seq (.ifs [T (.mov (.x 1)), T (.bin .lss (.t 0) (ki 1)), T (.mov (.t 0)), GT 0 false (.mov (.x 1)), GT 1 false (.bin .gtr (.t 0) (ki 8)), T (.pick (.t 2) (kb true) (.t 0))] (.t 0) (.seq (.ops [W 3 (.take (kn 1)), W 4 (.take (ki 1))])
.ret) .skip)
(.seq (.ops [T (.mov (.x 1)), T (.make 1 1 (.v (.int .u8 0)) (.t 0) (.t 0)), W 5 (.take (.t 0))])
(.seq (.seq (.ops [T (.mov (.x 5)), W 6 (.len (.t 0)), W 7 (.mov (ki 0))])
(.block 0 (.loop [8] octs_Put.l0)))
(.seq (.ifs [T (.mov (.x 2)), T (.un .not (.t 0))] (.t 0) (.ops [T (.mov (.x 5)), T (.call true 72 [(.t 0)])]) .skip)
(.seq (.ops [T (.take (.x 5)), W 3 (.take (.t 0)), W 4 (.take (ki 0))])
.ret)))))) }
def octs_Put.m : List Nat := [0, 1, 2, 6, 7, 8, 19, 20, 9]
/-- euphroe/euphroeref26.digits · 0:n/0 1:/2 -/
def euphroeref26_digits.s : SFunc := { np := 1, nv := 2, res := [.var 1], code := (.seq (.ops [W 1 (.take (.c (.v (.str []))))])
(.seq (.ifs [T (.mov (.x 0)), T (.bin .lss (.t 0) (kk .u32 10))] (.t 0) (.seq (.ops [T (.mov (.x 0)), T (.bin .add (kk .u32 48) (.t 0)), T (.cvi .u8 (.t 0)), T (.lit 1 [(.t 0)]), T (.b2s (.t 0)), W 1 (.take (.t 0))])
.ret) .skip)
(.seq (.ops [T (.mov (.x 0)), T (.bin .quo (.t 0) (kk .u32 10)), T (.call false 51 [(.t 0)]), T (.mov (.x 0)), T (.bin .rem (.t 0) (kk .u32 10)), T (.call false 51 [(.t 0)]), T (.bin .add (.t 3) (.t 0)), W 1 (.take (.t 0))])
.ret))) }
def euphroeref26_digits.m : List Nat := [0, 2]
/-- slices.All[[]euphroe/api.Option,euphroe/api.Option] · 0:s/0 1:s/1 2:/2 -/
def slices_All_api_Option.s : SFunc := { np := 1, nv := 3, res := [.var 2], code := (.seq (.ops [W 1 (.box true (.x 0)), W 2 (.take (.c (.v .nilf)))])
(.seq (.ops [T (.mkf 77 [] [(.x 1)]), W 2 (.take (.t 0))])
.ret)) }
def slices_All_api_Option.m : List Nat := [0, 1, 2]
/-- (euphroe/ipcpo.Side).one · 0:s/0 1:o/1 2:s/2 3:o/3 4:/4 5:/5 6:a/6 7:ok/7 8:give/8 9:has/9 -/
def ipcpo_Side_one.s : SFunc := { np := 2, nv := 10, res := [.var 4, .cell (some 2) 5], code := (.seq (.ops [W 2 (.box false (.x 0)), W 3 (.box false (.x 1)), W 4 (.take (kk .u8 0)), W 5 (.alloc false (.agg [.v (.int .u8 0), .nils 1]))])
(.seq (.ops [T (.load (some 2) (.x 3)), T (.call false 78 [(.t 0)]), T (.take (.t 0)), T (.ext 0 (.t 0)), T (.ext 1 (.t 1)), W 6 (.take (.t 1)), W 7 (.take (.t 1))])
(.seq (.ifs [T (.fa 0 (.x 2)), T (.load none (.t 0)), T (.un .not (.t 0))] (.t 0) (.seq (.ifs [T (.mov (.x 7)), T (.un .not (.t 0)), T (.mov (.t 0)), GT 0 false (.fa 0 (.x 3)), GT 1 false (.load none (.t 0)), GT 2 false (.bin .neq (.t 0) (kk .u8 3)), T (.pick (.t 3) (kb true) (.t 0)), T (.mov (.t 0)), GT 0 false (.mov (.x 6)), GT 1 false (.bin .eql (.t 0) (kk .u32 0)), T (.pick (.t 2) (kb true) (.t 0))] (.t 0) (.seq (.ops [T (.load (some 2) (.x 3)), W 4 (.take (kk .u8 4)), N (.store 2 (.x 5) (.t 1))])
.ret) .skip)
(.seq (.ops [T (.load (some 2) (.x 3)), W 4 (.take (kk .u8 2)), N (.store 2 (.x 5) (.t 1))])
.ret)) .skip)
(.seq (.ops [T (.load (some 5) (.x 2)), T (.fa 0 (.x 3)), T (.load none (.t 0)), T (.call false 79 [(.t 2), (.t 0)]), T (.take (.t 0)), T (.ext 0 (.t 0)), T (.ext 1 (.t 1)), W 8 (.take (.t 1)), W 9 (.take (.t 1))])
(.seq (.block 0 (.ifs [T (.mov (.x 7)), T (.un .not (.t 0)), T (.mov (.t 0)), GT 0 false (.mov (.x 9)), GT 1 false (.un .not (.t 0)), T (.pick (.t 2) (kb true) (.t 0)), T (.take (.t 0))] (.t 0) (.seq (.ops [T (.load (some 2) (.x 3)), W 4 (.take (kk .u8 4)), N (.store 2 (.x 5) (.t 1))])
.ret) (.ifs [T (.mov (.x 6)), T (.mov (.x 8)), T (.bin .neq (.t 1) (.t 0)), T (.take (.t 0))] (.t 0) (.seq (.ops [T (.fa 0 (.x 3)), T (.load none (.t 0)), T (.mov (.x 8)), T (.call false 56 [(.t 1), (.t 0)]), W 4 (.take (kk .u8 3)), N (.store 2 (.x 5) (.t 1))])
.ret) .skip)))
(.seq (.ops [T (.load (some 2) (.x 3)), W 4 (.take (kk .u8 2)), N (.store 2 (.x 5) (.t 1))])
.ret)))))) }
def ipcpo_Side_one.m : List Nat := [0, 1, 2, 3, 4, 5, 6, 7, 8, 9]
/-- euphroe/opts.Find · 0:l/0 1:kind/1 2:kind/3 3:/4 4:/5 5:i/6 -/
def opts_Find.s : SFunc := { np := 2, nv := 6, res := [.cell (some 2) 3, .var 4], code := (.seq (.ops [W 2 (.box false (.x 1)), W 3 (.alloc false (.agg [.v (.int .u8 0), .nils 1])), W 4 (.take (kb false))])
(.seq (.ops [T (.mov (.x 0)), T (.mkf 81 [] [(.x 2)]), T (.call true 80 [(.t 1), (.t 0)]), W 5 (.take (.t 0))])
(.seq (.ifs [T (.mov (.x 5)), T (.bin .lss (.t 0) (ki 0))] (.t 0) (.seq (.ops [T (.build [.v (.int .u8 0), .nils 1] []), N (.store 2 (.x 3) (.t 0)), W 4 (.take (kb false))])
.ret) .skip)
(.seq (.ops [T (.mov (.x 0)), T (.mov (.x 5)), T (.ia 2 (.t 1) (.t 0)), T (.load (some 2) (.t 0)), N (.store 2 (.x 3) (.t 0)), W 4 (.take (kb true))])
.ret)))) }
def opts_Find.m : List Nat := [0, 1, 3, 4, 5, 6]
/-- slices.Clone[[]euphroe/api.Option,euphroe/api.Option] · 0:s/0 1:/2 -/
def slices_Clone_api_Option.s : SFunc := { np := 1, nv := 2, res := [.var 1], code := (.nilc 1 0 2 32 (.seq (.ops [W 1 (.take (kn 2))])
(.seq (.ifs [T (.mov (.x 0)), T (.eq .s false (.t 0) (kn 2))] (.t 0) (.seq (.ops [W 1 (.take (kn 2))])
.ret) .skip)
(.seq (.clone 1 0 2 32)
.ret)))) }
def slices_Clone_api_Option.m : List Nat := [0, 2]
/-- euphroe/ipcpo.option · 0:kind/0 1:a/1 2:/4 3:b/5 -/
def ipcpo_option.s : SFunc := { np := 2, nv := 4, res := [.cell (some 2) 2], code := (.seq (.ops [W 2 (.alloc false (.agg [.v (.int .u8 0), .nils 1]))])
(.seq (.ops [T (.mov (.x 1)), T (.cvi .u64 (.t 0)), T (.call false 48 [(.t 0), (ki 4), (kb false)]), T (.take (.t 0)), T (.ext 0 (.t 0)), T (.ext 1 (.t 1)), W 3 (.take (.t 1)), T (.take (.t 1))])
(.seq (.ops [T (.mov (.x 0)), T (.mov (.x 3)), T (.build [.v (.int .u8 0), .nils 1] [(0, 1, (.t 1)), (1, 1, (.t 0))]), N (.store 2 (.x 2) (.t 0))])
.ret))) }
def ipcpo_option.m : List Nat := [0, 1, 4, 5]
/-- euphroe/ipcpo.told · 0:l/0 1:kind/1 2:other/2 3:/6 4:/11 5:/12 6:/13 7:o/8 8:a/9 9:ok/10 -/
def ipcpo_told.l0 : SCode := (.seq (.ifs [T (.bin .lss (.x 6) (.x 5))] (.t 0) .skip (.exit 0))
(.seq (.block 1 (.seq (.ops [T (.ia 2 (.x 4) (.x 6)), T (.load (some 2) (.t 0)), W 7 (.alloc false (.agg [.v (.int .u8 0), .nils 1])), N (.store 2 (.x 7) (.t 1))])
(.seq (.ops [T (.load (some 2) (.x 7)), T (.call false 78 [(.t 0)]), T (.take (.t 0)), T (.ext 0 (.t 0)), T (.ext 1 (.t 1)), W 8 (.take (.t 1)), W 9 (.take (.t 1))])
(.ifs [T (.mov (.x 9)), T (.mov (.t 0)), GT 0 true (.fa 0 (.x 7)), GT 1 true (.load none (.t 0)), GT 2 true (.mov (.x 1)), GT 3 true (.bin .eql (.t 1) (.t 0)), T (.pick (.t 4) (.t 0) (kb false)), T (.mov (.t 0)), GT 0 true (.mov (.x 8)), GT 1 true (.bin .neq (.t 0) (kk .u32 0)), T (.pick (.t 2) (.t 0) (kb false))] (.t 0) (.seq (.ops [T (.take (.x 8)), W 3 (.take (.t 0))])
.ret) .skip))))
(.ops [T (.bin .add (.x 6) (ki 1)), W 6 (.mov (.t 0))])))
def ipcpo_told.s : SFunc := { np := 3, nv := 10, res := [.var 3], code := (.seq (.ops [W 3 (.take (kk .u32 0))])
(.seq (.seq (.ops [W 4 (.mov (.x 0)), W 5 (.len (.x 4)), W 6 (.mov (ki 0))])
(.block 0 (.loop [7, 8, 9] ipcpo_told.l0)))
(.seq (.ops [T (.take (.x 2)), W 3 (.take (.t 0))])
.ret))) }
def ipcpo_told.m : List Nat := [0, 1, 2, 6, 11, 12, 13, 8, 9, 10]
/-- euphroe/euphroeref21.Find · 0:l/0 1:kind/1 2:/4 3:/5 4:i/6 -/
def euphroeref21_Find.l0 : SCode := (.seq (.ifs [T (.mov (.x 4)), T (.mov (.x 0)), T (.len (.t 0)), T (.bin .lss (.t 2) (.t 0))] (.t 0) .skip (.exit 0))
(.seq (.block 1 (.ifs [T (.mov (.x 0)), T (.mov (.x 4)), T (.ia 2 (.t 1) (.t 0)), T (.fa 0 (.t 0)), T (.load none (.t 0)), T (.mov (.x 1)), T (.bin .eql (.t 1) (.t 0))] (.t 0) (.seq (.ops [T (.mov (.x 0)), T (.mov (.x 4)), T (.ia 2 (.t 1) (.t 0)), T (.load (some 2) (.t 0)), N (.store 2 (.x 2) (.t 0)), W 3 (.take (kb true))])
.ret) .skip))
(.ops [T (.mov (.x 4)), T (.bin .add (.t 0) (ki 1)), W 4 (.take (.t 0))])))
def euphroeref21_Find.s : SFunc := { np := 2, nv := 5, res := [.cell (some 2) 2, .var 3], code := (.seq (.ops [W 2 (.alloc false (.agg [.v (.int .u8 0), .nils 1])), W 3 (.take (kb false))])
(.seq (.seq (.ops [W 4 (.take (ki 0))])
(.block 0 (.loop [] euphroeref21_Find.l0)))
(.seq (.ops [T (.build [.v (.int .u8 0), .nils 1] []), N (.store 2 (.x 2) (.t 0)), W 3 (.take (kb false))])
.ret))) }
def euphroeref21_Find.m : List Nat := [0, 1, 4, 5, 6]
/-- euphroe/euphroeref26.rejects · 0:s/0 1:o/1 2:met/2 3:s/3 4:o/4 5:/6 -/
def euphroeref26_rejects.s : SFunc := { np := 3, nv := 6, res := [.var 5], code := (.seq (.ops [W 3 (.box false (.x 0)), W 4 (.box false (.x 1)), W 5 (.take (kb false))])
(.seq (.ifs [T (.mov (.x 2)), T (.mov (.t 0)), GT 0 false (.fa 1 (.x 4)), GT 1 false (.load none (.t 0)), GT 2 false (.len (.t 0)), GT 3 false (.bin .neq (.t 0) (ki 4)), T (.pick (.t 4) (kb true) (.t 0))] (.t 0) (.seq (.ops [W 5 (.take (kb true))])
.ret) .skip)
(.seq (.ifs [T (.fa 0 (.x 3)), T (.load none (.t 0))] (.t 0) (.seq (.ops [T (.fa 0 (.x 4)), T (.load none (.t 0)), T (.bin .neq (.t 0) (kk .u8 3)), T (.mov (.t 0)), GT 0 true (.fa 0 (.x 4)), GT 1 true (.load none (.t 0)), GT 2 true (.bin .neq (.t 0) (kk .u8 129)), GT 3 true (.mov (.t 0)), GT 0 false (.fa 3 (.x 3)), GT 1 false (.load none (.t 0)), GT 2 false (.bin .eql (.t 0) (kk .u32 0)), GT 7 true (.pick (.t 3) (kb true) (.t 0)), T (.pick (.t 8) (.t 0) (kb false)), W 5 (.take (.t 0))])
.ret) .skip)
(.seq (.ops [T (.fa 0 (.x 4)), T (.load none (.t 0)), T (.bin .neq (.t 0) (kk .u8 3)), T (.mov (.t 0)), GT 0 false (.fa 1 (.x 4)), GT 1 false (.load none (.t 0)), GT 2 false (.call false 44 [(.t 0)]), GT 3 false (.bin .eql (.t 0) (kk .u64 0)), T (.pick (.t 4) (kb true) (.t 0)), W 5 (.take (.t 0))])
.ret)))) }
def euphroeref26_rejects.m : List Nat := [0, 1, 2, 3, 4, 6]
/-- euphroe/euphroeref26.option · 0:kind/0 1:a/1 2:/4 -/
def euphroeref26_option.s : SFunc := { np := 2, nv := 3, res := [.cell (some 2) 2], code := (.seq (.ops [W 2 (.alloc false (.agg [.v (.int .u8 0), .nils 1]))])
(.seq (.ops [T (.mov (.x 0)), T (.mov (.x 1)), T (.cvi .u64 (.t 0)), T (.call false 41 [(.t 0), (ki 4)]), T (.build [.v (.int .u8 0), .nils 1] [(0, 1, (.t 3)), (1, 1, (.t 0))]), N (.store 2 (.x 2) (.t 0))])
.ret)) }
def euphroeref26_option.m : List Nat := [0, 1, 4]
/-- slices.EqualFunc[[]euphroe/api.Option,[]euphroe/api.Option,euphroe/api.Option,euphroe/api.Option] · 0:s1/0 1:s2/1 2:eq/2 3:/6 4:/15 5:/16 6:/17 7:v1/8 8:i/7 9:v2/9 -/
def slices_EqualFunc_api_Option.l0 : SCode := (.seq (.ifs [T (.bin .lss (.x 6) (.x 5))] (.t 0) .skip (.exit 0))
(.seq (.block 1 (.seq (.ops [T (.mov (.x 6)), T (.ia 2 (.x 4) (.x 6)), T (.load (some 2) (.t 0)), W 7 (.alloc false (.agg [.v (.int .u8 0), .nils 1])), W 8 (.take (.t 3)), N (.store 2 (.x 7) (.t 2))])
(.seq (.ops [T (.mov (.x 1)), T (.mov (.x 8)), T (.ia 2 (.t 1) (.t 0)), T (.load (some 2) (.t 0)), W 9 (.alloc false (.agg [.v (.int .u8 0), .nils 1])), N (.store 2 (.x 9) (.t 1))])
(.ifs [T (.mov (.x 2)), T (.load (some 2) (.x 7)), T (.load (some 2) (.x 9)), T (.callv (.t 2) [(.t 1), (.t 0)]), T (.un .not (.t 0))] (.t 0) (.seq (.ops [W 3 (.take (kb false))])
.ret) .skip))))
(.ops [T (.bin .add (.x 6) (ki 1)), W 6 (.mov (.t 0))])))
def slices_EqualFunc_api_Option.s : SFunc := { np := 3, nv := 10, res := [.var 3], code := (.seq (.ops [W 3 (.take (kb false))])
(.seq (.ifs [T (.mov (.x 0)), T (.len (.t 0)), T (.mov (.x 1)), T (.len (.t 0)), T (.bin .neq (.t 2) (.t 0))] (.t 0) (.seq (.ops [W 3 (.take (kb false))])
.ret) .skip)
(.seq (.seq (.ops [W 4 (.mov (.x 0)), W 5 (.len (.x 4)), W 6 (.mov (ki 0))])
(.block 0 (.loop [7, 8, 9] slices_EqualFunc_api_Option.l0)))
(.seq (.ops [W 3 (.take (kb true))])
.ret)))) }
def slices_EqualFunc_api_Option.m : List Nat := [0, 1, 2, 6, 15, 16, 17, 8, 7, 9]
/-- euphroe/opts.same · 0:a/0 1:b/1 2:a/2 3:b/3 4:/4 -/
def opts_same.s : SFunc := { np := 2, nv := 5, res := [.var 4], code := (.seq (.ops [W 2 (.box false (.x 0)), W 3 (.box false (.x 1)), W 4 (.take (kb false))])
(.seq (.ops [T (.fa 0 (.x 2)), T (.load none (.t 0)), T (.fa 0 (.x 3)), T (.load none (.t 0)), T (.bin .eql (.t 2) (.t 0)), T (.mov (.t 0)), GT 0 true (.fa 1 (.x 2)), GT 1 true (.load none (.t 0)), GT 2 true (.fa 1 (.x 3)), GT 3 true (.load none (.t 0)), GT 4 true (.call false 45 [(.t 2), (.t 0)]), T (.pick (.t 5) (.t 0) (kb false)), W 4 (.take (.t 0))])
.ret)) }
def opts_same.m : List Nat := [0, 1, 2, 3, 4]
/-- euphroe/euphroeref26.told · 0:l/0 1:kind/1 2:/4 3:i/5 -/
def euphroeref26_told.l0 : SCode := (.seq (.ifs [T (.mov (.x 3)), T (.mov (.x 0)), T (.len (.t 0)), T (.bin .lss (.t 2) (.t 0))] (.t 0) .skip (.exit 0))
(.seq (.block 1 (.ifs [T (.mov (.x 0)), T (.mov (.x 3)), T (.ia 2 (.t 1) (.t 0)), T (.fa 0 (.t 0)), T (.load none (.t 0)), T (.mov (.x 1)), T (.bin .eql (.t 1) (.t 0)), T (.mov (.t 0)), GT 0 true (.mov (.x 0)), GT 1 true (.mov (.x 3)), GT 2 true (.ia 2 (.t 1) (.t 0)), GT 3 true (.fa 1 (.t 0)), GT 4 true (.load none (.t 0)), GT 5 true (.len (.t 0)), GT 6 true (.bin .eql (.t 0) (ki 4)), T (.pick (.t 7) (.t 0) (kb false)), T (.mov (.t 0)), GT 0 true (.mov (.x 0)), GT 1 true (.mov (.x 3)), GT 2 true (.ia 2 (.t 1) (.t 0)), GT 3 true (.fa 1 (.t 0)), GT 4 true (.load none (.t 0)), GT 5 true (.call false 44 [(.t 0)]), GT 6 true (.bin .neq (.t 0) (kk .u64 0)), T (.pick (.t 7) (.t 0) (kb false))] (.t 0) (.seq (.ops [T (.mov (.x 0)), T (.mov (.x 3)), T (.ia 2 (.t 1) (.t 0)), T (.fa 1 (.t 0)), T (.load none (.t 0)), T (.call false 44 [(.t 0)]), T (.cvi .u32 (.t 0)), W 2 (.take (.t 0))])
.ret) .skip))
(.ops [T (.mov (.x 3)), T (.bin .add (.t 0) (ki 1)), W 3 (.take (.t 0))])))
def euphroeref26_told.s : SFunc := { np := 2, nv := 4, res := [.var 2], code := (.seq (.ops [W 2 (.take (kk .u32 0))])
(.seq (.seq (.ops [W 3 (.take (ki 0))])
(.block 0 (.loop [] euphroeref26_told.l0)))
(.seq (.ops [W 2 (.take (kk .u32 0))])
.ret))) }
def euphroeref26_told.m : List Nat := [0, 1, 4, 5]
/-- slices.Reverse[[]byte,byte] · 0:s/0 1:i/2 2:j/3 -/
def slices_Reverse_byte.l0 : SCode := (.seq (.ifs [T (.mov (.x 1)), T (.mov (.x 2)), T (.bin .lss (.t 1) (.t 0))] (.t 0) .skip (.exit 0))
(.seq (.block 1 (.ops [T (.mov (.x 0)), T (.mov (.x 1)), T (.mov (.x 0)), T (.mov (.x 2)), T (.mov (.x 0)), T (.mov (.x 2)), T (.ia 1 (.t 1) (.t 0)), T (.load none (.t 0)), T (.mov (.x 0)), T (.mov (.x 1)), T (.ia 1 (.t 1) (.t 0)), T (.load none (.t 0)), T (.ia 1 (.t 11) (.t 10)), N (.store 1 (.t 0) (.t 5)), T (.ia 1 (.t 11) (.t 10)), N (.store 1 (.t 0) (.t 3))]))
(.ops [T (.mov (.x 1)), T (.bin .add (.t 0) (ki 1)), T (.mov (.x 2)), T (.bin .sub (.t 0) (ki 1)), W 1 (.take (.t 2)), W 2 (.take (.t 1))])))
def slices_Reverse_byte.s : SFunc := { np := 1, nv := 3, res := [], code := (.seq (.ops [T (.mov (.x 0)), T (.len (.t 0)), T (.bin .sub (.t 0) (ki 1)), W 1 (.take (ki 0)), W 2 (.take (.t 1))])
(.block 0 (.loop [] slices_Reverse_byte.l0))) }
def slices_Reverse_byte.m : List Nat := [0, 2, 3]
/-- slices.All[[]euphroe/api.Option,euphroe/api.Option]$1 · 0:yield/0 1:/1 2:/5 3:/6 4:/7 5:v/4 6:i/3 -/
def slices_All_api_Option_api_Option_1.l0 : SCode := (.seq (.ifs [T (.bin .lss (.x 4) (.x 3))] (.t 0) .skip (.exit 0))
(.seq (.block 1 (.seq (.ops [T (.mov (.x 4)), T (.ia 2 (.x 2) (.x 4)), T (.load (some 2) (.t 0)), W 5 (.alloc false (.agg [.v (.int .u8 0), .nils 1])), W 6 (.take (.t 3)), N (.store 2 (.x 5) (.t 2))])
(.ifs [T (.mov (.x 0)), T (.mov (.x 6)), T (.load (some 2) (.x 5)), T (.callv (.t 2) [(.t 1), (.t 0)]), T (.un .not (.t 0))] (.t 0) .ret .skip)))
(.ops [T (.bin .add (.x 4) (ki 1)), W 4 (.mov (.t 0))])))
def slices_All_api_Option_api_Option_1.s : SFunc := { np := 2, nv := 7, res := [], code := (.seq (.ops [W 2 (.load none (.x 1)), W 3 (.len (.x 2)), W 4 (.mov (ki 0))])
(.block 0 (.loop [5, 6] slices_All_api_Option_api_Option_1.l0))) }
def slices_All_api_Option_api_Option_1.m : List Nat := [0, 1, 5, 6, 7, 4, 3]
/-- euphroe/ipcpo.addr · 0:o/0 1:o/1 2:/2 3:/3 4:n/4 -/
def ipcpo_addr.s : SFunc := { np := 1, nv := 5, res := [.var 2, .var 3], code := (.seq (.ops [W 1 (.box false (.x 0)), W 2 (.take (kk .u32 0)), W 3 (.take (kb false))])
(.seq (.ifs [T (.fa 1 (.x 1)), T (.load none (.t 0)), T (.len (.t 0)), T (.bin .neq (.t 0) (ki 4))] (.t 0) (.seq (.ops [W 2 (.take (kk .u32 0)), W 3 (.take (kb false))])
.ret) .skip)
(.seq (.ops [T (.fa 1 (.x 1)), T (.load none (.t 0)), T (.call false 42 [(.t 0), (kb false)]), T (.take (.t 0)), T (.ext 0 (.t 0)), T (.ext 1 (.t 1)), W 4 (.take (.t 1)), T (.take (.t 1))])
(.seq (.ops [T (.mov (.x 4)), T (.cvi .u32 (.t 0)), W 2 (.take (.t 0)), W 3 (.take (kb true))])
.ret)))) }
def ipcpo_addr.m : List Nat := [0, 1, 2, 3, 4]
/-- (euphroe/ipcpo.Side).gives · 0:s/0 1:kind/1 2:s/2 3:/4 4:/5 5:/6 -/
def ipcpo_Side_gives.s : SFunc := { np := 2, nv := 6, res := [.var 3, .var 4], code := (.seq (.ops [W 2 (.box false (.x 0)), W 3 (.take (kk .u32 0)), W 4 (.take (kb false))])
(.seq (.seq (.ops [W 5 (.mov (.x 1))])
(.block 0 (.ifs [T (.bin .eql (.x 5) (kk .u8 3)), T (.take (.t 0))] (.t 0) (.seq (.ops [T (.fa 2 (.x 2)), T (.load none (.t 0)), W 3 (.take (.t 0)), W 4 (.take (kb true))])
.ret) (.ifs [T (.bin .eql (.x 5) (kk .u8 129)), T (.take (.t 0))] (.t 0) (.seq (.ops [T (.fa 3 (.x 2)), T (.load none (.t 0)), T (.fa 3 (.x 2)), T (.load none (.t 0)), T (.bin .neq (.t 0) (kk .u32 0)), W 3 (.take (.t 3)), W 4 (.take (.t 1))])
.ret) .skip))))
(.seq (.ops [W 3 (.take (kk .u32 0)), W 4 (.take (kb false))])
.ret))) }
def ipcpo_Side_gives.m : List Nat := [0, 1, 2, 4, 5, 6]
/-- slices.IndexFunc[[]euphroe/api.Option,euphroe/api.Option] · 0:s/0 1:f/1 2:/4 3:/7 4:/8 5:i/5 -/
def slices_IndexFunc_api_Option.l0 : SCode := (.seq (.ifs [T (.bin .lss (.x 4) (.x 3))] (.t 0) .skip (.exit 0))
(.seq (.block 1 (.seq (.ops [T (.mov (.x 4)), W 5 (.take (.t 0))])
(.ifs [T (.mov (.x 1)), T (.mov (.x 0)), T (.mov (.x 5)), T (.ia 2 (.t 1) (.t 0)), T (.load (some 2) (.t 0)), T (.callv (.t 4) [(.t 0)])] (.t 0) (.seq (.ops [T (.take (.x 5)), W 2 (.take (.t 0))])
.ret) .skip)))
(.ops [T (.bin .add (.x 4) (ki 1)), W 4 (.mov (.t 0))])))
def slices_IndexFunc_api_Option.s : SFunc := { np := 2, nv := 6, res := [.var 2], code := (.seq (.ops [W 2 (.take (ki 0))])
(.seq (.seq (.ops [T (.mov (.x 0)), W 3 (.len (.t 0)), W 4 (.mov (ki 0))])
(.block 0 (.loop [5] slices_IndexFunc_api_Option.l0)))
(.seq (.ops [W 2 (.take (ki (-1)))])
.ret))) }
def slices_IndexFunc_api_Option.m : List Nat := [0, 1, 4, 7, 8, 5]
/-- euphroe/opts.Find$1 · 0:o/0 1:/1 2:o/2 3:/3 -/
def opts_Find_1.s : SFunc := { np := 2, nv := 4, res := [.var 3], code := (.seq (.ops [W 2 (.box false (.x 0)), W 3 (.take (kb false))])
(.seq (.ops [T (.fa 0 (.x 2)), T (.load none (.t 0)), T (.load none (.x 1)), T (.bin .eql (.t 1) (.t 0)), W 3 (.take (.t 0))])
.ret)) }
def opts_Find_1.m : List Nat := [0, 1, 2, 3]
def fns : List (Nat × SFunc × List Nat) := [(5, euphroelaw26_IpcpoTexts.s, euphroelaw26_IpcpoTexts.m), (6, euphroelaw26_IpcpoAgrees.s, euphroelaw26_IpcpoAgrees.m), (7, euphroelaw26_IpcpoJudges.s, euphroelaw26_IpcpoJudges.m), (19, euphroelaw26_alive.s, euphroelaw26_alive.m), (20, ipcpo_Parse.s, ipcpo_Parse.m), (21, euphroeref26_Parse.s, euphroeref26_Parse.m), (22, ipcpo_Text.s, ipcpo_Text.m), (23, euphroeref26_Text.s, euphroeref26_Text.m), (24, euphroelaw26_side.s, euphroelaw26_side.m), (25, ipcpo_Judge.s, ipcpo_Judge.m), (26, ipcpo_Options.s, ipcpo_Options.m), (27, ipcpo_Rejected.s, ipcpo_Rejected.m), (28, ipcpo_Naked.s, ipcpo_Naked.m), (29, euphroelaw26_far.s, euphroelaw26_far.m), (30, euphroelaw26_theirs.s, euphroelaw26_theirs.m), (31, euphroeref26_Judge.s, euphroeref26_Judge.m), (32, euphroeref26_Rejected.s, euphroeref26_Rejected.m), (33, opts_Same.s, opts_Same.m), (34, euphroeref26_Options.s, euphroeref26_Options.m), (35, euphroeref26_Naked.s, euphroeref26_Naked.m), (41, euphroeref01_Big.s, euphroeref01_Big.m), (42, octs_Get.s, octs_Get.m), (44, euphroeref01_Num.s, euphroeref01_Num.m), (45, bytes_Equal.s, bytes_Equal.m), (48, octs_Put.s, octs_Put.m), (51, euphroeref26_digits.s, euphroeref26_digits.m), (52, slices_All_api_Option.s, slices_All_api_Option.m), (53, ipcpo_Side_one.s, ipcpo_Side_one.m), (54, opts_Find.s, opts_Find.m), (55, slices_Clone_api_Option.s, slices_Clone_api_Option.m), (56, ipcpo_option.s, ipcpo_option.m), (57, ipcpo_told.s, ipcpo_told.m), (58, euphroeref21_Find.s, euphroeref21_Find.m), (59, euphroeref26_rejects.s, euphroeref26_rejects.m), (60, euphroeref26_option.s, euphroeref26_option.m), (61, slices_EqualFunc_api_Option.s, slices_EqualFunc_api_Option.m), (62, opts_same.s, opts_same.m), (63, euphroeref26_told.s, euphroeref26_told.m), (72, slices_Reverse_byte.s, slices_Reverse_byte.m), (77, slices_All_api_Option_api_Option_1.s, slices_All_api_Option_api_Option_1.m), (78, ipcpo_addr.s, ipcpo_addr.m), (79, ipcpo_Side_gives.s, ipcpo_Side_gives.m), (80, slices_IndexFunc_api_Option.s, slices_IndexFunc_api_Option.m), (81, opts_Find_1.s, opts_Find_1.m)]
abbrev euphroelaw26_IpcpoTexts.n : Nat := 5
abbrev euphroelaw26_IpcpoAgrees.n : Nat := 6
abbrev euphroelaw26_IpcpoJudges.n : Nat := 7
abbrev euphroelaw26_alive.n : Nat := 19
abbrev ipcpo_Parse.n : Nat := 20
abbrev euphroeref26_Parse.n : Nat := 21
abbrev ipcpo_Text.n : Nat := 22
abbrev euphroeref26_Text.n : Nat := 23
abbrev euphroelaw26_side.n : Nat := 24
abbrev ipcpo_Judge.n : Nat := 25
abbrev ipcpo_Options.n : Nat := 26
abbrev ipcpo_Rejected.n : Nat := 27
abbrev ipcpo_Naked.n : Nat := 28
abbrev euphroelaw26_far.n : Nat := 29
abbrev euphroelaw26_theirs.n : Nat := 30
abbrev euphroeref26_Judge.n : Nat := 31
abbrev euphroeref26_Rejected.n : Nat := 32
abbrev opts_Same.n : Nat := 33
abbrev euphroeref26_Options.n : Nat := 34
abbrev euphroeref26_Naked.n : Nat := 35
abbrev euphroeref01_Big.n : Nat := 41
abbrev octs_Get.n : Nat := 42
abbrev euphroeref01_Num.n : Nat := 44
abbrev bytes_Equal.n : Nat := 45
abbrev octs_Put.n : Nat := 48
abbrev euphroeref26_digits.n : Nat := 51
abbrev slices_All_api_Option.n : Nat := 52
abbrev ipcpo_Side_one.n : Nat := 53
abbrev opts_Find.n : Nat := 54
abbrev slices_Clone_api_Option.n : Nat := 55
abbrev ipcpo_option.n : Nat := 56
abbrev ipcpo_told.n : Nat := 57
abbrev euphroeref21_Find.n : Nat := 58
abbrev euphroeref26_rejects.n : Nat := 59
abbrev euphroeref26_option.n : Nat := 60
abbrev slices_EqualFunc_api_Option.n : Nat := 61
abbrev opts_same.n : Nat := 62
abbrev euphroeref26_told.n : Nat := 63
abbrev slices_Reverse_byte.n : Nat := 72
abbrev slices_All_api_Option_api_Option_1.n : Nat := 77
abbrev ipcpo_addr.n : Nat := 78
abbrev ipcpo_Side_gives.n : Nat := 79
abbrev slices_IndexFunc_api_Option.n : Nat := 80
abbrev opts_Find_1.n : Nat := 81
def fnOf (n : Nat) : Option SFunc := (fns.find? (·.1 == n)).map (·.2.1)
def primOf (n : Nat) : Option (List D → St → Option (D × St)) := if n = 46 then some (primSplit splitF) else if n = 47 then some (primPure (atoiF 166)) else if n = 49 then some (primPure itoaF) else if n = 50 then some (primPure joinF) else none
def G : Prg := { fn := fnOf, prim := primOf }
theorem euphroelaw26_IpcpoTexts.g : G.fn 5 = some euphroelaw26_IpcpoTexts.s := by rfl
theorem euphroelaw26_IpcpoAgrees.g : G.fn 6 = some euphroelaw26_IpcpoAgrees.s := by rfl
theorem euphroelaw26_IpcpoJudges.g : G.fn 7 = some euphroelaw26_IpcpoJudges.s := by rfl
theorem euphroelaw26_alive.g : G.fn 19 = some euphroelaw26_alive.s := by rfl
theorem ipcpo_Parse.g : G.fn 20 = some ipcpo_Parse.s := by rfl
theorem euphroeref26_Parse.g : G.fn 21 = some euphroeref26_Parse.s := by rfl
theorem ipcpo_Text.g : G.fn 22 = some ipcpo_Text.s := by rfl
theorem euphroeref26_Text.g : G.fn 23 = some euphroeref26_Text.s := by rfl
theorem euphroelaw26_side.g : G.fn 24 = some euphroelaw26_side.s := by rfl
theorem ipcpo_Judge.g : G.fn 25 = some ipcpo_Judge.s := by rfl
theorem ipcpo_Options.g : G.fn 26 = some ipcpo_Options.s := by rfl
theorem ipcpo_Rejected.g : G.fn 27 = some ipcpo_Rejected.s := by rfl
theorem ipcpo_Naked.g : G.fn 28 = some ipcpo_Naked.s := by rfl
theorem euphroelaw26_far.g : G.fn 29 = some euphroelaw26_far.s := by rfl
theorem euphroelaw26_theirs.g : G.fn 30 = some euphroelaw26_theirs.s := by rfl
theorem euphroeref26_Judge.g : G.fn 31 = some euphroeref26_Judge.s := by rfl
theorem euphroeref26_Rejected.g : G.fn 32 = some euphroeref26_Rejected.s := by rfl
theorem opts_Same.g : G.fn 33 = some opts_Same.s := by rfl
theorem euphroeref26_Options.g : G.fn 34 = some euphroeref26_Options.s := by rfl
theorem euphroeref26_Naked.g : G.fn 35 = some euphroeref26_Naked.s := by rfl
theorem euphroeref01_Big.g : G.fn 41 = some euphroeref01_Big.s := by rfl
theorem octs_Get.g : G.fn 42 = some octs_Get.s := by rfl
theorem euphroeref01_Num.g : G.fn 44 = some euphroeref01_Num.s := by rfl
theorem bytes_Equal.g : G.fn 45 = some bytes_Equal.s := by rfl
theorem octs_Put.g : G.fn 48 = some octs_Put.s := by rfl
theorem euphroeref26_digits.g : G.fn 51 = some euphroeref26_digits.s := by rfl
theorem slices_All_api_Option.g : G.fn 52 = some slices_All_api_Option.s := by rfl
theorem ipcpo_Side_one.g : G.fn 53 = some ipcpo_Side_one.s := by rfl
theorem opts_Find.g : G.fn 54 = some opts_Find.s := by rfl
theorem slices_Clone_api_Option.g : G.fn 55 = some slices_Clone_api_Option.s := by rfl
theorem ipcpo_option.g : G.fn 56 = some ipcpo_option.s := by rfl
theorem ipcpo_told.g : G.fn 57 = some ipcpo_told.s := by rfl
theorem euphroeref21_Find.g : G.fn 58 = some euphroeref21_Find.s := by rfl
theorem euphroeref26_rejects.g : G.fn 59 = some euphroeref26_rejects.s := by rfl
theorem euphroeref26_option.g : G.fn 60 = some euphroeref26_option.s := by rfl
theorem slices_EqualFunc_api_Option.g : G.fn 61 = some slices_EqualFunc_api_Option.s := by rfl
theorem opts_same.g : G.fn 62 = some opts_same.s := by rfl
theorem euphroeref26_told.g : G.fn 63 = some euphroeref26_told.s := by rfl
theorem slices_Reverse_byte.g : G.fn 72 = some slices_Reverse_byte.s := by rfl
theorem slices_All_api_Option_api_Option_1.g : G.fn 77 = some slices_All_api_Option_api_Option_1.s := by rfl
theorem ipcpo_addr.g : G.fn 78 = some ipcpo_addr.s := by rfl
theorem ipcpo_Side_gives.g : G.fn 79 = some ipcpo_Side_gives.s := by rfl
theorem slices_IndexFunc_api_Option.g : G.fn 80 = some slices_IndexFunc_api_Option.s := by rfl
theorem opts_Find_1.g : G.fn 81 = some opts_Find_1.s := by rfl
instance : Iters := ⟨[(2, 77)]⟩
end Go.Q
