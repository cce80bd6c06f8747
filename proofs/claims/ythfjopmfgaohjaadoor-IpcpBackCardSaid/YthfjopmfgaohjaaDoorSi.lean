/- The slim code of the functions, written by a program of ours. No condition. -/
import Derived.Test.YthfjopmfgaohjaaDoorEpd
set_option linter.all false
set_option maxRecDepth 100000
namespace Go.Q
open SOp SCode
def zz0 : D := .agg [.v (.int .i64 0), .v (.int .i64 0), .v (.int .i64 0), .v (.int .u8 0), .nils 2, .v (.bool false), .v (.int .u16 0), .v (.int .u32 0), .v (.bool false), .v (.bool false), .v (.bool false), .v (.int .u32 0), .v (.int .u32 0), .v (.int .u32 0), .v (.bool false), .nils 2, .v (.int .i64 0)]
@[go_sem] theorem zz0_eq : zz0 = .agg [.v (.int .i64 0), .v (.int .i64 0), .v (.int .i64 0), .v (.int .u8 0), .nils 2, .v (.bool false), .v (.int .u16 0), .v (.int .u32 0), .v (.bool false), .v (.bool false), .v (.bool false), .v (.int .u32 0), .v (.int .u32 0), .v (.int .u32 0), .v (.bool false), .nils 2, .v (.int .i64 0)] := rfl
def zz2 : D := .agg [.nils 3, .v (.bool false), .v (.bool false), .v (.bool false), .v (.bool false)]
@[go_sem] theorem zz2_eq : zz2 = .agg [.nils 3, .v (.bool false), .v (.bool false), .v (.bool false), .v (.bool false)] := rfl
def zz4 : D := .agg [.v (.int .u8 0), .v (.int .u8 0), .v (.int .u32 0), .v (.int .u32 0), .nils 1]
@[go_sem] theorem zz4_eq : zz4 = .agg [.v (.int .u8 0), .v (.int .u8 0), .v (.int .u32 0), .v (.int .u32 0), .nils 1] := rfl
def euphroelaw32_IpcpDatagrams.s : SFunc := { np := 2, nv := 12, res := [.var 3], code := (.seq (.ops [W 2 (.box false (.x 0)), W 3 (.take (kb false))])
(.seq (.ifs [T (.fa 4 (.x 2)), T (.load none (.t 0)), T (.len (.t 0)), T (.bin .gtr (.t 0) (ki 2000)), T (.mov (.t 0)), GT 0 false (.mov (.x 1)), GT 1 false (.len (.t 0)), GT 2 false (.bin .gtr (.t 0) (ki 2000)), T (.pick (.t 3) (kb true) (.t 0))] (.t 0) (.seq (.ops [T (.call false 5 []), W 3 (.take (.t 0))])
.ret) .skip)
(.seq (.ops [T (.load (some 5) (.x 2)), T (.call false 7 [(.t 0)]), T (.call false 6 [(.t 0)]), T (.take (.t 0)), T (.ext 0 (.t 0)), T (.ext 1 (.t 1)), W 4 (.take (.t 1)), W 5 (.take (.t 1))])
(.seq (.ops [T (.load (some 5) (.x 2)), T (.call false 8 [(.t 0)]), T (.take (.t 0)), T (.ext 0 (.t 0)), T (.ext 1 (.t 1)), W 6 (.take (.t 1)), W 7 (.take (.t 1))])
(.seq (.ops [T (.mov (.x 1)), T (.call false 9 [(.t 0)]), T (.take (.t 0)), T (.ext 0 (.t 0)), T (.ext 1 (.t 1)), W 8 (.alloc false zz4), N (.store 5 (.x 8) (.t 2)), W 9 (.take (.t 2))])
(.seq (.ops [T (.mov (.x 1)), T (.call false 10 [(.t 0)]), T (.take (.t 0)), T (.ext 0 (.t 0)), T (.ext 1 (.t 1)), W 10 (.alloc false zz4), N (.store 5 (.x 10) (.t 2)), W 11 (.take (.t 2))])
(.seq (.ops [T (.mov (.x 4)), T (.mov (.x 6)), T (.call false 11 [(.t 1), (.t 0)]), T (.mov (.t 0)), GT 0 true (.mov (.x 5)), GT 1 true (.mov (.x 7)), GT 2 true (.bin .eql (.t 1) (.t 0)), T (.pick (.t 3) (.t 0) (kb false)), T (.mov (.t 0)), GT 0 true (.load (some 5) (.x 8)), GT 1 true (.load (some 5) (.x 10)), GT 2 true (.call false 7 [(.t 0)]), GT 3 true (.call false 12 [(.t 2), (.t 0)]), T (.pick (.t 4) (.t 0) (kb false)), T (.mov (.t 0)), GT 0 true (.mov (.x 9)), GT 1 true (.mov (.x 11)), GT 2 true (.bin .eql (.t 1) (.t 0)), T (.pick (.t 3) (.t 0) (kb false)), T (.mov (.t 0)), GT 0 true (.mov (.x 1)), GT 1 true (.call false 13 [(.t 0)]), GT 2 true (.mov (.x 1)), GT 3 true (.call false 14 [(.t 0)]), GT 4 true (.bin .eql (.t 2) (.t 0)), T (.pick (.t 5) (.t 0) (kb false)), T (.mov (.t 0)), GT 0 true (.load (some 5) (.x 8)), GT 1 true (.load (some 5) (.x 2)), GT 2 true (.call false 7 [(.t 0)]), GT 3 true (.call false 12 [(.t 2), (.t 0)]), GT 4 true (.load (some 5) (.x 10)), GT 5 true (.load (some 5) (.x 2)), GT 6 true (.call false 15 [(.t 1), (.t 0)]), GT 7 true (.eq .b false (.t 3) (.t 0)), T (.pick (.t 8) (.t 0) (kb false)), T (.mov (.t 0)), GT 0 true (.call false 5 []), T (.pick (.t 1) (.t 0) (kb false)), W 3 (.take (.t 0))])
.ret))))))) }
def euphroelaw32_IpcpDatagrams.m : List Nat := [0, 1, 2, 4, 5, 6, 7, 8, 9, 10, 11, 12]
def euphroelaw32_IpcpBack.s : SFunc := { np := 3, nv := 12, res := [.var 4], code := (.seq (.ops [W 3 (.box false (.x 0)), W 4 (.take (kb false))])
(.seq (.ifs [T (.fa 4 (.x 3)), T (.load none (.t 0)), T (.len (.t 0)), T (.bin .gtr (.t 0) (ki 1480)), T (.mov (.t 0)), GT 0 false (.mov (.x 1)), GT 1 false (.len (.t 0)), GT 2 false (.bin .gtr (.t 0) (ki 200)), T (.pick (.t 3) (kb true) (.t 0))] (.t 0) (.seq (.ops [T (.call false 5 []), W 4 (.take (.t 0))])
.ret) .skip)
(.seq (.ops [T (.load (some 5) (.x 3)), T (.call false 7 [(.t 0)]), T (.call false 6 [(.t 0)]), T (.take (.t 0)), T (.ext 0 (.t 0)), T (.ext 1 (.t 1)), W 5 (.take (.t 1)), W 6 (.take (.t 1))])
(.seq (.ops [T (.mov (.x 5)), T (.app 1 1 (kn 1) (.t 0)), T (.mov (.x 1)), T (.app 1 1 (.t 1) (.t 0)), T (.call false 9 [(.t 0)]), T (.take (.t 0)), T (.ext 0 (.t 0)), T (.ext 1 (.t 1)), W 7 (.alloc false zz4), N (.store 5 (.x 7) (.t 2)), W 8 (.take (.t 2))])
(.seq (.ifs [T (.mov (.x 6)), T (.bin .neq (.t 0) (ki 0)), T (.mov (.t 0)), GT 0 false (.load (some 5) (.x 7)), GT 1 false (.load (some 5) (.x 3)), GT 2 false (.call false 7 [(.t 0)]), GT 3 false (.call false 12 [(.t 2), (.t 0)]), GT 4 false (.un .not (.t 0)), T (.pick (.t 5) (kb true) (.t 0)), T (.mov (.t 0)), GT 0 false (.mov (.x 8)), GT 1 false (.bin .neq (.t 0) (ki 0)), T (.pick (.t 2) (kb true) (.t 0)), T (.mov (.t 0)), GT 0 false (.mov (.x 5)), GT 1 false (.sub 1 (.t 0) none (some (ki 20)) none), GT 2 false (.call false 13 [(.t 0)]), GT 3 false (.bin .neq (.t 0) (kk .u16 0)), T (.pick (.t 4) (kb true) (.t 0))] (.t 0) (.seq (.ops [W 4 (.take (kb false))])
.ret) .skip)
(.seq (.ops [T (.mov (.x 2)), T (.cvi .i64 (.t 0)), T (.bin .rem (.t 0) (ki 160)), W 9 (.take (.t 0))])
(.seq (.frame (.seq (.ops [T (.mov (.x 5)), T (.appO 1 1 (kn 1) (.t 0) []), W 10 (.take (.t 0))])
(.ops [T (.mov (.x 10)), T (.mov (.x 9)), T (.bin .quo (.t 0) (ki 8)), T (.ia 1 (.t 2) (.t 0)), T (.load none (.t 0)), T (.mov (.x 9)), T (.bin .rem (.t 0) (ki 8)), T (.bin .shl (kk .u8 1) (.t 0)), T (.bin .xor (.t 3) (.t 0)), T (.ia 1 (.t 8) (.t 6)), N (.store 1 (.t 0) (.t 1))])))
(.seq (.ops [T (.mov (.x 10)), T (.call false 9 [(.t 0)]), T (.take (.t 0)), T (.ext 0 (.t 0)), T (.ext 1 (.t 1)), T (.alloc false zz4), N (.store 5 (.t 0) (.t 2)), W 11 (.take (.t 2))])
(.seq (.ops [T (.mov (.x 11)), T (.bin .neq (.t 0) (ki 0)), T (.mov (.t 0)), GT 0 true (.call false 5 []), T (.pick (.t 1) (.t 0) (kb false)), W 4 (.take (.t 0))])
.ret))))))))) }
def euphroelaw32_IpcpBack.m : List Nat := [0, 1, 2, 3, 6, 7, 8, 9, 10, 11, 12, 14]
def euphroelaw32_alive.s : SFunc := { np := 0, nv := 7, res := [.var 0], code := (.seq (.ops [W 0 (.take (kb false))])
(.seq (.ops [N (.cst .undef), T (.lit 1 [(kk .u8 120)]), T (.build [.v (.int .u8 0), .v (.int .u8 0), .v (.int .u32 0), .v (.int .u32 0), .nils 1] [(0, 1, (kk .u8 9)), (1, 1, (kk .u8 17)), (2, 1, (kk .u32 1)), (3, 1, (kk .u32 2)), (4, 1, (.t 0))]), T (.call false 6 [(.t 0)]), T (.take (.t 0)), T (.ext 0 (.t 0)), T (.ext 1 (.t 1)), W 1 (.take (.t 1)), W 2 (.take (.t 1))])
(.seq (.ops [T (.mov (.x 1)), T (.call false 9 [(.t 0)]), T (.take (.t 0)), T (.ext 0 (.t 0)), T (.ext 1 (.t 1)), W 3 (.alloc false zz4), N (.store 5 (.x 3) (.t 2)), W 4 (.take (.t 2))])
(.seq (.ops [T (.build [.v (.bool false), .v (.int .u32 0), .v (.int .u32 0), .v (.int .u32 0), .v (.bool false)] [(1, 1, (kk .u32 5))]), T (.call false 16 [(.t 0)]), T (.call false 17 [(.t 0), (ki 2)]), T (.take (.t 0)), T (.ext 0 (.t 0)), T (.ext 1 (.t 1)), W 5 (.alloc false zz0), T (.alloc false zz2), N (.store 17 (.x 5) (.t 3)), N (.store 5 (.t 1) (.t 3))])
(.seq (.ops [T (.load (some 17) (.x 5)), T (.call false 17 [(.t 0), (ki 0)]), T (.take (.t 0)), T (.ext 0 (.t 0)), T (.ext 1 (.t 1)), W 6 (.alloc false zz2), N (.store 17 (.x 5) (.t 2)), N (.store 5 (.x 6) (.t 2))])
(.seq (.ops [T (.mov (.x 1)), T (.len (.t 0)), T (.bin .eql (.t 0) (ki 21)), T (.mov (.t 0)), GT 0 true (.mov (.x 2)), GT 1 true (.bin .eql (.t 0) (ki 0)), T (.pick (.t 2) (.t 0) (kb false)), T (.mov (.t 0)), GT 0 true (.fa 3 (.x 3)), GT 1 true (.load none (.t 0)), GT 2 true (.bin .eql (.t 0) (kk .u32 2)), T (.pick (.t 3) (.t 0) (kb false)), T (.mov (.t 0)), GT 0 true (.mov (.x 4)), GT 1 true (.bin .eql (.t 0) (ki 0)), T (.pick (.t 2) (.t 0) (kb false)), T (.mov (.t 0)), GT 0 true (.mov (.x 1)), GT 1 true (.sub 1 (.t 0) none (some (ki 20)) none), GT 2 true (.call false 13 [(.t 0)]), GT 3 true (.bin .eql (.t 0) (kk .u16 0)), T (.pick (.t 4) (.t 0) (kb false)), T (.mov (.t 0)), GT 0 true (.fa 0 (.x 6)), GT 1 true (.load none (.t 0)), GT 2 true (.len (.t 0)), GT 3 true (.bin .eql (.t 0) (ki 1)), T (.pick (.t 4) (.t 0) (kb false)), T (.mov (.t 0)), GT 0 true (.fa 0 (.x 6)), GT 1 true (.load none (.t 0)), GT 2 true (.ia 3 (.t 0) (ki 0)), GT 3 true (.fa 2 (.t 0)), GT 4 true (.load none (.t 0)), GT 5 true (.len (.t 0)), GT 6 true (.bin .eql (.t 0) (ki 6)), T (.pick (.t 7) (.t 0) (kb false)), T (.mov (.t 0)), GT 0 true (.load (some 17) (.x 5)), GT 1 true (.call false 18 [(.t 0)]), GT 2 true (.fld 1 none (.t 0)), GT 3 true (.bin .eql (.t 0) (kk .u32 5)), T (.pick (.t 4) (.t 0) (kb false)), T (.mov (.t 0)), GT 0 true (.load (some 5) (.x 3)), GT 1 true (.load (some 5) (.x 3)), GT 2 true (.call false 12 [(.t 1), (.t 0)]), T (.pick (.t 3) (.t 0) (kb false)), W 0 (.take (.t 0))])
.ret)))))) }
def euphroelaw32_alive.m : List Nat := [0, 1, 2, 3, 4, 5, 7]
def ipcp_Lay.s : SFunc := { np := 1, nv := 5, res := [.var 2, .var 3], code := (.seq (.ops [W 1 (.box false (.x 0)), W 2 (.take (kn 1)), W 3 (.take (ki 0))])
(.seq (.ifs [T (.fa 4 (.x 1)), T (.load none (.t 0)), T (.len (.t 0)), T (.bin .gtr (.t 0) (ki 1480))] (.t 0) (.seq (.ops [W 2 (.take (kn 1)), W 3 (.take (ki 8))])
.ret) .skip)
(.seq (.ops [T (.lit 1 [(kk .u8 69), (kk .u8 0)]), T (.fa 4 (.x 1)), T (.load none (.t 0)), T (.len (.t 0)), T (.bin .add (ki 20) (.t 0)), T (.cvi .u64 (.t 0)), T (.call false 20 [(.t 0), (ki 2)]), T (.lit 1 [(kk .u8 0), (kk .u8 0), (kk .u8 0), (kk .u8 0)]), T (.fa 0 (.x 1)), T (.load none (.t 0)), T (.fa 1 (.x 1)), T (.load none (.t 0)), T (.lit 1 [(.t 2), (.t 0), (kk .u8 0), (kk .u8 0)]), T (.fa 2 (.x 1)), T (.load none (.t 0)), T (.cvi .u64 (.t 0)), T (.call false 20 [(.t 0), (ki 4)]), T (.fa 3 (.x 1)), T (.load none (.t 0)), T (.cvi .u64 (.t 0)), T (.call false 20 [(.t 0), (ki 4)]), T (.litD [(.t 20), (.t 14), (.t 13), (.t 8), (.t 4), (.t 0)]), T (.call true 19 [(.t 0)]), W 4 (.take (.t 0))])
(.seq (.ops [T (.mov (.x 4)), T (.sub 1 (.t 0) (some (ki 10)) none none), T (.mov (.x 4)), T (.call false 13 [(.t 0)]), T (.cvi .u64 (.t 0)), T (.call false 20 [(.t 0), (ki 2)]), T (.cpy 1 (.t 4) (.t 0))])
(.seq (.ops [T (.take (.x 4)), T (.fa 4 (.x 1)), T (.load none (.t 0)), T (.appO 1 1 (.t 2) (.t 0) []), W 2 (.take (.t 0)), W 3 (.take (ki 0))])
.ret))))) }
def ipcp_Lay.m : List Nat := [0, 1, 2, 3, 4]
def euphroelaw32_theirs.s : SFunc := { np := 1, nv := 3, res := [.cell (some 5) 2], code := (.seq (.ops [W 1 (.box false (.x 0)), W 2 (.alloc false zz4)])
(.seq (.ops [T (.fa 0 (.x 1)), T (.load none (.t 0)), T (.fa 1 (.x 1)), T (.load none (.t 0)), T (.fa 2 (.x 1)), T (.load none (.t 0)), T (.fa 3 (.x 1)), T (.load none (.t 0)), T (.fa 4 (.x 1)), T (.load none (.t 0)), T (.build [.v (.int .u8 0), .v (.int .u8 0), .v (.int .u32 0), .v (.int .u32 0), .nils 1] [(0, 1, (.t 8)), (1, 1, (.t 6)), (2, 1, (.t 4)), (3, 1, (.t 2)), (4, 1, (.t 0))]), N (.store 5 (.x 2) (.t 0))])
.ret)) }
def euphroelaw32_theirs.m : List Nat := [0, 1, 2]
def euphroeref32_Lay.s : SFunc := { np := 1, nv := 6, res := [.var 2, .var 3], code := (.seq (.ops [W 1 (.box false (.x 0)), W 2 (.take (kn 1)), W 3 (.take (ki 0))])
(.seq (.ifs [T (.fa 4 (.x 1)), T (.load none (.t 0)), T (.len (.t 0)), T (.bin .gtr (.t 0) (ki 1480))] (.t 0) (.seq (.ops [W 2 (.take (kn 1)), W 3 (.take (ki 8))])
.ret) .skip)
(.seq (.ops [T (.litO 1 [(kk .u8 69), (kk .u8 0)]), T (.fa 4 (.x 1)), T (.load none (.t 0)), T (.len (.t 0)), T (.bin .add (ki 20) (.t 0)), T (.cvi .u64 (.t 0)), T (.call false 21 [(.t 0), (ki 2)]), T (.appO 1 1 (.t 6) (.t 0) []), W 4 (.take (.t 0))])
(.seq (.ops [T (.take (.x 4)), T (.fa 0 (.x 1)), T (.load none (.t 0)), T (.fa 1 (.x 1)), T (.load none (.t 0)), T (.lit 1 [(kk .u8 0), (kk .u8 0), (kk .u8 0), (kk .u8 0), (.t 2), (.t 0), (kk .u8 0), (kk .u8 0)]), T (.appO 1 1 (.t 5) (.t 0) []), W 4 (.take (.t 0))])
(.seq (.ops [T (.take (.x 4)), T (.fa 2 (.x 1)), T (.load none (.t 0)), T (.cvi .u64 (.t 0)), T (.call false 21 [(.t 0), (ki 4)]), T (.appO 1 1 (.t 4) (.t 0) [(.x 1)]), T (.fa 3 (.x 1)), T (.loadR (.x 1) none (.t 0)), T (.cvi .u64 (.t 0)), T (.call false 21 [(.t 0), (ki 4)]), T (.appO 1 1 (.t 4) (.t 0) []), W 4 (.take (.t 0))])
(.seq (.ops [T (.mov (.x 4)), T (.call false 14 [(.t 0)]), W 5 (.take (.t 0))])
(.seq (.ops [T (.mov (.x 4)), T (.mov (.x 4)), T (.mov (.x 5)), T (.bin .quo (.t 0) (kk .u16 256)), T (.cvi .u8 (.t 0)), T (.mov (.x 5)), T (.bin .rem (.t 0) (kk .u16 256)), T (.cvi .u8 (.t 0)), T (.ia 1 (.t 7) (ki 10)), N (.store 1 (.t 0) (.t 4)), T (.ia 1 (.t 8) (ki 11)), N (.store 1 (.t 0) (.t 3))])
(.seq (.ops [T (.take (.x 4)), T (.fa 4 (.x 1)), T (.load none (.t 0)), T (.appO 1 1 (.t 2) (.t 0) []), W 2 (.take (.t 0)), W 3 (.take (ki 0))])
.ret)))))))) }
def euphroeref32_Lay.m : List Nat := [0, 1, 2, 3, 4, 5]
def ipcp_Parse.s : SFunc := { np := 1, nv := 7, res := [.cell (some 5) 1, .var 2], code := (.seq (.ops [W 1 (.alloc false zz4), W 2 (.take (ki 0))])
(.seq (.block 0 (.ifs [T (.mov (.x 0)), T (.len (.t 0)), T (.bin .lss (.t 0) (ki 20)), T (.take (.t 0))] (.t 0) (.seq (.ops [T (.build [.v (.int .u8 0), .v (.int .u8 0), .v (.int .u32 0), .v (.int .u32 0), .nils 1] []), N (.store 5 (.x 1) (.t 0)), W 2 (.take (ki 4))])
.ret) (.ifs [T (.mov (.x 0)), T (.ia 1 (.t 0) (ki 0)), T (.load none (.t 0)), T (.bin .neq (.t 0) (kk .u8 69)), T (.take (.t 0))] (.t 0) (.seq (.ops [T (.build [.v (.int .u8 0), .v (.int .u8 0), .v (.int .u32 0), .v (.int .u32 0), .nils 1] []), N (.store 5 (.x 1) (.t 0)), W 2 (.take (ki 15))])
.ret) .skip)))
(.seq (.ops [T (.mov (.x 0)), T (.sub 1 (.t 0) (some (ki 2)) (some (ki 4)) none), T (.call false 22 [(.t 0), (kb false)]), T (.take (.t 0)), T (.ext 0 (.t 0)), T (.ext 1 (.t 1)), W 3 (.take (.t 1)), T (.take (.t 1))])
(.seq (.ops [T (.mov (.x 3)), T (.cvi .i64 (.t 0)), W 4 (.take (.t 0))])
(.seq (.block 1 (.ifs [T (.mov (.x 4)), T (.bin .lss (.t 0) (ki 20)), T (.take (.t 0))] (.t 0) (.seq (.ops [T (.build [.v (.int .u8 0), .v (.int .u8 0), .v (.int .u32 0), .v (.int .u32 0), .nils 1] []), N (.store 5 (.x 1) (.t 0)), W 2 (.take (ki 3))])
.ret) (.ifs [T (.mov (.x 0)), T (.len (.t 0)), T (.mov (.x 4)), T (.bin .lss (.t 1) (.t 0)), T (.take (.t 0))] (.t 0) (.seq (.ops [T (.build [.v (.int .u8 0), .v (.int .u8 0), .v (.int .u32 0), .v (.int .u32 0), .nils 1] []), N (.store 5 (.x 1) (.t 0)), W 2 (.take (ki 4))])
.ret) (.ifs [T (.mov (.x 4)), T (.bin .gtr (.t 0) (ki 1500)), T (.take (.t 0))] (.t 0) (.seq (.ops [T (.build [.v (.int .u8 0), .v (.int .u8 0), .v (.int .u32 0), .v (.int .u32 0), .nils 1] []), N (.store 5 (.x 1) (.t 0)), W 2 (.take (ki 8))])
.ret) (.ifs [T (.mov (.x 0)), T (.sub 1 (.t 0) none (some (ki 20)) none), T (.call false 13 [(.t 0)]), T (.bin .neq (.t 0) (kk .u16 0)), T (.take (.t 0))] (.t 0) (.seq (.ops [T (.build [.v (.int .u8 0), .v (.int .u8 0), .v (.int .u32 0), .v (.int .u32 0), .nils 1] []), N (.store 5 (.x 1) (.t 0)), W 2 (.take (ki 3))])
.ret) .skip)))))
(.seq (.ops [T (.mov (.x 0)), T (.sub 1 (.t 0) (some (ki 12)) (some (ki 16)) none), T (.call false 22 [(.t 0), (kb false)]), T (.take (.t 0)), T (.ext 0 (.t 0)), T (.ext 1 (.t 1)), W 5 (.take (.t 1)), T (.take (.t 1))])
(.seq (.ops [T (.mov (.x 0)), T (.sub 1 (.t 0) (some (ki 16)) (some (ki 20)) none), T (.call false 22 [(.t 0), (kb false)]), T (.take (.t 0)), T (.ext 0 (.t 0)), T (.ext 1 (.t 1)), W 6 (.take (.t 1)), T (.take (.t 1))])
(.seq (.ops [T (.mov (.x 0)), T (.ia 1 (.t 0) (ki 8)), T (.load none (.t 0)), T (.mov (.x 0)), T (.ia 1 (.t 0) (ki 9)), T (.load none (.t 0)), T (.mov (.x 5)), T (.cvi .u32 (.t 0)), T (.mov (.x 6)), T (.cvi .u32 (.t 0)), T (.mov (.x 0)), T (.mov (.x 4)), T (.sub 1 (.t 1) (some (ki 20)) (some (.t 0)) none), T (.call false 23 [(.t 0)]), T (.build [.v (.int .u8 0), .v (.int .u8 0), .v (.int .u32 0), .v (.int .u32 0), .nils 1] [(0, 1, (.t 11)), (1, 1, (.t 8)), (2, 1, (.t 6)), (3, 1, (.t 4)), (4, 1, (.t 0))]), N (.store 5 (.x 1) (.t 0)), W 2 (.take (ki 0))])
.ret)))))))) }
def ipcp_Parse.m : List Nat := [0, 2, 3, 4, 6, 7, 9]
def euphroeref32_Parse.s : SFunc := { np := 1, nv := 4, res := [.cell (some 5) 1, .var 2], code := (.seq (.ops [W 1 (.alloc false zz4), W 2 (.take (ki 0))])
(.seq (.ifs [T (.mov (.x 0)), T (.len (.t 0)), T (.bin .lss (.t 0) (ki 20))] (.t 0) (.seq (.ops [T (.build [.v (.int .u8 0), .v (.int .u8 0), .v (.int .u32 0), .v (.int .u32 0), .nils 1] []), N (.store 5 (.x 1) (.t 0)), W 2 (.take (ki 4))])
.ret) .skip)
(.seq (.ifs [T (.mov (.x 0)), T (.ia 1 (.t 0) (ki 0)), T (.load none (.t 0)), T (.bin .neq (.t 0) (kk .u8 69))] (.t 0) (.seq (.ops [T (.build [.v (.int .u8 0), .v (.int .u8 0), .v (.int .u32 0), .v (.int .u32 0), .nils 1] []), N (.store 5 (.x 1) (.t 0)), W 2 (.take (ki 15))])
.ret) .skip)
(.seq (.ops [T (.mov (.x 0)), T (.sub 1 (.t 0) (some (ki 2)) (some (ki 4)) none), T (.call false 24 [(.t 0)]), T (.cvi .i64 (.t 0)), W 3 (.take (.t 0))])
(.seq (.ifs [T (.mov (.x 3)), T (.bin .lss (.t 0) (ki 20))] (.t 0) (.seq (.ops [T (.build [.v (.int .u8 0), .v (.int .u8 0), .v (.int .u32 0), .v (.int .u32 0), .nils 1] []), N (.store 5 (.x 1) (.t 0)), W 2 (.take (ki 3))])
.ret) .skip)
(.seq (.ifs [T (.mov (.x 0)), T (.len (.t 0)), T (.mov (.x 3)), T (.bin .lss (.t 1) (.t 0))] (.t 0) (.seq (.ops [T (.build [.v (.int .u8 0), .v (.int .u8 0), .v (.int .u32 0), .v (.int .u32 0), .nils 1] []), N (.store 5 (.x 1) (.t 0)), W 2 (.take (ki 4))])
.ret) .skip)
(.seq (.ifs [T (.mov (.x 3)), T (.bin .sub (.t 0) (ki 20)), T (.bin .gtr (.t 0) (ki 1480))] (.t 0) (.seq (.ops [T (.build [.v (.int .u8 0), .v (.int .u8 0), .v (.int .u32 0), .v (.int .u32 0), .nils 1] []), N (.store 5 (.x 1) (.t 0)), W 2 (.take (ki 8))])
.ret) .skip)
(.seq (.ifs [T (.mov (.x 0)), T (.sub 1 (.t 0) none (some (ki 20)) none), T (.call false 14 [(.t 0)]), T (.bin .neq (.t 0) (kk .u16 0))] (.t 0) (.seq (.ops [T (.build [.v (.int .u8 0), .v (.int .u8 0), .v (.int .u32 0), .v (.int .u32 0), .nils 1] []), N (.store 5 (.x 1) (.t 0)), W 2 (.take (ki 3))])
.ret) .skip)
(.seq (.ops [T (.mov (.x 0)), T (.ia 1 (.t 0) (ki 8)), T (.load none (.t 0)), T (.mov (.x 0)), T (.ia 1 (.t 0) (ki 9)), T (.load none (.t 0)), T (.mov (.x 0)), T (.sub 1 (.t 0) (some (ki 12)) (some (ki 16)) none), T (.call false 24 [(.t 0)]), T (.cvi .u32 (.t 0)), T (.mov (.x 0)), T (.sub 1 (.t 0) (some (ki 16)) (some (ki 20)) none), T (.call false 24 [(.t 0)]), T (.cvi .u32 (.t 0)), T (.mov (.x 0)), T (.mov (.x 3)), T (.sub 1 (.t 1) (some (ki 20)) (some (.t 0)) none), T (.build [.v (.int .u8 0), .v (.int .u8 0), .v (.int .u32 0), .v (.int .u32 0), .nils 1] [(0, 1, (.t 14)), (1, 1, (.t 11)), (2, 1, (.t 7)), (3, 1, (.t 3)), (4, 1, (.t 0))]), N (.store 5 (.x 1) (.t 0)), W 2 (.take (ki 0))])
.ret))))))))) }
def euphroeref32_Parse.m : List Nat := [0, 2, 3, 4]
def euphroeref01_Same.l0 : SCode := (.seq (.ifs [T (.mov (.x 3)), T (.mov (.x 0)), T (.len (.t 0)), T (.bin .lss (.t 2) (.t 0))] (.t 0) .skip (.exit 0))
(.seq (.block 1 (.ifs [T (.mov (.x 0)), T (.mov (.x 3)), T (.ia 1 (.t 1) (.t 0)), T (.load none (.t 0)), T (.mov (.x 1)), T (.mov (.x 3)), T (.ia 1 (.t 1) (.t 0)), T (.load none (.t 0)), T (.bin .neq (.t 4) (.t 0))] (.t 0) (.seq (.ops [W 2 (.take (kb false))])
.ret) .skip))
(.ops [T (.mov (.x 3)), T (.bin .add (.t 0) (ki 1)), W 3 (.take (.t 0))])))
def euphroeref01_Same.s : SFunc := { np := 2, nv := 4, res := [.var 2], code := (.seq (.ops [W 2 (.take (kb false))])
(.seq (.ifs [T (.mov (.x 0)), T (.len (.t 0)), T (.mov (.x 1)), T (.len (.t 0)), T (.bin .neq (.t 2) (.t 0))] (.t 0) (.seq (.ops [W 2 (.take (kb false))])
.ret) .skip)
(.seq (.seq (.ops [W 3 (.take (ki 0))])
(.block 0 (.loop [] euphroeref01_Same.l0)))
(.seq (.ops [W 2 (.take (kb true))])
.ret)))) }
def euphroeref01_Same.m : List Nat := [0, 1, 4, 5]
def ipcp_Same.s : SFunc := { np := 2, nv := 5, res := [.var 4], code := (.seq (.ops [W 2 (.box false (.x 0)), W 3 (.box false (.x 1)), W 4 (.take (kb false))])
(.seq (.ops [T (.fa 0 (.x 2)), T (.load none (.t 0)), T (.fa 0 (.x 3)), T (.load none (.t 0)), T (.bin .eql (.t 2) (.t 0)), T (.mov (.t 0)), GT 0 true (.fa 1 (.x 2)), GT 1 true (.load none (.t 0)), GT 2 true (.fa 1 (.x 3)), GT 3 true (.load none (.t 0)), GT 4 true (.bin .eql (.t 2) (.t 0)), T (.pick (.t 5) (.t 0) (kb false)), T (.mov (.t 0)), GT 0 true (.fa 2 (.x 2)), GT 1 true (.load none (.t 0)), GT 2 true (.fa 2 (.x 3)), GT 3 true (.load none (.t 0)), GT 4 true (.bin .eql (.t 2) (.t 0)), T (.pick (.t 5) (.t 0) (kb false)), T (.mov (.t 0)), GT 0 true (.fa 3 (.x 2)), GT 1 true (.load none (.t 0)), GT 2 true (.fa 3 (.x 3)), GT 3 true (.load none (.t 0)), GT 4 true (.bin .eql (.t 2) (.t 0)), T (.pick (.t 5) (.t 0) (kb false)), T (.mov (.t 0)), GT 0 true (.fa 4 (.x 2)), GT 1 true (.load none (.t 0)), GT 2 true (.fa 4 (.x 3)), GT 3 true (.load none (.t 0)), GT 4 true (.call false 25 [(.t 2), (.t 0)]), T (.pick (.t 5) (.t 0) (kb false)), W 4 (.take (.t 0))])
.ret)) }
def ipcp_Same.m : List Nat := [0, 1, 2, 3, 4]
def ipcp_Sum.l1 : SCode := (.seq (.ifs [T (.mov (.x 2)), T (.bin .gtr (.t 0) (kk .u64 65535))] (.t 0) .skip (.exit 2))
(.block 3 (.ops [T (.mov (.x 2)), T (.bin .and (.t 0) (kk .u64 65535)), T (.mov (.x 2)), T (.bin .shr (.t 0) (kk .u64 16)), T (.bin .add (.t 2) (.t 0)), W 2 (.take (.t 0))])))
def ipcp_Sum.l0 : SCode := (.seq (.ifs [T (.bin .lss (.x 5) (.x 4))] (.t 0) .skip (.exit 0))
(.seq (.block 1 (.seq (.ops [T (.mov (.x 5)), T (.ia 1 (.x 3) (.x 5)), T (.load none (.t 0)), W 6 (.take (.t 2)), W 7 (.take (.t 1))])
(.ifs [T (.mov (.x 6)), T (.bin .and (.t 0) (ki 1)), T (.bin .eql (.t 0) (ki 0))] (.t 0) (.ops [T (.mov (.x 2)), T (.mov (.x 7)), T (.cvi .u64 (.t 0)), T (.bin .shl (.t 0) (kk .u64 8)), T (.bin .add (.t 3) (.t 0)), W 2 (.take (.t 0))]) (.ops [T (.mov (.x 2)), T (.mov (.x 7)), T (.cvi .u64 (.t 0)), T (.bin .add (.t 2) (.t 0)), W 2 (.take (.t 0))]))))
(.ops [T (.bin .add (.x 5) (ki 1)), W 5 (.mov (.t 0))])))
def ipcp_Sum.s : SFunc := { np := 1, nv := 8, res := [.var 1], code := (.seq (.ops [W 1 (.take (kk .u16 0))])
(.seq (.ops [W 2 (.take (kk .u64 0))])
(.seq (.seq (.ops [W 3 (.mov (.x 0)), W 4 (.len (.x 3)), W 5 (.mov (ki 0))])
(.block 0 (.loop [6, 7] ipcp_Sum.l0)))
(.seq (.block 2 (.loop [] ipcp_Sum.l1))
(.seq (.ops [T (.mov (.x 2)), T (.cvi .u16 (.t 0)), T (.un .xor (.t 0)), W 1 (.take (.t 0))])
.ret))))) }
def ipcp_Sum.m : List Nat := [0, 2, 3, 6, 7, 8, 4, 5]
def euphroeref32_Sum.l0 : SCode := (.seq (.ifs [T (.mov (.x 3)), T (.mov (.x 0)), T (.len (.t 0)), T (.bin .lss (.t 2) (.t 0))] (.t 0) .skip (.exit 0))
(.seq (.block 1 (.seq (.ops [T (.mov (.x 2)), T (.mov (.x 0)), T (.mov (.x 3)), T (.ia 1 (.t 1) (.t 0)), T (.load none (.t 0)), T (.cvi .i64 (.t 0)), T (.bin .mul (ki 256) (.t 0)), T (.bin .add (.t 6) (.t 0)), W 2 (.take (.t 0))])
(.seq (.ifs [T (.mov (.x 3)), T (.bin .add (.t 0) (ki 1)), T (.mov (.x 0)), T (.len (.t 0)), T (.bin .lss (.t 2) (.t 0))] (.t 0) (.ops [T (.mov (.x 2)), T (.mov (.x 0)), T (.mov (.x 3)), T (.bin .add (.t 0) (ki 1)), T (.ia 1 (.t 2) (.t 0)), T (.load none (.t 0)), T (.cvi .i64 (.t 0)), T (.bin .add (.t 6) (.t 0)), W 2 (.take (.t 0))]) .skip)
(.ops [T (.mov (.x 2)), T (.bin .rem (.t 0) (ki 65536)), T (.mov (.x 2)), T (.bin .quo (.t 0) (ki 65536)), T (.bin .add (.t 2) (.t 0)), W 2 (.take (.t 0))]))))
(.ops [T (.mov (.x 3)), T (.bin .add (.t 0) (ki 2)), W 3 (.take (.t 0))])))
def euphroeref32_Sum.s : SFunc := { np := 1, nv := 4, res := [.var 1], code := (.seq (.ops [W 1 (.take (kk .u16 0))])
(.seq (.ops [W 2 (.take (ki 0))])
(.seq (.seq (.ops [W 3 (.take (ki 0))])
(.block 0 (.loop [] euphroeref32_Sum.l0)))
(.seq (.ops [T (.mov (.x 2)), T (.bin .sub (ki 65535) (.t 0)), T (.cvi .u16 (.t 0)), W 1 (.take (.t 0))])
.ret)))) }
def euphroeref32_Sum.m : List Nat := [0, 2, 3, 4]
def euphroeref32_Same.s : SFunc := { np := 2, nv := 5, res := [.var 4], code := (.seq (.ops [W 2 (.box false (.x 0)), W 3 (.box false (.x 1)), W 4 (.take (kb false))])
(.seq (.ops [T (.fa 0 (.x 2)), T (.load none (.t 0)), T (.fa 0 (.x 3)), T (.load none (.t 0)), T (.bin .eql (.t 2) (.t 0)), T (.mov (.t 0)), GT 0 true (.fa 1 (.x 2)), GT 1 true (.load none (.t 0)), GT 2 true (.fa 1 (.x 3)), GT 3 true (.load none (.t 0)), GT 4 true (.bin .eql (.t 2) (.t 0)), T (.pick (.t 5) (.t 0) (kb false)), T (.mov (.t 0)), GT 0 true (.fa 2 (.x 2)), GT 1 true (.load none (.t 0)), GT 2 true (.fa 2 (.x 3)), GT 3 true (.load none (.t 0)), GT 4 true (.bin .eql (.t 2) (.t 0)), T (.pick (.t 5) (.t 0) (kb false)), T (.mov (.t 0)), GT 0 true (.fa 3 (.x 2)), GT 1 true (.load none (.t 0)), GT 2 true (.fa 3 (.x 3)), GT 3 true (.load none (.t 0)), GT 4 true (.bin .eql (.t 2) (.t 0)), T (.pick (.t 5) (.t 0) (kb false)), T (.mov (.t 0)), GT 0 true (.fa 4 (.x 2)), GT 1 true (.load none (.t 0)), GT 2 true (.fa 4 (.x 3)), GT 3 true (.load none (.t 0)), GT 4 true (.call false 11 [(.t 2), (.t 0)]), T (.pick (.t 5) (.t 0) (kb false)), W 4 (.take (.t 0))])
.ret)) }
def euphroeref32_Same.m : List Nat := [0, 1, 2, 3, 4]
def ipcp_New.s : SFunc := { np := 1, nv := 3, res := [.cell (some 17) 2], code := (.seq (.ops [W 1 (.box false (.x 0)), W 2 (.alloc false zz0)])
(.seq (.ops [T (.load (some 5) (.x 1)), T (.build [.v (.bool false), .v (.int .u16 0), .v (.int .u32 0), .v (.bool false), .v (.bool false), .v (.bool false), .v (.int .u32 0), .v (.int .u32 0), .v (.int .u32 0), .v (.bool false)] [(0, 1, (kb true)), (5, 5, (.t 0))]), T (.call false 26 [(.t 0)]), T (.build [.v (.int .i64 0), .v (.int .i64 0), .v (.int .i64 0), .v (.int .u8 0), .nils 2, .v (.bool false), .v (.int .u16 0), .v (.int .u32 0), .v (.bool false), .v (.bool false), .v (.bool false), .v (.int .u32 0), .v (.int .u32 0), .v (.int .u32 0), .v (.bool false), .nils 2, .v (.int .i64 0)] [(0, 17, (.t 0))]), T (.build [.v (.int .i64 0), .v (.int .i64 0), .v (.int .i64 0), .v (.int .u8 0), .nils 2, .v (.bool false), .v (.int .u16 0), .v (.int .u32 0), .v (.bool false), .v (.bool false), .v (.bool false), .v (.int .u32 0), .v (.int .u32 0), .v (.int .u32 0), .v (.bool false), .nils 2, .v (.int .i64 0)] [(0, 17, (.t 0))]), N (.store 17 (.x 2) (.t 0))])
.ret)) }
def ipcp_New.m : List Nat := [0, 1, 2]
def ipcp_End_Do.s : SFunc := { np := 2, nv := 5, res := [.cell (some 17) 3, .cell (some 5) 4], code := (.seq (.ops [W 2 (.box false (.x 0)), W 3 (.alloc false zz0), W 4 (.alloc false zz2)])
(.seq (.ops [T (.fa 0 (.x 2)), T (.fa 0 (.t 0)), T (.load (some 17) (.t 0)), T (.mov (.x 1)), T (.call false 28 [(.t 1), (.t 0)]), T (.ext 0 (.t 0)), T (.ext 1 (.t 1)), T (.call false 27 [(.t 1), (.t 0)]), T (.ext 0 (.t 0)), T (.ext 1 (.t 1)), N (.store 17 (.x 3) (.t 1)), N (.store 5 (.x 4) (.t 1))])
.ret)) }
def ipcp_End_Do.m : List Nat := [0, 1, 2, 4, 5]
def ipcp_End_Side.s : SFunc := { np := 1, nv := 3, res := [.cell (some 5) 2], code := (.seq (.ops [W 1 (.box false (.x 0)), W 2 (.alloc false (.v (.agg [(.bool false), (.int .u32 0), (.int .u32 0), (.int .u32 0), (.bool false)])))])
(.seq (.ops [T (.fa 0 (.x 1)), T (.fa 0 (.t 0)), T (.load (some 17) (.t 0)), T (.call false 29 [(.t 0)]), T (.fld 5 (some 5) (.t 0)), N (.store 5 (.x 2) (.t 0))])
.ret)) }
def ipcp_End_Side.m : List Nat := [0, 1, 2]
def ipcp_number.s : SFunc := { np := 2, nv := 4, res := [.var 2], code := (.seq (.ops [W 2 (.take (kn 1))])
(.seq (.ops [T (.mov (.x 0)), T (.mov (.x 1)), T (.call false 31 [(.t 1), (.t 0), (kb false)]), T (.take (.t 0)), T (.ext 0 (.t 0)), T (.ext 1 (.t 1)), W 3 (.take (.t 1)), T (.take (.t 1))])
(.seq (.ops [T (.take (.x 3)), W 2 (.take (.t 0))])
.ret))) }
def ipcp_number.m : List Nat := [0, 1, 4, 5]
def euphroeref01_Big.l0 : SCode := (.seq (.ifs [T (.mov (.x 4)), T (.bin .geq (.t 0) (ki 0))] (.t 0) .skip (.exit 0))
(.seq (.block 1 (.seq (.ops [T (.mov (.x 3)), T (.mov (.x 4)), T (.mov (.x 0)), T (.bin .rem (.t 0) (kk .u64 256)), T (.cvi .u8 (.t 0)), T (.ia 1 (.t 4) (.t 3)), N (.store 1 (.t 0) (.t 1))])
(.ops [T (.mov (.x 0)), T (.bin .quo (.t 0) (kk .u64 256)), W 0 (.take (.t 0))])))
(.ops [T (.mov (.x 4)), T (.bin .sub (.t 0) (ki 1)), W 4 (.take (.t 0))])))
def euphroeref01_Big.s : SFunc := { np := 2, nv := 5, res := [.var 2], code := (.seq (.ops [W 2 (.take (kn 1))])
(.seq (.ops [T (.mov (.x 1)), T (.make 1 1 (.v (.int .u8 0)) (.t 0) (.t 0)), W 3 (.take (.t 0))])
(.seq (.seq (.ops [T (.mov (.x 1)), T (.bin .sub (.t 0) (ki 1)), W 4 (.take (.t 0))])
(.block 0 (.loop [] euphroeref01_Big.l0)))
(.seq (.ops [T (.take (.x 3)), W 2 (.take (.t 0))])
.ret)))) }
def euphroeref01_Big.m : List Nat := [0, 1, 4, 5, 6]
def octs_Get.l0 : SCode := (.seq (.ifs [T (.bin .lss (.x 7) (.x 6))] (.t 0) .skip (.exit 0))
(.seq (.block 1 (.seq (.ops [T (.mov (.x 7)), T (.ia 1 (.x 5) (.x 7)), T (.load none (.t 0)), W 8 (.take (.t 2)), W 9 (.take (.t 1))])
(.ifs [T (.mov (.x 1))] (.t 0) (.ops [T (.mov (.x 4)), T (.mov (.x 9)), T (.cvi .u64 (.t 0)), T (.mov (.x 8)), T (.bin .mul (ki 8) (.t 0)), T (.bin .shl (.t 2) (.t 0)), T (.bin .or (.t 5) (.t 0)), W 4 (.take (.t 0))]) (.ops [T (.mov (.x 4)), T (.bin .shl (.t 0) (kk .u64 8)), T (.mov (.x 9)), T (.cvi .u64 (.t 0)), T (.bin .or (.t 2) (.t 0)), W 4 (.take (.t 0))]))))
(.ops [T (.bin .add (.x 7) (ki 1)), W 7 (.mov (.t 0))])))
def octs_Get.s : SFunc := { np := 2, nv := 10, res := [.var 2, .var 3], code := (.seq (.ops [W 2 (.take (kk .u64 0)), W 3 (.take (ki 0))])
(.seq (.ifs [T (.mov (.x 0)), T (.len (.t 0)), T (.bin .lss (.t 0) (ki 1)), T (.mov (.t 0)), GT 0 false (.mov (.x 0)), GT 1 false (.len (.t 0)), GT 2 false (.bin .gtr (.t 0) (ki 8)), T (.pick (.t 3) (kb true) (.t 0))] (.t 0) (.seq (.ops [W 2 (.take (kk .u64 0)), W 3 (.take (ki 1))])
.ret) .skip)
(.seq (.ops [W 4 (.take (kk .u64 0))])
(.seq (.seq (.ops [W 5 (.mov (.x 0)), W 6 (.len (.x 5)), W 7 (.mov (ki 0))])
(.block 0 (.loop [8, 9] octs_Get.l0)))
(.seq (.ops [T (.take (.x 4)), W 2 (.take (.t 0)), W 3 (.take (ki 0))])
.ret))))) }
def octs_Get.m : List Nat := [0, 1, 4, 5, 6, 17, 18, 19, 7, 8]
def bytes_Clone.s : SFunc := { np := 1, nv := 2, res := [.var 1], code := (.nilc 1 0 1 1 (.seq (.ops [W 1 (.take (kn 1))])
(.seq (.ifs [T (.mov (.x 0)), T (.eq .s false (.t 0) (kn 1))] (.t 0) (.seq (.ops [W 1 (.take (kn 1))])
.ret) .skip)
(.seq (.ops [T (.lit 1 []), T (.mov (.x 0)), T (.app 1 1 (.t 1) (.t 0)), W 1 (.take (.t 0))])
.ret)))) }
def bytes_Clone.m : List Nat := [0, 2]
def euphroeref01_Num.l0 : SCode := (.seq (.ifs [T (.mov (.x 3)), T (.mov (.x 0)), T (.len (.t 0)), T (.bin .lss (.t 2) (.t 0))] (.t 0) .skip (.exit 0))
(.seq (.block 1 (.ops [T (.mov (.x 2)), T (.bin .mul (.t 0) (kk .u64 256)), T (.mov (.x 0)), T (.mov (.x 3)), T (.ia 1 (.t 1) (.t 0)), T (.load none (.t 0)), T (.cvi .u64 (.t 0)), T (.bin .add (.t 5) (.t 0)), W 2 (.take (.t 0))]))
(.ops [T (.mov (.x 3)), T (.bin .add (.t 0) (ki 1)), W 3 (.take (.t 0))])))
def euphroeref01_Num.s : SFunc := { np := 1, nv := 4, res := [.var 1], code := (.seq (.ops [W 1 (.take (kk .u64 0))])
(.seq (.ops [W 2 (.take (kk .u64 0))])
(.seq (.seq (.ops [W 3 (.take (ki 0))])
(.block 0 (.loop [] euphroeref01_Num.l0)))
(.seq (.ops [T (.take (.x 2)), W 1 (.take (.t 0))])
.ret)))) }
def euphroeref01_Num.m : List Nat := [0, 2, 3, 4]
def bytes_Equal.s : SFunc := { np := 2, nv := 3, res := [.var 2], code := (.seq (.ops [W 2 (.take (kb false))])
(.seq (.ops [T (.mov (.x 0)), T (.b2s (.t 0)), T (.mov (.x 1)), T (.b2s (.t 0)), T (.bin .eql (.t 2) (.t 0)), W 2 (.take (.t 0))])
.ret)) }
def bytes_Equal.m : List Nat := [0, 1, 4]
def nego_New.s : SFunc := { np := 1, nv := 3, res := [.cell (some 17) 2], code := (.seq (.ops [W 1 (.box false (.x 0)), W 2 (.alloc false zz0)])
(.seq (.ops [T (.load (some 10) (.x 1)), T (.build [.v (.int .i64 0), .v (.int .i64 0), .v (.int .i64 0), .v (.int .u8 0), .nils 2, .v (.bool false), .v (.int .u16 0), .v (.int .u32 0), .v (.bool false), .v (.bool false), .v (.bool false), .v (.int .u32 0), .v (.int .u32 0), .v (.int .u32 0), .v (.bool false), .nils 2, .v (.int .i64 0)] [(5, 10, (.t 0))]), N (.store 17 (.x 2) (.t 0))])
.ret)) }
def nego_New.m : List Nat := [0, 1, 2]
def ipcp_with.s : SFunc := { np := 2, nv := 6, res := [.cell (some 17) 4, .cell (some 5) 5], code := (.seq (.ops [W 2 (.box false (.x 0)), W 3 (.box false (.x 1)), W 4 (.alloc false zz0), W 5 (.alloc false zz2)])
(.seq (.ops [T (.load (some 17) (.x 2)), T (.build [.v (.int .i64 0), .v (.int .i64 0), .v (.int .i64 0), .v (.int .u8 0), .nils 2, .v (.bool false), .v (.int .u16 0), .v (.int .u32 0), .v (.bool false), .v (.bool false), .v (.bool false), .v (.int .u32 0), .v (.int .u32 0), .v (.int .u32 0), .v (.bool false), .nils 2, .v (.int .i64 0)] [(0, 17, (.t 0))]), T (.build [.v (.int .i64 0), .v (.int .i64 0), .v (.int .i64 0), .v (.int .u8 0), .nils 2, .v (.bool false), .v (.int .u16 0), .v (.int .u32 0), .v (.bool false), .v (.bool false), .v (.bool false), .v (.int .u32 0), .v (.int .u32 0), .v (.int .u32 0), .v (.bool false), .nils 2, .v (.int .i64 0)] [(0, 17, (.t 0))]), T (.load (some 5) (.x 3)), N (.storeS 17 (.x 4) (.t 1) [(.x 3)]), N (.store 5 (.x 5) (.t 1))])
.ret)) }
def ipcp_with.m : List Nat := [0, 1, 2, 3, 4, 5]
def nego_Nego_Do.s : SFunc := { np := 2, nv := 5, res := [.cell (some 17) 3, .cell (some 5) 4], code := (.seq (.ops [W 2 (.box false (.x 0)), W 3 (.alloc false zz0), W 4 (.alloc false zz2)])
(.seq (.ifs [T (.mov (.x 1)), T (.bin .lss (.t 0) (ki 0)), T (.mov (.t 0)), GT 0 false (.mov (.x 1)), GT 1 false (.bin .gtr (.t 0) (ki 3)), T (.pick (.t 2) (kb true) (.t 0))] (.t 0) (.seq (.ops [T (.load (some 17) (.x 2)), T (.build [.nils 3, .v (.bool false), .v (.bool false), .v (.bool false), .v (.bool false)] []), N (.store 17 (.x 3) (.t 1)), N (.store 5 (.x 4) (.t 1))])
.ret) .skip)
(.seq (.ops [T (.load (some 17) (.x 2)), T (.mov (.x 1)), T (.build [.v (.int .u8 0), .v (.int .u8 0), .nils 1] []), T (.build [.v (.int .u8 0), .v (.int .u8 0), .nils 1] []), T (.call false 32 [(.t 3), (.t 2), (.t 1), (.t 0)]), T (.ext 0 (.t 0)), T (.ext 1 (.t 1)), N (.store 17 (.x 3) (.t 1)), N (.store 5 (.x 4) (.t 1))])
.ret))) }
def nego_Nego_Do.m : List Nat := [0, 1, 2, 4, 5]
def nego_Nego_Rules.s : SFunc := { np := 1, nv := 3, res := [.cell (some 10) 2], code := (.seq (.ops [W 1 (.box false (.x 0)), W 2 (.alloc false (.v (.agg [(.bool false), (.int .u16 0), (.int .u32 0), (.bool false), (.bool false), (.bool false), (.int .u32 0), (.int .u32 0), (.int .u32 0), (.bool false)])))])
(.seq (.ops [T (.fa 5 (.x 1)), T (.load (some 10) (.t 0)), N (.store 10 (.x 2) (.t 0))])
.ret)) }
def nego_Nego_Rules.m : List Nat := [0, 1, 2]
def octs_Put.l0 : SCode := (.seq (.ifs [T (.bin .lss (.x 7) (.x 6))] (.t 0) .skip (.exit 0))
(.seq (.block 1 (.seq (.ops [T (.mov (.x 7)), W 8 (.take (.t 0))])
(.ops [T (.mov (.x 5)), T (.mov (.x 8)), T (.mov (.x 0)), T (.mov (.x 8)), T (.bin .mul (ki 8) (.t 0)), T (.bin .shr (.t 2) (.t 0)), T (.cvi .u8 (.t 0)), T (.ia 1 (.t 6) (.t 5)), N (.store 1 (.t 0) (.t 1))])))
(.ops [T (.bin .add (.x 7) (ki 1)), W 7 (.mov (.t 0))])))
def octs_Put.s : SFunc := { np := 3, nv := 9, res := [.var 3, .var 4], code := (.seq (.ops [W 3 (.take (kn 1)), W 4 (.take (ki 0))])
(.seq (.ifs [T (.mov (.x 1)), T (.bin .lss (.t 0) (ki 1)), T (.mov (.t 0)), GT 0 false (.mov (.x 1)), GT 1 false (.bin .gtr (.t 0) (ki 8)), T (.pick (.t 2) (kb true) (.t 0))] (.t 0) (.seq (.ops [W 3 (.take (kn 1)), W 4 (.take (ki 1))])
.ret) .skip)
(.seq (.ops [T (.mov (.x 1)), T (.make 1 1 (.v (.int .u8 0)) (.t 0) (.t 0)), W 5 (.take (.t 0))])
(.seq (.seq (.ops [T (.mov (.x 5)), W 6 (.len (.t 0)), W 7 (.mov (ki 0))])
(.block 0 (.loop [8] octs_Put.l0)))
(.seq (.ifs [T (.mov (.x 2)), T (.un .not (.t 0))] (.t 0) (.ops [T (.mov (.x 5)), T (.call true 34 [(.t 0)])]) .skip)
(.seq (.ops [T (.take (.x 5)), W 3 (.take (.t 0)), W 4 (.take (ki 0))])
.ret)))))) }
def octs_Put.m : List Nat := [0, 1, 2, 6, 7, 8, 19, 20, 9]
def nego_Nego_event.l0 : SCode := (.seq (.ifs [T (.bin .lss (.x 15) (.x 14))] (.t 0) .skip (.exit 0))
(.seq (.block 1 (.seq (.ops [T (.ia 1 (.x 13) (.x 15)), T (.load none (.t 0)), W 16 (.take (.t 0))])
(.ops [T (.mov (.x 12)), T (.mov (.x 16)), T (.mov (.x 10)), T (.call false 37 [(.t 0), (ki 10)]), T (.call true 36 [(.t 3), (.t 2), (.t 0)])])))
(.ops [T (.bin .add (.x 15) (ki 1)), W 15 (.mov (.t 0))])))
def nego_Nego_event.s : SFunc := { np := 4, nv := 17, res := [.cell (some 17) 7, .cell (some 5) 8], code := (.seq (.ops [W 4 (.box false (.x 0)), W 5 (.box false (.x 2)), W 6 (.box false (.x 3)), W 7 (.alloc false zz0), W 8 (.alloc false zz2)])
(.seq (.ops [T (.fa 0 (.x 4)), T (.load none (.t 0)), T (.mov (.x 1)), T (.call false 35 [(.t 1), (.t 0)]), T (.take (.t 0)), T (.ext 0 (.t 0)), T (.ext 1 (.t 1)), T (.ext 2 (.t 2)), W 9 (.take (.t 2)), W 10 (.take (.t 2)), W 11 (.take (.t 2))])
(.seq (.ifs [T (.mov (.x 11)), T (.bin .neq (.t 0) (ki 0))] (.t 0) (.seq (.ops [T (.load (some 17) (.x 4)), T (.build [.nils 3, .v (.bool false), .v (.bool false), .v (.bool false), .v (.bool false)] []), N (.store 17 (.x 7) (.t 1)), N (.store 5 (.x 8) (.t 1))])
.ret) .skip)
(.seq (.ops [T (.mov (.x 9)), T (.fa 0 (.x 4)), N (.store 1 (.t 0) (.t 1))])
(.seq (.ops [T (.load (some 17) (.x 4)), T (.load (some 3) (.x 5)), T (.load (some 3) (.x 6)), T (.build [.v (.int .i64 0), .v (.int .i64 0), .v (.int .i64 0), .v (.int .u8 0), .nils 2, .v (.bool false), .v (.int .u16 0), .v (.int .u32 0), .v (.bool false), .v (.bool false), .v (.bool false), .v (.int .u32 0), .v (.int .u32 0), .v (.int .u32 0), .v (.bool false), .nils 2, .v (.int .i64 0), .nils 3, .v (.bool false), .v (.bool false), .v (.bool false), .v (.bool false), .v (.int .u8 0), .v (.int .u8 0), .nils 1, .v (.int .u8 0), .v (.int .u8 0), .nils 1] [(0, 17, (.t 2)), (22, 3, (.t 1)), (25, 3, (.t 0))]), T (.box false (.t 0)), W 12 (.take (.t 0))])
(.seq (.seq (.ops [W 13 (.mov (.x 10)), W 14 (.len (.x 13)), W 15 (.mov (ki 0))])
(.block 0 (.loop [16] nego_Nego_event.l0)))
(.seq (.ifs [T (.mov (.x 9)), T (.call false 38 [(.t 0)]), T (.un .not (.t 0))] (.t 0) (.ops [T (.mov (.x 12)), T (.mov (.x 12)), T (.nck (.t 0)), T (.fa 0 (.t 0)), T (.fa 1 (.t 0)), T (.load (some 2) (.t 0)), T (.call false 39 [(.t 0)]), T (.nck (.t 6)), T (.fa 0 (.t 0)), T (.fa 1 (.t 0)), N (.store 2 (.t 0) (.t 3))]) .skip)
(.seq (.ops [T (.mov (.x 12)), T (.nck (.t 0)), T (.fa 0 (.t 0)), T (.load (some 17) (.t 0)), T (.mov (.x 12)), T (.nck (.t 0)), T (.fa 17 (.t 0)), T (.loadR (.x 12) (some 5) (.t 0)), N (.storeS 17 (.x 7) (.t 4) [(.x 12)]), N (.store 5 (.x 8) (.t 1))])
.ret)))))))) }
def nego_Nego_event.m : List Nat := [0, 1, 2, 3, 4, 6, 7, 8, 9, 10, 11, 12, 13, 35, 36, 37, 15]
def slices_Reverse_byte.l0 : SCode := (.seq (.ifs [T (.mov (.x 1)), T (.mov (.x 2)), T (.bin .lss (.t 1) (.t 0))] (.t 0) .skip (.exit 0))
(.seq (.block 1 (.ops [T (.mov (.x 0)), T (.mov (.x 1)), T (.mov (.x 0)), T (.mov (.x 2)), T (.mov (.x 0)), T (.mov (.x 2)), T (.ia 1 (.t 1) (.t 0)), T (.load none (.t 0)), T (.mov (.x 0)), T (.mov (.x 1)), T (.ia 1 (.t 1) (.t 0)), T (.load none (.t 0)), T (.ia 1 (.t 11) (.t 10)), N (.store 1 (.t 0) (.t 5)), T (.ia 1 (.t 11) (.t 10)), N (.store 1 (.t 0) (.t 3))]))
(.ops [T (.mov (.x 1)), T (.bin .add (.t 0) (ki 1)), T (.mov (.x 2)), T (.bin .sub (.t 0) (ki 1)), W 1 (.take (.t 2)), W 2 (.take (.t 1))])))
def slices_Reverse_byte.s : SFunc := { np := 1, nv := 3, res := [], code := (.seq (.ops [T (.mov (.x 0)), T (.len (.t 0)), T (.bin .sub (.t 0) (ki 1)), W 1 (.take (ki 0)), W 2 (.take (.t 1))])
(.block 0 (.loop [] slices_Reverse_byte.l0))) }
def slices_Reverse_byte.m : List Nat := [0, 2, 3]
def fsm_Next.l0 : SCode := (.seq (.ifs [T (.bin .lss (.x 10) (.x 9))] (.t 0) .skip (.exit 0))
(.seq (.block 1 (.seq (.ops [T (.ia 1 (.x 8) (.x 10)), T (.load none (.t 0)), W 11 (.take (.t 0))])
(.ops [T (.take (.x 7)), T (.mov (.x 11)), T (.call false 43 [(.t 0)]), T (.lit 1 [(.t 0)]), T (.app 1 8 (.t 3) (.t 0)), W 7 (.take (.t 0))])))
(.ops [T (.bin .add (.x 10) (ki 1)), W 10 (.mov (.t 0))])))
def fsm_Next.s : SFunc := { np := 2, nv := 12, res := [.var 2, .var 3, .var 4], code := (.seq (.ops [W 2 (.take (ki 0)), W 3 (.take (kn 1)), W 4 (.take (ki 0))])
(.seq (.ifs [T (.mov (.x 0)), T (.call false 40 [(.t 0)]), T (.un .not (.t 0)), T (.mov (.t 0)), GT 0 false (.mov (.x 1)), GT 1 false (.bin .lss (.t 0) (ki 0)), T (.pick (.t 2) (kb true) (.t 0)), T (.mov (.t 0)), GT 0 false (.mov (.x 1)), GT 1 false (.bin .gtr (.t 0) (ki 15)), T (.pick (.t 2) (kb true) (.t 0))] (.t 0) (.seq (.ops [W 2 (.take (ki 0)), W 3 (.take (kn 1)), W 4 (.take (ki 1))])
.ret) .skip)
(.seq (.ops [T (.call false 42 []), T (.mov (.x 1)), T (.idxA 16 1 none (.t 1) (.t 0)), T (.call false 41 [(.t 0), (.c (.v (.str [124])))]), T (.mov (.x 0)), T (.ia 1 (.t 1) (.t 0)), T (.load none (.t 0)), W 5 (.take (.t 0))])
(.seq (.ifs [T (.mov (.x 5)), T (.bin .eql (.t 0) (.c (.v (.str [45]))))] (.t 0) (.seq (.ops [W 2 (.take (ki 0)), W 3 (.take (kn 1)), W 4 (.take (ki 11))])
.ret) .skip)
(.seq (.ops [T (.mov (.x 5)), T (.call false 41 [(.t 0), (.c (.v (.str [32])))]), W 6 (.take (.t 0))])
(.seq (.ops [W 7 (.take (kn 1))])
(.seq (.seq (.ops [T (.mov (.x 6)), T (.mov (.x 6)), T (.len (.t 0)), T (.bin .sub (.t 0) (ki 1)), W 8 (.sub 1 (.t 3) none (some (.t 0)) none), W 9 (.len (.x 8)), W 10 (.mov (ki 0))])
(.block 0 (.loop [11] fsm_Next.l0)))
(.seq (.ops [T (.mov (.x 6)), T (.mov (.x 6)), T (.len (.t 0)), T (.bin .sub (.t 0) (ki 1)), T (.ia 1 (.t 3) (.t 0)), T (.load none (.t 0)), T (.idx (.t 0) (ki 0)), T (.bin .sub (.t 0) (kk .u8 48)), T (.cvi .i64 (.t 0)), T (.take (.x 7)), W 2 (.take (.t 1)), W 3 (.take (.t 1)), W 4 (.take (ki 0))])
.ret)))))))) }
def fsm_Next.m : List Nat := [0, 1, 4, 5, 6, 7, 8, 9, 38, 39, 40, 11]
def nego_doer_do.s : SFunc := { np := 3, nv := 4, res := [], code := (.seq (.ops [W 3 (.mov (.x 1))])
(.block 0 (.seq (.block 12 (.seq (.block 11 (.seq (.block 10 (.seq (.block 9 (.block 8 (.seq (.block 7 (.seq (.block 6 (.seq (.block 5 (.seq (.block 4 (.seq (.block 3 (.seq (.block 2 (.seq (.block 1 (.seq (.seq (.ifs [T (.bin .eql (.x 3) (ki 1)), T (.take (.t 0))] (.t 0) (.exit 1) .skip)
(.seq (.ifs [T (.bin .eql (.x 3) (ki 2)), T (.take (.t 0))] (.t 0) (.exit 2) .skip)
(.seq (.ifs [T (.bin .eql (.x 3) (ki 3)), T (.take (.t 0))] (.t 0) (.exit 3) .skip)
(.seq (.ifs [T (.bin .eql (.x 3) (ki 4)), T (.take (.t 0))] (.t 0) (.exit 4) .skip)
(.seq (.ifs [T (.bin .eql (.x 3) (ki 5)), T (.take (.t 0))] (.t 0) (.exit 5) .skip)
(.seq (.ifs [T (.bin .eql (.x 3) (ki 6)), T (.take (.t 0))] (.t 0) (.exit 6) .skip)
(.seq (.ifs [T (.bin .eql (.x 3) (ki 7)), T (.take (.t 0))] (.t 0) (.exit 7) .skip)
(.seq (.ifs [T (.bin .eql (.x 3) (ki 8)), T (.take (.t 0))] (.t 0) (.exit 8) .skip)
(.seq (.ifs [T (.bin .eql (.x 3) (ki 9)), T (.take (.t 0))] (.t 0) (.exit 9) .skip)
(.seq (.ifs [T (.bin .eql (.x 3) (ki 10)), T (.take (.t 0))] (.t 0) (.exit 10) .skip)
(.seq (.ifs [T (.bin .eql (.x 3) (ki 11)), T (.take (.t 0))] (.t 0) (.exit 11) .skip)
(.ifs [T (.bin .eql (.x 3) (ki 12)), T (.take (.t 0))] (.t 0) (.exit 12) .skip))))))))))))
(.exit 0)))
(.seq (.ops [T (.mov (.x 0)), T (.nck (.t 0)), T (.fa 17 (.t 0)), T (.fa 1 (.t 0)), N (.store 1 (.t 0) (kb true))])
(.exit 0))))
(.seq (.ops [T (.mov (.x 0)), T (.nck (.t 0)), T (.fa 17 (.t 0)), T (.fa 2 (.t 0)), N (.store 1 (.t 0) (kb true))])
(.exit 0))))
(.seq (.ops [T (.mov (.x 0)), T (.nck (.t 0)), T (.fa 17 (.t 0)), T (.fa 3 (.t 0)), N (.store 1 (.t 0) (kb true))])
(.exit 0))))
(.seq (.ops [T (.mov (.x 0)), T (.nck (.t 0)), T (.fa 17 (.t 0)), T (.fa 4 (.t 0)), N (.store 1 (.t 0) (kb true))])
(.exit 0))))
(.seq (.ops [T (.mov (.x 0)), T (.mov (.x 0)), T (.nck (.t 0)), T (.fa 0 (.t 0)), T (.fa 1 (.t 0)), T (.load (some 2) (.t 0)), T (.mov (.x 2)), T (.call false 44 [(.t 1), (.t 0)]), T (.nck (.t 7)), T (.fa 0 (.t 0)), T (.fa 1 (.t 0)), N (.store 2 (.t 0) (.t 3))])
(.exit 0))))
(.seq (.ops [T (.mov (.x 0)), T (.mov (.x 0)), T (.nck (.t 0)), T (.fa 0 (.t 0)), T (.fa 1 (.t 0)), T (.load (some 2) (.t 0)), T (.call false 45 [(.t 0)]), T (.nck (.t 6)), T (.fa 0 (.t 0)), T (.fa 1 (.t 0)), N (.store 2 (.t 0) (.t 3))])
(.exit 0))))
(.seq (.ops [T (.mov (.x 0)), T (.call true 46 [(.t 0)])])
(.exit 0)))))
(.seq (.ops [T (.mov (.x 0)), T (.mov (.x 0)), T (.nck (.t 0)), T (.fa 25 (.t 0)), T (.load (some 3) (.t 0)), T (.call true 47 [(.t 4), (.t 0)])])
(.exit 0))))
(.seq (.seq (.ops [T (.mov (.x 0)), T (.mov (.x 0)), T (.call true 48 [(.t 0)]), T (.build [.v (.int .u8 0), .v (.int .u8 0), .nils 1] [(0, 1, (kk .u8 5)), (1, 1, (.t 0))]), T (.call true 47 [(.t 3), (.t 0)])])
(.ops [T (.mov (.x 0)), T (.mov (.x 0)), T (.nck (.t 0)), T (.fa 0 (.t 0)), T (.fa 1 (.t 0)), T (.load (some 2) (.t 0)), T (.call false 49 [(.t 0)]), T (.nck (.t 6)), T (.fa 0 (.t 0)), T (.fa 1 (.t 0)), N (.store 2 (.t 0) (.t 3))]))
(.exit 0))))
(.seq (.ops [T (.mov (.x 0)), T (.mov (.x 0)), T (.nck (.t 0)), T (.fa 22 (.t 0)), T (.fa 1 (.t 0)), T (.load none (.t 0)), T (.build [.v (.int .u8 0), .v (.int .u8 0), .nils 1] [(0, 1, (kk .u8 6)), (1, 1, (.t 0))]), T (.call true 47 [(.t 6), (.t 0)])])
(.exit 0))))
(.seq (.ops [T (.mov (.x 0)), T (.mov (.x 0)), T (.callB 48 (.t 0) [((.x 0), 22, (some 3))]), T (.mov (.x 0)), T (.nck (.t 0)), T (.fa 22 (.t 0)), T (.loadF (.x 0) 22 (some 3) (.t 0)), T (.call false 50 [(.t 4), (.t 0), (ki 1400)]), T (.call true 47 [(.t 7), (.t 0)])])
(.exit 0))))) }
def nego_doer_do.m : List Nat := [0, 1, 2, 6]
def slices_Contains_fsm_Action.s : SFunc := { np := 2, nv := 3, res := [.var 2], code := (.seq (.ops [W 2 (.take (kb false))])
(.seq (.ops [T (.mov (.x 0)), T (.mov (.x 1)), T (.call false 51 [(.t 1), (.t 0)]), T (.bin .geq (.t 0) (ki 0)), W 2 (.take (.t 0))])
.ret)) }
def slices_Contains_fsm_Action.m : List Nat := [0, 1, 4]
def fsm_Timed.s : SFunc := { np := 1, nv := 3, res := [.var 1], code := (.seq (.ops [W 1 (.take (kb false))])
(.seq (.ops [T (.mov (.x 0)), T (.call false 35 [(.t 0), (ki 4)]), T (.take (.t 0)), T (.ext 0 (.t 0)), T (.ext 1 (.t 1)), T (.ext 2 (.t 2)), T (.take (.t 2)), T (.take (.t 2)), W 2 (.take (.t 2))])
(.seq (.ops [T (.mov (.x 2)), T (.bin .eql (.t 0) (ki 0)), W 1 (.take (.t 0))])
.ret))) }
def fsm_Timed.m : List Nat := [0, 2, 5]
def retry_Retry_Stop.s : SFunc := { np := 1, nv := 3, res := [.cell (some 2) 2], code := (.seq (.ops [W 1 (.box false (.x 0)), W 2 (.alloc false (.v (.agg [(.int .i64 0), (.int .i64 0)])))])
(.seq (.ops [T (.fa 0 (.x 1)), T (.load none (.t 0)), T (.build [.v (.int .i64 0), .v (.int .i64 0)] [(0, 1, (.t 0)), (1, 1, (ki 0))]), N (.store 2 (.x 2) (.t 0))])
.ret)) }
def retry_Retry_Stop.m : List Nat := [0, 1, 2]
def fsm_State_ok.s : SFunc := { np := 1, nv := 2, res := [.var 1], code := (.seq (.ops [W 1 (.take (kb false))])
(.seq (.ops [T (.mov (.x 0)), T (.bin .geq (.t 0) (ki 0)), T (.mov (.t 0)), GT 0 true (.mov (.x 0)), GT 1 true (.bin .leq (.t 0) (ki 9)), T (.pick (.t 2) (.t 0) (kb false)), W 1 (.take (.t 0))])
.ret)) }
def fsm_State_ok.m : List Nat := [0, 2]
def fsm_rows.s : SFunc := { np := 0, nv := 1, res := [.cell (some 16) 0], code := (.seq (.ops [W 0 (.alloc false (.v (.agg (List.replicate 16 (.str [])))))])
(.seq (.ops [T (.build (List.replicate 16 (.v (.str []))) [(0, 1, (.c (.v (.str [50, 124, 105, 114, 99, 32, 115, 99, 114, 32, 54, 124, 45, 124, 45, 124, 45, 124, 45, 124, 45, 124, 45, 124, 45, 124, 45])))), (1, 1, (.c (.v (.str [45, 124, 45, 124, 48, 124, 116, 108, 115, 32, 49, 124, 48, 124, 49, 124, 49, 124, 49, 124, 49, 124, 116, 108, 100, 32, 49])))), (2, 1, (.c (.v (.str [116, 108, 115, 32, 49, 124, 49, 124, 105, 114, 99, 32, 115, 99, 114, 32, 54, 124, 51, 124, 53, 124, 53, 124, 54, 124, 55, 124, 56, 124, 57])))), (3, 1, (.c (.v (.str [48, 124, 116, 108, 102, 32, 48, 124, 50, 124, 50, 124, 52, 124, 52, 124, 105, 114, 99, 32, 115, 116, 114, 32, 52, 124, 105, 114, 99, 32, 115, 116, 114, 32, 52, 124, 105, 114, 99, 32, 115, 116, 114, 32, 52, 124, 116, 108, 100, 32, 105, 114, 99, 32, 115, 116, 114, 32, 52])))), (4, 1, (.c (.v (.str [45, 124, 45, 124, 45, 124, 45, 124, 115, 116, 114, 32, 52, 124, 115, 116, 114, 32, 53, 124, 115, 99, 114, 32, 54, 124, 115, 99, 114, 32, 54, 124, 115, 99, 114, 32, 56, 124, 45])))), (5, 1, (.c (.v (.str [45, 124, 45, 124, 45, 124, 45, 124, 116, 108, 102, 32, 50, 124, 116, 108, 102, 32, 51, 124, 116, 108, 102, 32, 51, 124, 116, 108, 102, 32, 51, 124, 116, 108, 102, 32, 51, 124, 45])))), (6, 1, (.c (.v (.str [45, 124, 45, 124, 115, 116, 97, 32, 50, 124, 105, 114, 99, 32, 115, 99, 114, 32, 115, 99, 97, 32, 56, 124, 52, 124, 53, 124, 115, 99, 97, 32, 56, 124, 115, 99, 97, 32, 116, 108, 117, 32, 57, 124, 115, 99, 97, 32, 56, 124, 116, 108, 100, 32, 115, 99, 114, 32, 115, 99, 97, 32, 56])))), (7, 1, (.c (.v (.str [45, 124, 45, 124, 115, 116, 97, 32, 50, 124, 105, 114, 99, 32, 115, 99, 114, 32, 115, 99, 110, 32, 54, 124, 52, 124, 53, 124, 115, 99, 110, 32, 54, 124, 115, 99, 110, 32, 55, 124, 115, 99, 110, 32, 54, 124, 116, 108, 100, 32, 115, 99, 114, 32, 115, 99, 110, 32, 54])))), (8, 1, (.c (.v (.str [45, 124, 45, 124, 115, 116, 97, 32, 50, 124, 115, 116, 97, 32, 51, 124, 52, 124, 53, 124, 105, 114, 99, 32, 55, 124, 115, 99, 114, 32, 54, 124, 105, 114, 99, 32, 116, 108, 117, 32, 57, 124, 116, 108, 100, 32, 115, 99, 114, 32, 54])))), (9, 1, (.c (.v (.str [45, 124, 45, 124, 115, 116, 97, 32, 50, 124, 115, 116, 97, 32, 51, 124, 52, 124, 53, 124, 105, 114, 99, 32, 115, 99, 114, 32, 54, 124, 115, 99, 114, 32, 54, 124, 105, 114, 99, 32, 115, 99, 114, 32, 56, 124, 116, 108, 100, 32, 115, 99, 114, 32, 54])))), (10, 1, (.c (.v (.str [45, 124, 45, 124, 115, 116, 97, 32, 50, 124, 115, 116, 97, 32, 51, 124, 115, 116, 97, 32, 52, 124, 115, 116, 97, 32, 53, 124, 115, 116, 97, 32, 54, 124, 115, 116, 97, 32, 54, 124, 115, 116, 97, 32, 54, 124, 116, 108, 100, 32, 122, 114, 99, 32, 115, 116, 97, 32, 53])))), (11, 1, (.c (.v (.str [45, 124, 45, 124, 50, 124, 51, 124, 116, 108, 102, 32, 50, 124, 116, 108, 102, 32, 51, 124, 54, 124, 54, 124, 56, 124, 116, 108, 100, 32, 115, 99, 114, 32, 54])))), (12, 1, (.c (.v (.str [45, 124, 45, 124, 115, 99, 106, 32, 50, 124, 115, 99, 106, 32, 51, 124, 115, 99, 106, 32, 52, 124, 115, 99, 106, 32, 53, 124, 115, 99, 106, 32, 54, 124, 115, 99, 106, 32, 55, 124, 115, 99, 106, 32, 56, 124, 115, 99, 106, 32, 57])))), (13, 1, (.c (.v (.str [45, 124, 45, 124, 50, 124, 51, 124, 52, 124, 53, 124, 54, 124, 54, 124, 56, 124, 57])))), (14, 1, (.c (.v (.str [45, 124, 45, 124, 116, 108, 102, 32, 50, 124, 116, 108, 102, 32, 51, 124, 116, 108, 102, 32, 50, 124, 116, 108, 102, 32, 51, 124, 116, 108, 102, 32, 51, 124, 116, 108, 102, 32, 51, 124, 116, 108, 102, 32, 51, 124, 116, 108, 100, 32, 105, 114, 99, 32, 115, 116, 114, 32, 53])))), (15, 1, (.c (.v (.str [45, 124, 45, 124, 50, 124, 51, 124, 52, 124, 53, 124, 54, 124, 55, 124, 56, 124, 115, 101, 114, 32, 57]))))]), N (.store 16 (.x 0) (.t 0))])
.ret)) }
def fsm_rows.m : List Nat := [0]
def fsm_action.s : SFunc := { np := 1, nv := 2, res := [.var 1], code := (.seq (.ops [W 1 (.take (ki 0))])
(.seq (.ops [T (.mov (.x 0)), T (.call false 53 [(.c (.v (.str [116, 108, 117, 32, 116, 108, 100, 32, 116, 108, 115, 32, 116, 108, 102, 32, 105, 114, 99, 32, 122, 114, 99, 32, 115, 99, 114, 32, 115, 99, 97, 32, 115, 99, 110, 32, 115, 116, 114, 32, 115, 116, 97, 32, 115, 99, 106, 32, 115, 101, 114]))), (.t 0)]), T (.bin .quo (.t 0) (ki 4)), T (.bin .add (.t 0) (ki 1)), W 1 (.take (.t 0))])
.ret)) }
def fsm_action.m : List Nat := [0, 2]
def retry_Retry_Init.s : SFunc := { np := 2, nv := 4, res := [.cell (some 2) 3], code := (.seq (.ops [W 2 (.box false (.x 0)), W 3 (.alloc false (.v (.agg [(.int .i64 0), (.int .i64 0)])))])
(.seq (.ops [T (.fa 0 (.x 2)), N (.store 1 (.t 0) (ki 10))])
(.seq (.ifs [T (.mov (.x 1))] (.t 0) (.ops [T (.fa 0 (.x 2)), N (.store 1 (.t 0) (ki 2))]) .skip)
(.seq (.ops [T (.load (some 2) (.x 2)), N (.store 2 (.x 3) (.t 0))])
.ret)))) }
def retry_Retry_Init.m : List Nat := [0, 1, 2, 4]
def retry_Retry_Zero.s : SFunc := { np := 1, nv := 2, res := [.cell (some 2) 1], code := (.seq (.ops [T (.box false (.x 0)), W 1 (.alloc false (.v (.agg [(.int .i64 0), (.int .i64 0)])))])
(.seq (.ops [T (.build [.v (.int .i64 0), .v (.int .i64 0)] [(0, 1, (ki 0)), (1, 1, (ki 3))]), N (.store 2 (.x 1) (.t 0))])
.ret)) }
def retry_Retry_Zero.m : List Nat := [0, 2]
def nego_doer_request.s : SFunc := { np := 1, nv := 2, res := [], code := (.seq (.ops [T (.mov (.x 0)), T (.mov (.x 0)), T (.nck (.t 0)), T (.fa 0 (.t 0)), T (.fa 5 (.t 0)), T (.load (some 10) (.t 0)), T (.call false 54 [(.t 0)]), T (.nck (.t 6)), T (.fa 0 (.t 0)), T (.fa 4 (.t 0)), N (.store 1 (.t 0) (.t 3))])
(.seq (.ops [T (.mov (.x 0)), T (.callB 48 (.t 0) [((.x 0), 4, none)]), T (.mov (.x 0)), T (.nck (.t 0)), T (.fa 0 (.t 0)), T (.fa 4 (.t 0)), T (.loadF (.x 0) 4 none (.t 0)), T (.call false 55 [(kk .u8 1), (.t 5), (.t 0)]), T (.take (.t 0)), T (.ext 0 (.t 0)), T (.ext 1 (.t 1)), W 1 (.alloc false (.agg [.v (.int .u8 0), .v (.int .u8 0), .nils 1])), N (.store 3 (.x 1) (.t 2)), T (.take (.t 2))])
(.seq (.ops [T (.mov (.x 0)), T (.load (some 3) (.x 1)), T (.call true 47 [(.t 1), (.t 0)])])
(.ops [T (.mov (.x 0)), T (.mov (.x 0)), T (.nck (.t 0)), T (.fa 0 (.t 0)), T (.fa 1 (.t 0)), T (.load (some 2) (.t 0)), T (.call false 49 [(.t 0)]), T (.nck (.t 6)), T (.fa 0 (.t 0)), T (.fa 1 (.t 0)), N (.store 2 (.t 0) (.t 3))])))) }
def nego_doer_request.m : List Nat := [0, 2]
def nego_doer_send.s : SFunc := { np := 2, nv := 3, res := [], code := (.seq (.ops [W 2 (.box false (.x 1))])
(.ops [T (.mov (.x 0)), T (.mov (.x 0)), T (.nck (.t 0)), T (.fa 17 (.t 0)), T (.fa 0 (.t 0)), T (.loadT (.t 0) [(.x 2)]), T (.load (some 3) (.x 2)), T (.lit 3 [(.t 0)]), T (.app 3 32 (.t 2) (.t 0)), T (.nck (.t 8)), T (.fa 17 (.t 0)), T (.fa 0 (.t 0)), N (.store 1 (.t 0) (.t 3))])) }
def nego_doer_send.m : List Nat := [0, 1, 3]
def nego_doer_next.s : SFunc := { np := 1, nv := 2, res := [.var 1], code := (.seq (.ops [W 1 (.take (kk .u8 0))])
(.seq (.ops [T (.mov (.x 0)), T (.nck (.t 0)), T (.fa 0 (.t 0)), T (.fa 3 (.t 0)), T (.load none (.t 0)), T (.bin .add (.t 0) (kk .u8 1)), T (.nck (.t 5)), T (.fa 0 (.t 0)), T (.fa 3 (.t 0)), N (.store 1 (.t 0) (.t 3))])
(.seq (.ops [T (.mov (.x 0)), T (.nck (.t 0)), T (.fa 0 (.t 0)), T (.fa 3 (.t 0)), T (.load none (.t 0)), W 1 (.take (.t 0))])
.ret))) }
def nego_doer_next.m : List Nat := [0, 2]
def retry_Retry_Sent.s : SFunc := { np := 1, nv := 3, res := [.cell (some 2) 2], code := (.seq (.ops [W 1 (.box false (.x 0)), W 2 (.alloc false (.v (.agg [(.int .i64 0), (.int .i64 0)])))])
(.seq (.ops [T (.fa 0 (.x 1)), T (.load none (.t 0)), T (.mx (.t 0) (ki 1)), T (.bin .sub (.t 0) (ki 1)), T (.build [.v (.int .i64 0), .v (.int .i64 0)] [(0, 1, (.t 0)), (1, 1, (ki 3))]), N (.store 2 (.x 2) (.t 0))])
.ret)) }
def retry_Retry_Sent.m : List Nat := [0, 1, 2]
def ctl_Reject.s : SFunc := { np := 3, nv := 6, res := [.cell (some 3) 4], code := (.seq (.ops [W 3 (.box false (.x 1)), W 4 (.alloc false (.agg [.v (.int .u8 0), .v (.int .u8 0), .nils 1]))])
(.seq (.ops [T (.load (some 3) (.x 3)), T (.call false 56 [(.t 0)]), T (.take (.t 0)), T (.ext 0 (.t 0)), T (.ext 1 (.t 1)), W 5 (.take (.t 1)), T (.take (.t 1))])
(.seq (.ops [T (.mov (.x 0)), T (.mov (.x 5)), T (.mov (.x 2)), T (.call false 57 [(.t 1), (.t 0)]), T (.build [.v (.int .u8 0), .v (.int .u8 0), .nils 1] [(0, 1, (kk .u8 7)), (1, 1, (.t 3)), (2, 1, (.t 0))]), N (.store 3 (.x 4) (.t 0))])
.ret))) }
def ctl_Reject.m : List Nat := [0, 1, 2, 4, 6, 7]
def slices_Index_fsm_Action.l0 : SCode := (.seq (.ifs [T (.bin .lss (.x 4) (.x 3))] (.t 0) .skip (.exit 0))
(.seq (.block 1 (.seq (.ops [T (.mov (.x 4)), W 5 (.take (.t 0))])
(.ifs [T (.mov (.x 1)), T (.mov (.x 0)), T (.mov (.x 5)), T (.ia 1 (.t 1) (.t 0)), T (.load none (.t 0)), T (.bin .eql (.t 4) (.t 0))] (.t 0) (.seq (.ops [T (.take (.x 5)), W 2 (.take (.t 0))])
.ret) .skip)))
(.ops [T (.bin .add (.x 4) (ki 1)), W 4 (.mov (.t 0))])))
def slices_Index_fsm_Action.s : SFunc := { np := 2, nv := 6, res := [.var 2], code := (.seq (.ops [W 2 (.take (ki 0))])
(.seq (.seq (.ops [T (.mov (.x 0)), W 3 (.len (.t 0)), W 4 (.mov (ki 0))])
(.block 0 (.loop [5] slices_Index_fsm_Action.l0)))
(.seq (.ops [W 2 (.take (ki (-1)))])
.ret))) }
def slices_Index_fsm_Action.m : List Nat := [0, 1, 4, 7, 8, 5]
def nego_Rules_asks.s : SFunc := { np := 1, nv := 3, res := [.var 2], code := (.seq (.ops [W 1 (.box false (.x 0)), W 2 (.take (kn 2))])
(.seq (.ifs [T (.fa 0 (.x 1)), T (.load none (.t 0))] (.t 0) (.seq (.ops [T (.fa 5 (.x 1)), T (.load (some 5) (.t 0)), T (.call false 61 [(.t 0)]), W 2 (.take (.t 0))])
.ret) .skip)
(.seq (.ops [T (.fa 1 (.x 1)), T (.load (some 3) (.t 0)), T (.call false 62 [(.t 0)]), W 2 (.take (.t 0))])
.ret))) }
def nego_Rules_asks.m : List Nat := [0, 1, 2]
def ctl_Conf.s : SFunc := { np := 3, nv := 7, res := [.cell (some 3) 3, .var 4], code := (.seq (.ops [W 3 (.alloc false (.agg [.v (.int .u8 0), .v (.int .u8 0), .nils 1])), W 4 (.take (ki 0))])
(.seq (.ifs [T (.mov (.x 0)), T (.call false 63 [(.t 0)]), T (.un .not (.t 0))] (.t 0) (.seq (.ops [T (.build [.v (.int .u8 0), .v (.int .u8 0), .nils 1] []), N (.store 3 (.x 3) (.t 0)), W 4 (.take (ki 9))])
.ret) .skip)
(.seq (.ops [T (.mov (.x 2)), T (.call false 64 [(.t 0)]), T (.take (.t 0)), T (.ext 0 (.t 0)), T (.ext 1 (.t 1)), W 5 (.take (.t 1)), W 6 (.take (.t 1))])
(.seq (.ifs [T (.mov (.x 6)), T (.bin .neq (.t 0) (ki 0))] (.t 0) (.seq (.ops [T (.build [.v (.int .u8 0), .v (.int .u8 0), .nils 1] []), T (.take (.x 6)), N (.store 3 (.x 3) (.t 1)), W 4 (.take (.t 1))])
.ret) .skip)
(.seq (.ops [T (.mov (.x 0)), T (.mov (.x 1)), T (.mov (.x 5)), T (.build [.v (.int .u8 0), .v (.int .u8 0), .nils 1] [(0, 1, (.t 2)), (1, 1, (.t 1)), (2, 1, (.t 0))]), N (.store 3 (.x 3) (.t 0)), W 4 (.take (ki 0))])
.ret))))) }
def ctl_Conf.m : List Nat := [0, 1, 2, 6, 7, 8, 9]
def ctl_Lay.s : SFunc := { np := 1, nv := 5, res := [.var 2, .var 3], code := (.seq (.ops [W 1 (.box false (.x 0)), W 2 (.take (kn 1)), W 3 (.take (ki 0))])
(.seq (.ifs [T (.fa 2 (.x 1)), T (.load none (.t 0)), T (.len (.t 0)), T (.bin .gtr (.t 0) (ki 4000))] (.t 0) (.seq (.ops [W 2 (.take (kn 1)), W 3 (.take (ki 8))])
.ret) .skip)
(.seq (.ops [T (.fa 2 (.x 1)), T (.load none (.t 0)), T (.len (.t 0)), T (.bin .add (ki 4) (.t 0)), T (.cvi .u64 (.t 0)), T (.call false 31 [(.t 0), (ki 2), (kb false)]), T (.take (.t 0)), T (.ext 0 (.t 0)), T (.ext 1 (.t 1)), W 4 (.take (.t 1)), T (.take (.t 1))])
(.seq (.ops [T (.fa 0 (.x 1)), T (.load none (.t 0)), T (.fa 1 (.x 1)), T (.load none (.t 0)), T (.lit 1 [(.t 2), (.t 0)]), T (.mov (.x 4)), T (.fa 2 (.x 1)), T (.load none (.t 0)), T (.lit 1 [(.t 3), (.t 2), (.t 0)]), T (.call true 19 [(.t 0)]), W 2 (.take (.t 0)), W 3 (.take (ki 0))])
.ret)))) }
def ctl_Lay.m : List Nat := [0, 1, 2, 3, 4]
def ctl_cut.s : SFunc := { np := 2, nv := 3, res := [.var 2], code := (.seq (.ops [W 2 (.take (kn 1))])
(.seq (.ops [T (.mov (.x 1)), T (.mx (.t 0) (ki 4)), T (.bin .sub (.t 0) (ki 4)), W 1 (.take (.t 0))])
(.seq (.ops [T (.mov (.x 0)), T (.mov (.x 0)), T (.len (.t 0)), T (.mov (.x 1)), T (.mn (.t 1) (.t 0)), T (.sub 1 (.t 4) none (some (.t 0)) none), W 2 (.take (.t 0))])
.ret))) }
def ctl_cut.m : List Nat := [0, 1, 4]
def ipcpo_Options.s : SFunc := { np := 1, nv := 4, res := [.var 2], code := (.seq (.ops [W 1 (.box false (.x 0)), W 2 (.take (kn 2))])
(.seq (.ops [T (.fa 1 (.x 1)), T (.load none (.t 0)), T (.call false 72 [(kk .u8 3), (.t 0)]), T (.lit 2 [(.t 0)]), W 3 (.take (.t 0))])
(.seq (.ifs [T (.fa 0 (.x 1)), T (.load none (.t 0)), T (.un .not (.t 0)), T (.mov (.t 0)), GT 0 true (.fa 4 (.x 1)), GT 1 true (.load none (.t 0)), T (.pick (.t 2) (.t 0) (kb false))] (.t 0) (.ops [T (.take (.x 3)), T (.fa 3 (.x 1)), T (.load none (.t 0)), T (.call false 72 [(kk .u8 129), (.t 0)]), T (.lit 2 [(.t 0)]), T (.app 2 32 (.t 4) (.t 0)), W 3 (.take (.t 0))]) .skip)
(.seq (.ops [T (.take (.x 3)), W 2 (.take (.t 0))])
.ret)))) }
def ipcpo_Options.m : List Nat := [0, 1, 2, 3]
def lcpo_Options.s : SFunc := { np := 1, nv := 4, res := [.var 2], code := (.seq (.ops [W 1 (.box false (.x 0)), W 2 (.take (kn 2))])
(.seq (.ops [W 3 (.take (kn 2))])
(.seq (.ifs [T (.fa 0 (.x 1)), T (.load none (.t 0)), T (.bin .neq (.t 0) (kk .u16 0))] (.t 0) (.ops [T (.take (.x 3)), T (.fa 0 (.x 1)), T (.load none (.t 0)), T (.cvi .u64 (.t 0)), T (.call false 73 [(kk .u8 1), (.t 0), (ki 2)]), T (.lit 2 [(.t 0)]), T (.app 2 32 (.t 5) (.t 0)), W 3 (.take (.t 0))]) .skip)
(.seq (.ifs [T (.fa 2 (.x 1)), T (.load none (.t 0))] (.t 0) (.ops [T (.take (.x 3)), T (.call false 74 []), T (.build [.v (.int .u8 0), .nils 1] [(0, 1, (kk .u8 3)), (1, 1, (.t 0))]), T (.lit 2 [(.t 0)]), T (.app 2 32 (.t 3) (.t 0)), W 3 (.take (.t 0))]) .skip)
(.seq (.ifs [T (.fa 1 (.x 1)), T (.load none (.t 0)), T (.bin .neq (.t 0) (kk .u32 0))] (.t 0) (.ops [T (.take (.x 3)), T (.fa 1 (.x 1)), T (.load none (.t 0)), T (.cvi .u64 (.t 0)), T (.call false 73 [(kk .u8 5), (.t 0), (ki 4)]), T (.lit 2 [(.t 0)]), T (.app 2 32 (.t 5) (.t 0)), W 3 (.take (.t 0))]) .skip)
(.seq (.ops [T (.take (.x 3)), W 2 (.take (.t 0))])
.ret)))))) }
def lcpo_Options.m : List Nat := [0, 1, 2, 3]
def ctl_isConf.s : SFunc := { np := 1, nv := 2, res := [.var 1], code := (.seq (.ops [W 1 (.take (kb false))])
(.seq (.ops [T (.mov (.x 0)), T (.bin .geq (.t 0) (kk .u8 1)), T (.mov (.t 0)), GT 0 true (.mov (.x 0)), GT 1 true (.bin .leq (.t 0) (kk .u8 4)), T (.pick (.t 2) (.t 0) (kb false)), W 1 (.take (.t 0))])
.ret)) }
def ctl_isConf.m : List Nat := [0, 2]
def opts_Lay.l0 : SCode := (.seq (.ifs [T (.bin .lss (.x 6) (.x 5))] (.t 0) .skip (.exit 0))
(.seq (.block 1 (.seq (.ops [T (.ia 2 (.x 4) (.x 6)), T (.load (some 2) (.t 0)), W 7 (.alloc false (.agg [.v (.int .u8 0), .nils 1])), N (.store 2 (.x 7) (.t 1))])
(.seq (.ifs [T (.fa 1 (.x 7)), T (.load none (.t 0)), T (.len (.t 0)), T (.bin .gtr (.t 0) (ki 253))] (.t 0) (.seq (.ops [W 1 (.take (kn 1)), W 2 (.take (ki 8))])
.ret) .skip)
(.seq (.ops [T (.take (.x 3)), T (.fa 0 (.x 7)), T (.load none (.t 0)), T (.fa 1 (.x 7)), T (.load none (.t 0)), T (.len (.t 0)), T (.bin .add (ki 2) (.t 0)), T (.cvi .u8 (.t 0)), T (.lit 1 [(.t 5), (.t 0)]), T (.app 1 1 (.t 8) (.t 0)), W 3 (.take (.t 0))])
(.ops [T (.take (.x 3)), T (.fa 1 (.x 7)), T (.load none (.t 0)), T (.app 1 1 (.t 2) (.t 0)), W 3 (.take (.t 0))])))))
(.ops [T (.bin .add (.x 6) (ki 1)), W 6 (.mov (.t 0))])))
def opts_Lay.s : SFunc := { np := 1, nv := 8, res := [.var 1, .var 2], code := (.seq (.ops [W 1 (.take (kn 1)), W 2 (.take (ki 0))])
(.seq (.ifs [T (.mov (.x 0)), T (.len (.t 0)), T (.bin .gtr (.t 0) (ki 32))] (.t 0) (.seq (.ops [W 1 (.take (kn 1)), W 2 (.take (ki 5))])
.ret) .skip)
(.seq (.ops [W 3 (.take (kn 1))])
(.seq (.seq (.ops [W 4 (.mov (.x 0)), W 5 (.len (.x 4)), W 6 (.mov (ki 0))])
(.block 0 (.loop [7] opts_Lay.l0)))
(.seq (.ops [T (.take (.x 3)), W 1 (.take (.t 0)), W 2 (.take (ki 0))])
.ret))))) }
def opts_Lay.m : List Nat := [0, 2, 3, 4, 10, 11, 12, 6]
def ipcpo_option.s : SFunc := { np := 2, nv := 4, res := [.cell (some 2) 2], code := (.seq (.ops [W 2 (.alloc false (.agg [.v (.int .u8 0), .nils 1]))])
(.seq (.ops [T (.mov (.x 1)), T (.cvi .u64 (.t 0)), T (.call false 31 [(.t 0), (ki 4), (kb false)]), T (.take (.t 0)), T (.ext 0 (.t 0)), T (.ext 1 (.t 1)), W 3 (.take (.t 1)), T (.take (.t 1))])
(.seq (.ops [T (.mov (.x 0)), T (.mov (.x 3)), T (.build [.v (.int .u8 0), .nils 1] [(0, 1, (.t 1)), (1, 1, (.t 0))]), N (.store 2 (.x 2) (.t 0))])
.ret))) }
def ipcpo_option.m : List Nat := [0, 1, 4, 5]
def lcpo_option.s : SFunc := { np := 3, nv := 5, res := [.cell (some 2) 3], code := (.seq (.ops [W 3 (.alloc false (.agg [.v (.int .u8 0), .nils 1]))])
(.seq (.ops [T (.mov (.x 1)), T (.mov (.x 2)), T (.call false 31 [(.t 1), (.t 0), (kb false)]), T (.take (.t 0)), T (.ext 0 (.t 0)), T (.ext 1 (.t 1)), W 4 (.take (.t 1)), T (.take (.t 1))])
(.seq (.ops [T (.mov (.x 0)), T (.mov (.x 4)), T (.build [.v (.int .u8 0), .nils 1] [(0, 1, (.t 1)), (1, 1, (.t 0))]), N (.store 2 (.x 3) (.t 0))])
.ret))) }
def lcpo_option.m : List Nat := [0, 1, 2, 6, 7]
def lcpo_Chap.s : SFunc := { np := 0, nv := 1, res := [.var 0], code := (.seq (.ops [W 0 (.take (kn 1))])
(.seq (.ops [T (.lit 1 [(kk .u8 194), (kk .u8 35), (kk .u8 129)]), W 0 (.take (.t 0))])
.ret)) }
def lcpo_Chap.m : List Nat := [0]
def fns : List (Nat × SFunc × List Nat) := [(3, euphroelaw32_IpcpDatagrams.s, euphroelaw32_IpcpDatagrams.m), (4, euphroelaw32_IpcpBack.s, euphroelaw32_IpcpBack.m), (5, euphroelaw32_alive.s, euphroelaw32_alive.m), (6, ipcp_Lay.s, ipcp_Lay.m), (7, euphroelaw32_theirs.s, euphroelaw32_theirs.m), (8, euphroeref32_Lay.s, euphroeref32_Lay.m), (9, ipcp_Parse.s, ipcp_Parse.m), (10, euphroeref32_Parse.s, euphroeref32_Parse.m), (11, euphroeref01_Same.s, euphroeref01_Same.m), (12, ipcp_Same.s, ipcp_Same.m), (13, ipcp_Sum.s, ipcp_Sum.m), (14, euphroeref32_Sum.s, euphroeref32_Sum.m), (15, euphroeref32_Same.s, euphroeref32_Same.m), (16, ipcp_New.s, ipcp_New.m), (17, ipcp_End_Do.s, ipcp_End_Do.m), (18, ipcp_End_Side.s, ipcp_End_Side.m), (20, ipcp_number.s, ipcp_number.m), (21, euphroeref01_Big.s, euphroeref01_Big.m), (22, octs_Get.s, octs_Get.m), (23, bytes_Clone.s, bytes_Clone.m), (24, euphroeref01_Num.s, euphroeref01_Num.m), (25, bytes_Equal.s, bytes_Equal.m), (26, nego_New.s, nego_New.m), (27, ipcp_with.s, ipcp_with.m), (28, nego_Nego_Do.s, nego_Nego_Do.m), (29, nego_Nego_Rules.s, nego_Nego_Rules.m), (31, octs_Put.s, octs_Put.m), (32, nego_Nego_event.s, nego_Nego_event.m), (34, slices_Reverse_byte.s, slices_Reverse_byte.m), (35, fsm_Next.s, fsm_Next.m), (36, nego_doer_do.s, nego_doer_do.m), (37, slices_Contains_fsm_Action.s, slices_Contains_fsm_Action.m), (38, fsm_Timed.s, fsm_Timed.m), (39, retry_Retry_Stop.s, retry_Retry_Stop.m), (40, fsm_State_ok.s, fsm_State_ok.m), (42, fsm_rows.s, fsm_rows.m), (43, fsm_action.s, fsm_action.m), (44, retry_Retry_Init.s, retry_Retry_Init.m), (45, retry_Retry_Zero.s, retry_Retry_Zero.m), (46, nego_doer_request.s, nego_doer_request.m), (47, nego_doer_send.s, nego_doer_send.m), (48, nego_doer_next.s, nego_doer_next.m), (49, retry_Retry_Sent.s, retry_Retry_Sent.m), (50, ctl_Reject.s, ctl_Reject.m), (51, slices_Index_fsm_Action.s, slices_Index_fsm_Action.m), (54, nego_Rules_asks.s, nego_Rules_asks.m), (55, ctl_Conf.s, ctl_Conf.m), (56, ctl_Lay.s, ctl_Lay.m), (57, ctl_cut.s, ctl_cut.m), (61, ipcpo_Options.s, ipcpo_Options.m), (62, lcpo_Options.s, lcpo_Options.m), (63, ctl_isConf.s, ctl_isConf.m), (64, opts_Lay.s, opts_Lay.m), (72, ipcpo_option.s, ipcpo_option.m), (73, lcpo_option.s, lcpo_option.m), (74, lcpo_Chap.s, lcpo_Chap.m)]
def fnOf (n : Nat) : Option SFunc := (fns.find? (·.1 == n)).map (·.2.1)
def primOf (n : Nat) : Option (List D → St → Option (D × St)) := if n = 19 then some (primJoinO) else if n = 41 then some (primSplit splitF) else if n = 53 then some (primSS indexF) else none
def G : Prg := { fn := fnOf, prim := primOf }
theorem euphroelaw32_IpcpDatagrams.g : G.fn 3 = some euphroelaw32_IpcpDatagrams.s := by rfl
theorem euphroelaw32_IpcpBack.g : G.fn 4 = some euphroelaw32_IpcpBack.s := by rfl
theorem euphroelaw32_alive.g : G.fn 5 = some euphroelaw32_alive.s := by rfl
theorem ipcp_Lay.g : G.fn 6 = some ipcp_Lay.s := by rfl
theorem euphroelaw32_theirs.g : G.fn 7 = some euphroelaw32_theirs.s := by rfl
theorem euphroeref32_Lay.g : G.fn 8 = some euphroeref32_Lay.s := by rfl
theorem ipcp_Parse.g : G.fn 9 = some ipcp_Parse.s := by rfl
theorem euphroeref32_Parse.g : G.fn 10 = some euphroeref32_Parse.s := by rfl
theorem euphroeref01_Same.g : G.fn 11 = some euphroeref01_Same.s := by rfl
theorem ipcp_Same.g : G.fn 12 = some ipcp_Same.s := by rfl
theorem ipcp_Sum.g : G.fn 13 = some ipcp_Sum.s := by rfl
theorem euphroeref32_Sum.g : G.fn 14 = some euphroeref32_Sum.s := by rfl
theorem euphroeref32_Same.g : G.fn 15 = some euphroeref32_Same.s := by rfl
theorem ipcp_New.g : G.fn 16 = some ipcp_New.s := by rfl
theorem ipcp_End_Do.g : G.fn 17 = some ipcp_End_Do.s := by rfl
theorem ipcp_End_Side.g : G.fn 18 = some ipcp_End_Side.s := by rfl
theorem ipcp_number.g : G.fn 20 = some ipcp_number.s := by rfl
theorem euphroeref01_Big.g : G.fn 21 = some euphroeref01_Big.s := by rfl
theorem octs_Get.g : G.fn 22 = some octs_Get.s := by rfl
theorem bytes_Clone.g : G.fn 23 = some bytes_Clone.s := by rfl
theorem euphroeref01_Num.g : G.fn 24 = some euphroeref01_Num.s := by rfl
theorem bytes_Equal.g : G.fn 25 = some bytes_Equal.s := by rfl
theorem nego_New.g : G.fn 26 = some nego_New.s := by rfl
theorem ipcp_with.g : G.fn 27 = some ipcp_with.s := by rfl
theorem nego_Nego_Do.g : G.fn 28 = some nego_Nego_Do.s := by rfl
theorem nego_Nego_Rules.g : G.fn 29 = some nego_Nego_Rules.s := by rfl
theorem octs_Put.g : G.fn 31 = some octs_Put.s := by rfl
theorem nego_Nego_event.g : G.fn 32 = some nego_Nego_event.s := by rfl
theorem slices_Reverse_byte.g : G.fn 34 = some slices_Reverse_byte.s := by rfl
theorem fsm_Next.g : G.fn 35 = some fsm_Next.s := by rfl
theorem nego_doer_do.g : G.fn 36 = some nego_doer_do.s := by rfl
theorem slices_Contains_fsm_Action.g : G.fn 37 = some slices_Contains_fsm_Action.s := by rfl
theorem fsm_Timed.g : G.fn 38 = some fsm_Timed.s := by rfl
theorem retry_Retry_Stop.g : G.fn 39 = some retry_Retry_Stop.s := by rfl
theorem fsm_State_ok.g : G.fn 40 = some fsm_State_ok.s := by rfl
theorem fsm_rows.g : G.fn 42 = some fsm_rows.s := by rfl
theorem fsm_action.g : G.fn 43 = some fsm_action.s := by rfl
theorem retry_Retry_Init.g : G.fn 44 = some retry_Retry_Init.s := by rfl
theorem retry_Retry_Zero.g : G.fn 45 = some retry_Retry_Zero.s := by rfl
theorem nego_doer_request.g : G.fn 46 = some nego_doer_request.s := by rfl
theorem nego_doer_send.g : G.fn 47 = some nego_doer_send.s := by rfl
theorem nego_doer_next.g : G.fn 48 = some nego_doer_next.s := by rfl
theorem retry_Retry_Sent.g : G.fn 49 = some retry_Retry_Sent.s := by rfl
theorem ctl_Reject.g : G.fn 50 = some ctl_Reject.s := by rfl
theorem slices_Index_fsm_Action.g : G.fn 51 = some slices_Index_fsm_Action.s := by rfl
theorem nego_Rules_asks.g : G.fn 54 = some nego_Rules_asks.s := by rfl
theorem ctl_Conf.g : G.fn 55 = some ctl_Conf.s := by rfl
theorem ctl_Lay.g : G.fn 56 = some ctl_Lay.s := by rfl
theorem ctl_cut.g : G.fn 57 = some ctl_cut.s := by rfl
theorem ipcpo_Options.g : G.fn 61 = some ipcpo_Options.s := by rfl
theorem lcpo_Options.g : G.fn 62 = some lcpo_Options.s := by rfl
theorem ctl_isConf.g : G.fn 63 = some ctl_isConf.s := by rfl
theorem opts_Lay.g : G.fn 64 = some opts_Lay.s := by rfl
theorem ipcpo_option.g : G.fn 72 = some ipcpo_option.s := by rfl
theorem lcpo_option.g : G.fn 73 = some lcpo_option.s := by rfl
theorem lcpo_Chap.g : G.fn 74 = some lcpo_Chap.s := by rfl
instance : Iters := ⟨[]⟩
end Go.Q
