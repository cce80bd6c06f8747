/- The slim code of the functions, written by a program of ours. No condition. -/
import Derived.Test.YtmbdamompcdolaaGreatDoorEpd
set_option linter.all false
set_option maxRecDepth 100000
namespace Go.Q
open SOp SCode
def zz0 : D := .agg [.v (.int .i64 0), .v (.int .i64 0), .v (.int .i64 0), .v (.int .u8 0), .nils 2, .v (.bool false), .v (.int .u16 0), .v (.int .u32 0), .v (.bool false), .v (.bool false), .v (.bool false), .v (.int .u32 0), .v (.int .u32 0), .v (.int .u32 0), .v (.bool false), .nils 2, .v (.int .i64 0)]
@[go_sem] theorem zz0_eq : zz0 = .agg [.v (.int .i64 0), .v (.int .i64 0), .v (.int .i64 0), .v (.int .u8 0), .nils 2, .v (.bool false), .v (.int .u16 0), .v (.int .u32 0), .v (.bool false), .v (.bool false), .v (.bool false), .v (.int .u32 0), .v (.int .u32 0), .v (.int .u32 0), .v (.bool false), .nils 2, .v (.int .i64 0)] := rfl
def zz1 : D := .v (.agg [(.bool false), (.int .u16 0), (.int .u32 0), (.bool false), (.bool false), (.bool false), (.int .u32 0), (.int .u32 0), (.int .u32 0), (.bool false)])
@[go_sem] theorem zz1_eq : zz1 = .v (.agg [(.bool false), (.int .u16 0), (.int .u32 0), (.bool false), (.bool false), (.bool false), (.int .u32 0), (.int .u32 0), (.int .u32 0), (.bool false)]) := rfl
def zz2 : D := .agg [.nils 3, .v (.bool false), .v (.bool false), .v (.bool false), .v (.bool false)]
@[go_sem] theorem zz2_eq : zz2 = .agg [.nils 3, .v (.bool false), .v (.bool false), .v (.bool false), .v (.bool false)] := rfl
def zz6 : D := .agg [.v (.int .u8 0), .v (.int .u8 0), .nils 1]
@[go_sem] theorem zz6_eq : zz6 = .agg [.v (.int .u8 0), .v (.int .u8 0), .nils 1] := rfl
def zz8 : D := .agg [.v (.int .u8 0), .nils 1]
@[go_sem] theorem zz8_eq : zz8 = .agg [.v (.int .u8 0), .nils 1] := rfl
def euphroelaw27_NegoAgrees.s : SFunc := { np := 2, nv := 8, res := [.var 3], code := (.seq (.ops [W 2 (.box false (.x 0)), W 3 (.take (kb false))])
(.seq (.ops [T (.iaA 2 10 (.x 2) (ki 0)), T (.load (some 10) (.t 0)), T (.iaA 2 10 (.x 2) (ki 1)), T (.loadR (.x 2) (some 10) (.t 0)), W 4 (.alloc false zz1), W 5 (.alloc true zz1), N (.storeS 10 (.x 4) (.t 4) [(.x 2)]), N (.store 10 (.x 5) (.t 3))])
(.seq (.ops [T (.mov (.x 1)), T (.mov (.x 1)), T (.fa 0 (.x 4)), N (.store 1 (.t 0) (.t 2)), T (.fa 0 (.x 5)), N (.store 1 (.t 0) (.t 3))])
(.seq (.ops [T (.fa 4 (.x 4)), N (.store 1 (.t 0) (kb true)), T (.fa 1 (.x 5)), T (.fa 2 (.t 0)), N (.store 1 (.t 0) (kb true))])
(.seq (.ops [T (.fa 4 (.x 5)), N (.store 1 (.t 0) (kb false)), T (.fa 1 (.x 4)), T (.fa 2 (.t 0)), N (.store 1 (.t 0) (kb false))])
(.seq (.ops [T (.fa 5 (.x 4)), T (.fa 0 (.t 0)), N (.store 1 (.t 0) (kb false)), T (.fa 5 (.x 5)), T (.fa 0 (.t 0)), N (.store 1 (.t 0) (kb true))])
(.seq (.ifs [T (.mov (.x 1)), T (.mov (.t 0)), GT 0 true (.fa 5 (.x 5)), GT 1 true (.fa 1 (.t 0)), GT 2 true (.load none (.t 0)), GT 3 true (.bin .eql (.t 0) (kk .u32 0)), GT 4 true (.mov (.t 0)), GT 0 false (.fa 5 (.x 5)), GT 1 false (.fa 2 (.t 0)), GT 2 false (.load none (.t 0)), GT 3 false (.bin .eql (.t 0) (kk .u32 0)), GT 9 true (.pick (.t 4) (kb true) (.t 0)), T (.pick (.t 10) (.t 0) (kb false)), T (.mov (.t 0)), GT 0 false (.mov (.x 1)), GT 1 false (.un .not (.t 0)), GT 2 false (.mov (.t 0)), GT 0 true (.fa 1 (.x 4)), GT 1 true (.fa 0 (.t 0)), GT 2 true (.load none (.t 0)), GT 3 true (.bin .gtr (.t 0) (kk .u16 0)), GT 4 true (.mov (.t 0)), GT 0 true (.fa 1 (.x 4)), GT 1 true (.fa 0 (.t 0)), GT 2 true (.load none (.t 0)), GT 3 true (.bin .lss (.t 0) (kk .u16 128)), GT 9 true (.pick (.t 4) (.t 0) (kb false)), GT 10 true (.mov (.t 0)), GT 0 false (.fa 1 (.x 5)), GT 1 false (.fa 0 (.t 0)), GT 2 false (.load none (.t 0)), GT 3 false (.bin .gtr (.t 0) (kk .u16 0)), GT 4 false (.mov (.t 0)), GT 0 true (.fa 1 (.x 5)), GT 1 true (.fa 0 (.t 0)), GT 2 true (.load none (.t 0)), GT 3 true (.bin .lss (.t 0) (kk .u16 128)), GT 9 false (.pick (.t 4) (.t 0) (kb false)), GT 21 true (.pick (.t 10) (kb true) (.t 0)), GT 22 true (.mov (.t 0)), GT 0 false (.fa 1 (.x 4)), GT 1 false (.fa 1 (.t 0)), GT 2 false (.load none (.t 0)), GT 3 false (.fa 1 (.x 5)), GT 4 false (.fa 1 (.t 0)), GT 5 false (.load none (.t 0)), GT 6 false (.bin .eql (.t 3) (.t 0)), GT 7 false (.mov (.t 0)), GT 0 true (.fa 1 (.x 4)), GT 1 true (.fa 1 (.t 0)), GT 2 true (.load none (.t 0)), GT 3 true (.bin .neq (.t 0) (kk .u32 0)), GT 12 false (.pick (.t 4) (.t 0) (kb false)), GT 36 true (.pick (.t 13) (kb true) (.t 0)), GT 40 false (.pick (.t 37) (.t 0) (kb false)), T (.pick (.t 41) (kb true) (.t 0))] (.t 0) (.seq (.ops [T (.call false 7 []), W 3 (.take (.t 0))])
.ret) .skip)
(.seq (.ops [T (.load (some 10) (.x 4)), T (.call false 10 [(.t 0)]), T (.call false 9 [(.t 0)]), T (.load (some 10) (.x 5)), T (.call false 10 [(.t 0)]), T (.call false 9 [(.t 0)]), T (.call false 8 [(.t 3), (.t 0), (ki 12)]), T (.take (.t 0)), T (.ext 0 (.t 0)), T (.ext 1 (.t 1)), W 6 (.alloc false zz0), W 7 (.alloc true zz0), N (.store 17 (.x 6) (.t 3)), N (.store 17 (.x 7) (.t 3))])
(.seq (.ifs [T (.load (some 17) (.x 6)), T (.call false 11 [(.t 0)]), T (.bin .neq (.t 0) (ki 9)), T (.mov (.t 0)), GT 0 false (.load (some 17) (.x 7)), GT 1 false (.call false 11 [(.t 0)]), GT 2 false (.bin .neq (.t 0) (ki 9)), T (.pick (.t 3) (kb true) (.t 0))] (.t 0) (.seq (.ops [W 3 (.take (kb false))])
.ret) .skip)
(.seq (.ifs [T (.mov (.x 1))] (.t 0) (.seq (.ops [T (.load (some 17) (.x 6)), T (.call false 12 [(.t 0)]), T (.fld 5 (some 5) (.t 0)), T (.fld 1 none (.t 0)), T (.fa 5 (.x 5)), T (.fa 2 (.t 0)), T (.load none (.t 0)), T (.bin .eql (.t 3) (.t 0)), T (.mov (.t 0)), GT 0 true (.load (some 17) (.x 7)), GT 1 true (.call false 14 [(.t 0)]), GT 2 true (.load (some 17) (.x 6)), GT 3 true (.call false 12 [(.t 0)]), GT 4 true (.fld 5 (some 5) (.t 0)), GT 5 true (.call false 15 [(.t 0)]), GT 6 true (.call false 13 [(.t 4), (.t 0)]), T (.pick (.t 7) (.t 0) (kb false)), T (.mov (.t 0)), GT 0 true (.load (some 17) (.x 6)), GT 1 true (.call false 14 [(.t 0)]), GT 2 true (.load (some 17) (.x 7)), GT 3 true (.call false 12 [(.t 0)]), GT 4 true (.fld 5 (some 5) (.t 0)), GT 5 true (.call false 15 [(.t 0)]), GT 6 true (.call false 13 [(.t 4), (.t 0)]), T (.pick (.t 7) (.t 0) (kb false)), T (.mov (.t 0)), GT 0 true (.call false 7 []), T (.pick (.t 1) (.t 0) (kb false)), W 3 (.take (.t 0))])
.ret) .skip)
(.seq (.ops [T (.load (some 17) (.x 7)), T (.call false 14 [(.t 0)]), T (.load (some 17) (.x 6)), T (.call false 12 [(.t 0)]), T (.fld 1 (some 3) (.t 0)), T (.call false 16 [(.t 0)]), T (.call false 13 [(.t 4), (.t 0)]), T (.mov (.t 0)), GT 0 true (.load (some 17) (.x 6)), GT 1 true (.call false 14 [(.t 0)]), GT 2 true (.load (some 17) (.x 7)), GT 3 true (.call false 12 [(.t 0)]), GT 4 true (.fld 1 (some 3) (.t 0)), GT 5 true (.call false 16 [(.t 0)]), GT 6 true (.call false 13 [(.t 4), (.t 0)]), T (.pick (.t 7) (.t 0) (kb false)), T (.mov (.t 0)), GT 0 true (.load (some 17) (.x 6)), GT 1 true (.call false 12 [(.t 0)]), GT 2 true (.fld 1 (some 3) (.t 0)), GT 3 true (.fa 1 (.x 4)), GT 4 true (.load (some 3) (.t 0)), GT 5 true (.eq (.g [1, 1, 0]) false (.t 2) (.t 0)), T (.pick (.t 6) (.t 0) (kb false)), T (.mov (.t 0)), GT 0 true (.call false 7 []), T (.pick (.t 1) (.t 0) (kb false)), W 3 (.take (.t 0))])
.ret))))))))))) }
def euphroelaw27_NegoAgrees.m : List Nat := [0, 1, 2, 4, 5, 6, 7, 8]
def euphroelaw27_alive.s : SFunc := { np := 0, nv := 6, res := [.var 0], code := (.seq (.ops [W 0 (.take (kb false))])
(.seq (.ops [T (.build [.v (.int .u16 0), .v (.int .u32 0), .v (.bool false)] [(0, 1, (kk .u16 1400))]), T (.build [.v (.bool false), .v (.int .u16 0), .v (.int .u32 0), .v (.bool false), .v (.bool false), .v (.bool false), .v (.int .u32 0), .v (.int .u32 0), .v (.int .u32 0), .v (.bool false)] [(1, 3, (.t 0))]), T (.call false 9 [(.t 0)]), T (.call false 17 [(.t 0), (ki 2)]), T (.take (.t 0)), T (.ext 0 (.t 0)), T (.ext 1 (.t 1)), W 1 (.alloc false zz0), W 2 (.alloc false zz2), N (.store 17 (.x 1) (.t 3)), N (.store 5 (.x 2) (.t 3))])
(.seq (.ops [T (.load (some 17) (.x 1)), T (.call false 17 [(.t 0), (ki 0)]), T (.take (.t 0)), T (.ext 0 (.t 0)), T (.ext 1 (.t 1)), W 3 (.alloc false zz2), N (.store 17 (.x 1) (.t 2)), N (.store 5 (.x 3) (.t 2))])
(.seq (.ops [T (.load (some 17) (.x 1)), T (.call false 43 [(.t 0)]), T (.take (.t 0)), T (.ext 0 (.t 0)), T (.ext 1 (.t 1)), W 4 (.take (.t 1)), W 5 (.take (.t 1))])
(.seq (.ops [T (.fa 3 (.x 2)), T (.load none (.t 0)), T (.mov (.t 0)), GT 0 true (.fa 0 (.x 3)), GT 1 true (.load none (.t 0)), GT 2 true (.len (.t 0)), GT 3 true (.bin .eql (.t 0) (ki 1)), T (.pick (.t 4) (.t 0) (kb false)), T (.mov (.t 0)), GT 0 true (.fa 0 (.x 3)), GT 1 true (.load none (.t 0)), GT 2 true (.ia 3 (.t 0) (ki 0)), GT 3 true (.fa 0 (.t 0)), GT 4 true (.load none (.t 0)), GT 5 true (.bin .eql (.t 0) (kk .u8 1)), T (.pick (.t 6) (.t 0) (kb false)), T (.mov (.t 0)), GT 0 true (.fa 0 (.x 3)), GT 1 true (.load none (.t 0)), GT 2 true (.ia 3 (.t 0) (ki 0)), GT 3 true (.fa 1 (.t 0)), GT 4 true (.load none (.t 0)), GT 5 true (.bin .eql (.t 0) (kk .u8 1)), T (.pick (.t 6) (.t 0) (kb false)), T (.mov (.t 0)), GT 0 true (.fa 0 (.x 3)), GT 1 true (.load none (.t 0)), GT 2 true (.ia 3 (.t 0) (ki 0)), GT 3 true (.fa 2 (.t 0)), GT 4 true (.load none (.t 0)), GT 5 true (.len (.t 0)), GT 6 true (.bin .eql (.t 0) (ki 4)), T (.pick (.t 7) (.t 0) (kb false)), T (.mov (.t 0)), GT 0 true (.load (some 17) (.x 1)), GT 1 true (.call false 11 [(.t 0)]), GT 2 true (.bin .eql (.t 0) (ki 6)), T (.pick (.t 3) (.t 0) (kb false)), T (.mov (.t 0)), GT 0 true (.mov (.x 4)), GT 1 true (.bin .eql (.t 0) (ki 9)), T (.pick (.t 2) (.t 0) (kb false)), T (.mov (.t 0)), GT 0 true (.mov (.x 5)), GT 1 true (.bin .eql (.t 0) (ki 3)), T (.pick (.t 2) (.t 0) (kb false)), T (.mov (.t 0)), GT 0 true (.call false 44 [(kk .u32 0)]), GT 1 true (.bin .eql (.t 0) (kk .u32 1)), T (.pick (.t 2) (.t 0) (kb false)), W 0 (.take (.t 0))])
.ret))))) }
def euphroelaw27_alive.m : List Nat := [0, 1, 2, 3, 4, 5]
def euphroelaw27_talk.l2 : SCode := (.seq (.ifs [T (.bin .lss (.x 23) (.x 22))] (.t 0) .skip (.exit 4))
(.seq (.block 5 (.seq (.ops [T (.ia 3 (.x 21) (.x 23)), T (.load (some 3) (.t 0)), W 24 (.alloc false zz6), N (.store 3 (.x 24) (.t 1))])
(.seq (.ops [T (.load (some 17) (.x 3)), T (.load (some 3) (.x 24)), T (.call false 19 [(.t 1), (.t 0)]), T (.take (.t 0)), T (.ext 0 (.t 0)), T (.ext 1 (.t 1)), W 25 (.alloc false zz0), W 26 (.alloc false zz2), N (.store 17 (.x 25) (.t 3)), N (.store 5 (.x 26) (.t 3))])
(.seq (.ops [T (.load (some 17) (.x 25)), N (.store 17 (.x 3) (.t 0))])
(.ops [T (.take (.x 13)), T (.fa 0 (.x 26)), T (.load none (.t 0)), T (.app 3 32 (.t 2) (.t 0)), W 13 (.take (.t 0))])))))
(.ops [T (.bin .add (.x 23) (ki 1)), W 23 (.mov (.t 0))])))
def euphroelaw27_talk.l1 : SCode := (.seq (.ifs [T (.bin .lss (.x 17) (.x 16))] (.t 0) .skip (.exit 2))
(.seq (.block 3 (.seq (.ops [T (.ia 3 (.x 15) (.x 17)), T (.load (some 3) (.t 0)), W 18 (.alloc false zz6), N (.store 3 (.x 18) (.t 1))])
(.seq (.ops [T (.load (some 17) (.x 4)), T (.load (some 3) (.x 18)), T (.call false 19 [(.t 1), (.t 0)]), T (.take (.t 0)), T (.ext 0 (.t 0)), T (.ext 1 (.t 1)), W 19 (.alloc false zz0), W 20 (.alloc false zz2), N (.store 17 (.x 19) (.t 3)), N (.store 5 (.x 20) (.t 3))])
(.seq (.ops [T (.load (some 17) (.x 19)), N (.store 17 (.x 4) (.t 0))])
(.ops [T (.take (.x 14)), T (.fa 0 (.x 20)), T (.load none (.t 0)), T (.app 3 32 (.t 2) (.t 0)), W 14 (.take (.t 0))])))))
(.ops [T (.bin .add (.x 17) (ki 1)), W 17 (.mov (.t 0))])))
def euphroelaw27_talk.l0 : SCode := (.seq (.ifs [T (.bin .lss (.x 12) (.x 11))] (.t 0) .skip (.exit 0))
(.seq (.block 1 (.seq (.ops [W 13 (.take (kn 3)), W 14 (.take (kn 3))])
(.seq (.seq (.ops [W 15 (.mov (.x 9)), W 16 (.len (.x 15)), W 17 (.mov (ki 0))])
(.block 2 (.loop [18, 19, 20] euphroelaw27_talk.l1)))
(.seq (.seq (.ops [W 21 (.mov (.x 10)), W 22 (.len (.x 21)), W 23 (.mov (ki 0))])
(.block 4 (.loop [24, 25, 26] euphroelaw27_talk.l2)))
(.ops [T (.mov (.x 13)), T (.mov (.x 14)), W 9 (.take (.t 1)), W 10 (.take (.t 1))])))))
(.ops [T (.bin .add (.x 12) (ki 1)), W 12 (.mov (.t 0))])))
def euphroelaw27_talk.s : SFunc := { np := 3, nv := 27, res := [.cell (some 17) 5, .cell (some 17) 6], code := (.seq (.ops [W 3 (.box false (.x 0)), W 4 (.box false (.x 1)), W 5 (.alloc false zz0), W 6 (.alloc false zz0)])
(.seq (.ops [T (.load (some 17) (.x 3)), T (.call false 17 [(.t 0), (ki 2)]), T (.take (.t 0)), T (.ext 0 (.t 0)), T (.ext 1 (.t 1)), N (.store 17 (.x 3) (.t 1))])
(.seq (.ops [T (.load (some 17) (.x 4)), T (.call false 17 [(.t 0), (ki 2)]), T (.take (.t 0)), T (.ext 0 (.t 0)), T (.ext 1 (.t 1)), N (.store 17 (.x 4) (.t 1))])
(.seq (.ops [T (.load (some 17) (.x 3)), T (.call false 17 [(.t 0), (ki 0)]), T (.take (.t 0)), T (.ext 0 (.t 0)), T (.ext 1 (.t 1)), W 7 (.alloc false zz2), N (.store 17 (.x 3) (.t 2)), N (.store 5 (.x 7) (.t 2))])
(.seq (.ops [T (.load (some 17) (.x 4)), T (.call false 17 [(.t 0), (ki 0)]), T (.take (.t 0)), T (.ext 0 (.t 0)), T (.ext 1 (.t 1)), W 8 (.alloc false zz2), N (.store 17 (.x 4) (.t 2)), N (.store 5 (.x 8) (.t 2))])
(.seq (.ops [T (.fa 0 (.x 7)), T (.load none (.t 0)), T (.fa 0 (.x 8)), T (.load none (.t 0)), W 9 (.take (.t 2)), W 10 (.take (.t 1))])
(.seq (.seq (.ops [W 11 (.mov (.x 2)), W 12 (.mov (ki 0))])
(.block 0 (.loop [13, 14, 15, 16, 17, 18, 19, 20, 21, 22, 23, 24, 25, 26] euphroelaw27_talk.l0)))
(.seq (.ops [T (.load (some 17) (.x 3)), T (.load (some 17) (.x 4)), N (.storeS 17 (.x 5) (.t 1) [(.x 4)]), N (.store 17 (.x 6) (.t 1))])
.ret)))))))) }
def euphroelaw27_talk.m : List Nat := [0, 1, 2, 3, 4, 6, 7, 8, 9, 10, 11, 46, 47, 12, 13, 49, 50, 51, 15, 16, 17, 67, 68, 69, 19, 20, 21]
def nego_New.s : SFunc := { np := 1, nv := 3, res := [.cell (some 17) 2], code := (.seq (.ops [W 1 (.box false (.x 0)), W 2 (.alloc false zz0)])
(.seq (.ops [T (.load (some 10) (.x 1)), T (.build [.v (.int .i64 0), .v (.int .i64 0), .v (.int .i64 0), .v (.int .u8 0), .nils 2, .v (.bool false), .v (.int .u16 0), .v (.int .u32 0), .v (.bool false), .v (.bool false), .v (.bool false), .v (.int .u32 0), .v (.int .u32 0), .v (.int .u32 0), .v (.bool false), .nils 2, .v (.int .i64 0)] [(5, 10, (.t 0))]), N (.store 17 (.x 2) (.t 0))])
.ret)) }
def nego_New.m : List Nat := [0, 1, 2]
def euphroelaw27_rules.s : SFunc := { np := 1, nv := 3, res := [.cell (some 10) 2], code := (.seq (.ops [W 1 (.box false (.x 0)), W 2 (.alloc false zz1)])
(.seq (.ops [T (.fa 0 (.x 1)), T (.load none (.t 0)), T (.fa 1 (.x 1)), T (.load (some 3) (.t 0)), T (.fa 4 (.x 1)), T (.load none (.t 0)), T (.fa 5 (.x 1)), T (.fa 0 (.t 0)), T (.load none (.t 0)), T (.fa 5 (.x 1)), T (.fa 1 (.t 0)), T (.load none (.t 0)), T (.fa 5 (.x 1)), T (.fa 2 (.t 0)), T (.load none (.t 0)), T (.fa 5 (.x 1)), T (.fa 3 (.t 0)), T (.load none (.t 0)), T (.fa 5 (.x 1)), T (.fa 4 (.t 0)), T (.load none (.t 0)), T (.build [.v (.bool false), .v (.int .u32 0), .v (.int .u32 0), .v (.int .u32 0), .v (.bool false)] [(0, 1, (.t 12)), (1, 1, (.t 9)), (2, 1, (.t 6)), (3, 1, (.t 3)), (4, 1, (.t 0))]), T (.build [.v (.bool false), .v (.int .u16 0), .v (.int .u32 0), .v (.bool false), .v (.bool false), .v (.bool false), .v (.int .u32 0), .v (.int .u32 0), .v (.int .u32 0), .v (.bool false)] [(0, 1, (.t 20)), (1, 3, (.t 18)), (4, 1, (.t 16)), (5, 5, (.t 0))]), N (.store 10 (.x 2) (.t 0))])
.ret)) }
def euphroelaw27_rules.m : List Nat := [0, 1, 2]
def nego_Nego_State.s : SFunc := { np := 1, nv := 3, res := [.var 2], code := (.seq (.ops [W 1 (.box false (.x 0)), W 2 (.take (ki 0))])
(.seq (.ops [T (.fa 0 (.x 1)), T (.load none (.t 0)), W 2 (.take (.t 0))])
.ret)) }
def nego_Nego_State.m : List Nat := [0, 1, 2]
def nego_Nego_Rules.s : SFunc := { np := 1, nv := 3, res := [.cell (some 10) 2], code := (.seq (.ops [W 1 (.box false (.x 0)), W 2 (.alloc false zz1)])
(.seq (.ops [T (.fa 5 (.x 1)), T (.load (some 10) (.t 0)), N (.store 10 (.x 2) (.t 0))])
.ret)) }
def nego_Nego_Rules.m : List Nat := [0, 1, 2]
def opts_Same.s : SFunc := { np := 2, nv := 3, res := [.var 2], code := (.seq (.ops [W 2 (.take (kb false))])
(.seq (.ops [T (.mov (.x 0)), T (.mov (.x 1)), T (.call true 45 [(.t 1), (.t 0), (.c (.v (.fn 46)))]), W 2 (.take (.t 0))])
.ret)) }
def opts_Same.m : List Nat := [0, 1, 4]
def nego_Nego_Acked.s : SFunc := { np := 1, nv := 3, res := [.var 2], code := (.seq (.ops [W 1 (.box false (.x 0)), W 2 (.take (kn 2))])
(.seq (.ops [T (.fa 15 (.x 1)), T (.load none (.t 0)), T (.call true 47 [(.t 0)]), W 2 (.take (.t 0))])
.ret)) }
def nego_Nego_Acked.m : List Nat := [0, 1, 2]
def ipcpo_Options.s : SFunc := { np := 1, nv := 4, res := [.var 2], code := (.seq (.ops [W 1 (.box false (.x 0)), W 2 (.take (kn 2))])
(.seq (.ops [T (.fa 1 (.x 1)), T (.load none (.t 0)), T (.call false 48 [(kk .u8 3), (.t 0)]), T (.lit 2 [(.t 0)]), W 3 (.take (.t 0))])
(.seq (.ifs [T (.fa 0 (.x 1)), T (.load none (.t 0)), T (.un .not (.t 0)), T (.mov (.t 0)), GT 0 true (.fa 4 (.x 1)), GT 1 true (.load none (.t 0)), T (.pick (.t 2) (.t 0) (kb false))] (.t 0) (.ops [T (.take (.x 3)), T (.fa 3 (.x 1)), T (.load none (.t 0)), T (.call false 48 [(kk .u8 129), (.t 0)]), T (.lit 2 [(.t 0)]), T (.app 2 32 (.t 4) (.t 0)), W 3 (.take (.t 0))]) .skip)
(.seq (.ops [T (.take (.x 3)), W 2 (.take (.t 0))])
.ret)))) }
def ipcpo_Options.m : List Nat := [0, 1, 2, 3]
def lcpo_Options.s : SFunc := { np := 1, nv := 4, res := [.var 2], code := (.seq (.ops [W 1 (.box false (.x 0)), W 2 (.take (kn 2))])
(.seq (.ops [W 3 (.take (kn 2))])
(.seq (.ifs [T (.fa 0 (.x 1)), T (.load none (.t 0)), T (.bin .neq (.t 0) (kk .u16 0))] (.t 0) (.ops [T (.take (.x 3)), T (.fa 0 (.x 1)), T (.load none (.t 0)), T (.cvi .u64 (.t 0)), T (.call false 49 [(kk .u8 1), (.t 0), (ki 2)]), T (.lit 2 [(.t 0)]), T (.app 2 32 (.t 5) (.t 0)), W 3 (.take (.t 0))]) .skip)
(.seq (.ifs [T (.fa 2 (.x 1)), T (.load none (.t 0))] (.t 0) (.ops [T (.take (.x 3)), T (.call false 50 []), T (.build [.v (.int .u8 0), .nils 1] [(0, 1, (kk .u8 3)), (1, 1, (.t 0))]), T (.lit 2 [(.t 0)]), T (.app 2 32 (.t 3) (.t 0)), W 3 (.take (.t 0))]) .skip)
(.seq (.ifs [T (.fa 1 (.x 1)), T (.load none (.t 0)), T (.bin .neq (.t 0) (kk .u32 0))] (.t 0) (.ops [T (.take (.x 3)), T (.fa 1 (.x 1)), T (.load none (.t 0)), T (.cvi .u64 (.t 0)), T (.call false 49 [(kk .u8 5), (.t 0), (ki 4)]), T (.lit 2 [(.t 0)]), T (.app 2 32 (.t 5) (.t 0)), W 3 (.take (.t 0))]) .skip)
(.seq (.ops [T (.take (.x 3)), W 2 (.take (.t 0))])
.ret)))))) }
def lcpo_Options.m : List Nat := [0, 1, 2, 3]
def nego_Nego_Do.s : SFunc := { np := 2, nv := 5, res := [.cell (some 17) 3, .cell (some 5) 4], code := (.seq (.ops [W 2 (.box false (.x 0)), W 3 (.alloc false zz0), W 4 (.alloc false zz2)])
(.seq (.ifs [T (.mov (.x 1)), T (.bin .lss (.t 0) (ki 0)), T (.mov (.t 0)), GT 0 false (.mov (.x 1)), GT 1 false (.bin .gtr (.t 0) (ki 3)), T (.pick (.t 2) (kb true) (.t 0))] (.t 0) (.seq (.ops [T (.load (some 17) (.x 2)), T (.build [.nils 3, .v (.bool false), .v (.bool false), .v (.bool false), .v (.bool false)] []), N (.store 17 (.x 3) (.t 1)), N (.store 5 (.x 4) (.t 1))])
.ret) .skip)
(.seq (.ops [T (.load (some 17) (.x 2)), T (.mov (.x 1)), T (.build [.v (.int .u8 0), .v (.int .u8 0), .nils 1] []), T (.build [.v (.int .u8 0), .v (.int .u8 0), .nils 1] []), T (.call false 51 [(.t 3), (.t 2), (.t 1), (.t 0)]), T (.ext 0 (.t 0)), T (.ext 1 (.t 1)), N (.store 17 (.x 3) (.t 1)), N (.store 5 (.x 4) (.t 1))])
.ret))) }
def nego_Nego_Do.m : List Nat := [0, 1, 2, 4, 5]
def nego_Nego_Take.s : SFunc := { np := 2, nv := 8, res := [.cell (some 17) 4, .cell (some 5) 5], code := (.seq (.ops [W 2 (.box false (.x 0)), W 3 (.box false (.x 1)), W 4 (.alloc false zz0), W 5 (.alloc false zz2)])
(.seq (.seq (.ops [T (.fa 0 (.x 3)), W 6 (.load none (.t 0))])
(.block 0 (.ifs [T (.bin .eql (.x 6) (kk .u8 1)), T (.take (.t 0))] (.t 0) (.seq (.ops [T (.load (some 17) (.x 2)), T (.load (some 3) (.x 3)), T (.call false 54 [(.t 1), (.t 0)]), T (.ext 0 (.t 0)), T (.ext 1 (.t 1)), N (.store 17 (.x 4) (.t 1)), N (.store 5 (.x 5) (.t 1))])
.ret) (.seq (.seq (.ops [T (.bin .eql (.x 6) (kk .u8 2)), W 7 (.take (.t 0))])
(.ifs [] (.x 7) .skip (.seq (.ops [T (.bin .eql (.x 6) (kk .u8 3)), W 7 (.take (.t 0))])
(.ifs [] (.x 7) .skip (.ops [T (.bin .eql (.x 6) (kk .u8 4)), W 7 (.take (.t 0))])))))
(.ifs [] (.x 7) (.seq (.ops [T (.load (some 17) (.x 2)), T (.load (some 3) (.x 3)), T (.call false 55 [(.t 1), (.t 0)]), T (.ext 0 (.t 0)), T (.ext 1 (.t 1)), N (.store 17 (.x 4) (.t 1)), N (.store 5 (.x 5) (.t 1))])
.ret) .skip)))))
(.seq (.ops [T (.load (some 17) (.x 2)), T (.load (some 17) (.x 2)), T (.load (some 3) (.x 3)), T (.call false 56 [(.t 1), (.t 0)]), T (.load (some 3) (.x 3)), T (.build [.v (.int .u8 0), .v (.int .u8 0), .nils 1] []), T (.call false 51 [(.t 5), (.t 2), (.t 1), (.t 0)]), T (.ext 0 (.t 0)), T (.ext 1 (.t 1)), N (.store 17 (.x 4) (.t 1)), N (.store 5 (.x 5) (.t 1))])
.ret))) }
def nego_Nego_Take.m : List Nat := [0, 1, 2, 3, 4, 5, 7, 15]
def ctl_Lay.s : SFunc := { np := 1, nv := 5, res := [.var 2, .var 3], code := (.seq (.ops [W 1 (.box false (.x 0)), W 2 (.take (kn 1)), W 3 (.take (ki 0))])
(.seq (.ifs [T (.fa 2 (.x 1)), T (.load none (.t 0)), T (.len (.t 0)), T (.bin .gtr (.t 0) (ki 4000))] (.t 0) (.seq (.ops [W 2 (.take (kn 1)), W 3 (.take (ki 8))])
.ret) .skip)
(.seq (.ops [T (.fa 2 (.x 1)), T (.load none (.t 0)), T (.len (.t 0)), T (.bin .add (ki 4) (.t 0)), T (.cvi .u64 (.t 0)), T (.call false 57 [(.t 0), (ki 2), (kb false)]), T (.take (.t 0)), T (.ext 0 (.t 0)), T (.ext 1 (.t 1)), W 4 (.take (.t 1)), T (.take (.t 1))])
(.seq (.ops [T (.fa 0 (.x 1)), T (.load none (.t 0)), T (.fa 1 (.x 1)), T (.load none (.t 0)), T (.lit 1 [(.t 2), (.t 0)]), T (.mov (.x 4)), T (.fa 2 (.x 1)), T (.load none (.t 0)), T (.lit 1 [(.t 3), (.t 2), (.t 0)]), T (.call false 58 [(.t 0)]), W 2 (.take (.t 0)), W 3 (.take (ki 0))])
.ret)))) }
def ctl_Lay.m : List Nat := [0, 1, 2, 3, 4]
def nego_Nego_Waits.s : SFunc := { np := 1, nv := 4, res := [.var 2, .var 3], code := (.seq (.ops [W 1 (.box false (.x 0)), W 2 (.take (ki 0)), W 3 (.take (ki 0))])
(.seq (.ops [T (.fa 1 (.x 1)), T (.fa 0 (.t 0)), T (.load none (.t 0)), T (.fa 1 (.x 1)), T (.fa 1 (.t 0)), T (.load none (.t 0)), W 2 (.take (.t 3)), W 3 (.take (.t 1))])
.ret)) }
def nego_Nego_Waits.m : List Nat := [0, 1, 2, 3]
def nego_Fresh.s : SFunc := { np := 1, nv := 2, res := [.var 1], code := (.seq (.ops [W 1 (.take (kk .u32 0))])
(.seq (.ops [T (.mov (.x 0)), T (.bin .mul (.t 0) (kk .u32 2654435761)), T (.bin .add (.t 0) (kk .u32 1)), T (.mx (.t 0) (kk .u32 1)), W 1 (.take (.t 0))])
.ret)) }
def nego_Fresh.m : List Nat := [0, 2]
def slices_EqualFunc_api_Option.l0 : SCode := (.seq (.ifs [T (.bin .lss (.x 6) (.x 5))] (.t 0) .skip (.exit 0))
(.seq (.block 1 (.seq (.ops [T (.mov (.x 6)), T (.ia 2 (.x 4) (.x 6)), T (.load (some 2) (.t 0)), W 7 (.alloc false zz8), W 8 (.take (.t 3)), N (.store 2 (.x 7) (.t 2))])
(.seq (.ops [T (.mov (.x 1)), T (.mov (.x 8)), T (.ia 2 (.t 1) (.t 0)), T (.load (some 2) (.t 0)), W 9 (.alloc false zz8), N (.store 2 (.x 9) (.t 1))])
(.ifs [T (.mov (.x 2)), T (.load (some 2) (.x 7)), T (.load (some 2) (.x 9)), T (.callv (.t 2) [(.t 1), (.t 0)]), T (.un .not (.t 0))] (.t 0) (.seq (.ops [W 3 (.take (kb false))])
.ret) .skip))))
(.ops [T (.bin .add (.x 6) (ki 1)), W 6 (.mov (.t 0))])))
def slices_EqualFunc_api_Option.s : SFunc := { np := 3, nv := 10, res := [.var 3], code := (.seq (.ops [W 3 (.take (kb false))])
(.seq (.ifs [T (.mov (.x 0)), T (.len (.t 0)), T (.mov (.x 1)), T (.len (.t 0)), T (.bin .neq (.t 2) (.t 0))] (.t 0) (.seq (.ops [W 3 (.take (kb false))])
.ret) .skip)
(.seq (.seq (.ops [W 4 (.mov (.x 0)), W 5 (.len (.x 4)), W 6 (.mov (ki 0))])
(.block 0 (.loop [7, 8, 9] slices_EqualFunc_api_Option.l0)))
(.seq (.ops [W 3 (.take (kb true))])
.ret)))) }
def slices_EqualFunc_api_Option.m : List Nat := [0, 1, 2, 6, 15, 16, 17, 8, 7, 9]
def opts_same.s : SFunc := { np := 2, nv := 5, res := [.var 4], code := (.seq (.ops [W 2 (.box false (.x 0)), W 3 (.box false (.x 1)), W 4 (.take (kb false))])
(.seq (.ops [T (.fa 0 (.x 2)), T (.load none (.t 0)), T (.fa 0 (.x 3)), T (.load none (.t 0)), T (.bin .eql (.t 2) (.t 0)), T (.mov (.t 0)), GT 0 true (.fa 1 (.x 2)), GT 1 true (.load none (.t 0)), GT 2 true (.fa 1 (.x 3)), GT 3 true (.load none (.t 0)), GT 4 true (.call false 81 [(.t 2), (.t 0)]), T (.pick (.t 5) (.t 0) (kb false)), W 4 (.take (.t 0))])
.ret)) }
def opts_same.m : List Nat := [0, 1, 2, 3, 4]
def slices_Clone_api_Option.s : SFunc := { np := 1, nv := 2, res := [.var 1], code := (.nilc 1 0 2 32 (.seq (.ops [W 1 (.take (kn 2))])
(.seq (.ifs [T (.mov (.x 0)), T (.eq .s false (.t 0) (kn 2))] (.t 0) (.seq (.ops [W 1 (.take (kn 2))])
.ret) .skip)
(.seq (.clone 1 0 2 32)
.ret)))) }
def slices_Clone_api_Option.m : List Nat := [0, 2]
def ipcpo_option.s : SFunc := { np := 2, nv := 4, res := [.cell (some 2) 2], code := (.seq (.ops [W 2 (.alloc false zz8)])
(.seq (.ops [T (.mov (.x 1)), T (.cvi .u64 (.t 0)), T (.call false 57 [(.t 0), (ki 4), (kb false)]), T (.take (.t 0)), T (.ext 0 (.t 0)), T (.ext 1 (.t 1)), W 3 (.take (.t 1)), T (.take (.t 1))])
(.seq (.ops [T (.mov (.x 0)), T (.mov (.x 3)), T (.build [.v (.int .u8 0), .nils 1] [(0, 1, (.t 1)), (1, 1, (.t 0))]), N (.store 2 (.x 2) (.t 0))])
.ret))) }
def ipcpo_option.m : List Nat := [0, 1, 4, 5]
def lcpo_option.s : SFunc := { np := 3, nv := 5, res := [.cell (some 2) 3], code := (.seq (.ops [W 3 (.alloc false zz8)])
(.seq (.ops [T (.mov (.x 1)), T (.mov (.x 2)), T (.call false 57 [(.t 1), (.t 0), (kb false)]), T (.take (.t 0)), T (.ext 0 (.t 0)), T (.ext 1 (.t 1)), W 4 (.take (.t 1)), T (.take (.t 1))])
(.seq (.ops [T (.mov (.x 0)), T (.mov (.x 4)), T (.build [.v (.int .u8 0), .nils 1] [(0, 1, (.t 1)), (1, 1, (.t 0))]), N (.store 2 (.x 3) (.t 0))])
.ret))) }
def lcpo_option.m : List Nat := [0, 1, 2, 6, 7]
def lcpo_Chap.s : SFunc := { np := 0, nv := 1, res := [.var 0], code := (.seq (.ops [W 0 (.take (kn 1))])
(.seq (.ops [T (.lit 1 [(kk .u8 194), (kk .u8 35), (kk .u8 129)]), W 0 (.take (.t 0))])
.ret)) }
def lcpo_Chap.m : List Nat := [0]
def nego_Nego_event.l0 : SCode := (.seq (.ifs [T (.bin .lss (.x 15) (.x 14))] (.t 0) .skip (.exit 0))
(.seq (.block 1 (.seq (.ops [T (.ia 1 (.x 13) (.x 15)), T (.load none (.t 0)), W 16 (.take (.t 0))])
(.ops [T (.mov (.x 12)), T (.mov (.x 16)), T (.mov (.x 10)), T (.call false 84 [(.t 0), (ki 10)]), T (.call true 83 [(.t 3), (.t 2), (.t 0)])])))
(.ops [T (.bin .add (.x 15) (ki 1)), W 15 (.mov (.t 0))])))
def nego_Nego_event.s : SFunc := { np := 4, nv := 17, res := [.cell (some 17) 7, .cell (some 5) 8], code := (.seq (.ops [W 4 (.box false (.x 0)), W 5 (.box false (.x 2)), W 6 (.box false (.x 3)), W 7 (.alloc false zz0), W 8 (.alloc false zz2)])
(.seq (.ops [T (.fa 0 (.x 4)), T (.load none (.t 0)), T (.mov (.x 1)), T (.call false 82 [(.t 1), (.t 0)]), T (.take (.t 0)), T (.ext 0 (.t 0)), T (.ext 1 (.t 1)), T (.ext 2 (.t 2)), W 9 (.take (.t 2)), W 10 (.take (.t 2)), W 11 (.take (.t 2))])
(.seq (.ifs [T (.mov (.x 11)), T (.bin .neq (.t 0) (ki 0))] (.t 0) (.seq (.ops [T (.load (some 17) (.x 4)), T (.build [.nils 3, .v (.bool false), .v (.bool false), .v (.bool false), .v (.bool false)] []), N (.store 17 (.x 7) (.t 1)), N (.store 5 (.x 8) (.t 1))])
.ret) .skip)
(.seq (.ops [T (.mov (.x 9)), T (.fa 0 (.x 4)), N (.store 1 (.t 0) (.t 1))])
(.seq (.ops [T (.load (some 17) (.x 4)), T (.load (some 3) (.x 5)), T (.load (some 3) (.x 6)), T (.build [.v (.int .i64 0), .v (.int .i64 0), .v (.int .i64 0), .v (.int .u8 0), .nils 2, .v (.bool false), .v (.int .u16 0), .v (.int .u32 0), .v (.bool false), .v (.bool false), .v (.bool false), .v (.int .u32 0), .v (.int .u32 0), .v (.int .u32 0), .v (.bool false), .nils 2, .v (.int .i64 0), .nils 3, .v (.bool false), .v (.bool false), .v (.bool false), .v (.bool false), .v (.int .u8 0), .v (.int .u8 0), .nils 1, .v (.int .u8 0), .v (.int .u8 0), .nils 1] [(0, 17, (.t 2)), (22, 3, (.t 1)), (25, 3, (.t 0))]), T (.box false (.t 0)), W 12 (.take (.t 0))])
(.seq (.seq (.ops [W 13 (.mov (.x 10)), W 14 (.len (.x 13)), W 15 (.mov (ki 0))])
(.block 0 (.loop [16] nego_Nego_event.l0)))
(.seq (.ifs [T (.mov (.x 9)), T (.call false 85 [(.t 0)]), T (.un .not (.t 0))] (.t 0) (.ops [T (.mov (.x 12)), T (.mov (.x 12)), T (.nck (.t 0)), T (.fa 0 (.t 0)), T (.fa 1 (.t 0)), T (.load (some 2) (.t 0)), T (.call false 86 [(.t 0)]), T (.nck (.t 6)), T (.fa 0 (.t 0)), T (.fa 1 (.t 0)), N (.store 2 (.t 0) (.t 3))]) .skip)
(.seq (.ops [T (.mov (.x 12)), T (.nck (.t 0)), T (.fa 0 (.t 0)), T (.load (some 17) (.t 0)), T (.mov (.x 12)), T (.nck (.t 0)), T (.fa 17 (.t 0)), T (.loadR (.x 12) (some 5) (.t 0)), N (.storeS 17 (.x 7) (.t 4) [(.x 12)]), N (.store 5 (.x 8) (.t 1))])
.ret)))))))) }
def nego_Nego_event.m : List Nat := [0, 1, 2, 3, 4, 6, 7, 8, 9, 10, 11, 12, 13, 35, 36, 37, 15]
def nego_Nego_asked.s : SFunc := { np := 2, nv := 14, res := [.cell (some 17) 4, .cell (some 5) 5], code := (.seq (.ops [W 2 (.box false (.x 0)), W 3 (.box false (.x 1)), W 4 (.alloc false zz0), W 5 (.alloc false zz2)])
(.seq (.ops [T (.load (some 3) (.x 3)), T (.call false 88 [(.t 0)]), T (.take (.t 0)), T (.ext 0 (.t 0)), T (.ext 1 (.t 1)), W 6 (.take (.t 1)), W 7 (.take (.t 1))])
(.seq (.ifs [T (.mov (.x 7)), T (.bin .neq (.t 0) (ki 0))] (.t 0) (.seq (.ops [T (.load (some 17) (.x 2)), T (.build [.nils 3, .v (.bool false), .v (.bool false), .v (.bool false), .v (.bool false)] []), N (.store 17 (.x 4) (.t 1)), N (.store 5 (.x 5) (.t 1))])
.ret) .skip)
(.seq (.ops [T (.fa 5 (.x 2)), T (.load (some 10) (.t 0)), T (.mov (.x 6)), T (.call false 89 [(.t 1), (.t 0)]), T (.take (.t 0)), T (.ext 0 (.t 0)), T (.ext 1 (.t 1)), W 8 (.take (.t 1)), W 9 (.take (.t 1))])
(.seq (.ops [W 10 (.take (ki 7))])
(.seq (.seq (.ops [W 11 (.mov (.x 8))])
(.block 0 (.ifs [T (.bin .eql (.x 11) (kk .u8 2)), T (.take (.t 0))] (.t 0) (.seq (.ops [T (.mov (.x 9)), T (.fa 15 (.x 2)), N (.store 1 (.t 0) (.t 1))])
(.ops [W 10 (.take (ki 6))])) (.ifs [T (.bin .eql (.x 11) (kk .u8 3)), T (.take (.t 0))] (.t 0) (.seq (.ops [T (.fa 16 (.x 2)), T (.load none (.t 0)), T (.bin .add (.t 0) (ki 1)), T (.fa 16 (.x 2)), N (.store 1 (.t 0) (.t 1))])
(.ifs [T (.fa 16 (.x 2)), T (.load none (.t 0)), T (.bin .gtr (.t 0) (ki 5))] (.t 0) (.frame (.seq (.ops [T (.mov (.x 9)), T (.call false 90 [(.t 0)]), W 12 (.alloc false (.nils 1)), N (.store 1 (.x 12) (.t 1))])
(.ops [T (.mov (.x 6)), T (.call true 47 [(.t 0)]), T (.mkf 92 [] [(.x 12)]), T (.call true 91 [(.t 1), (.t 0)]), W 8 (.take (kk .u8 4)), W 9 (.take (.t 1))]))) .skip)) .skip))))
(.seq (.ops [T (.mov (.x 8)), T (.fa 1 (.x 3)), T (.load none (.t 0)), T (.mov (.x 9)), T (.call false 94 [(.t 3), (.t 1), (.t 0)]), T (.take (.t 0)), T (.ext 0 (.t 0)), T (.ext 1 (.t 1)), W 13 (.alloc false zz6), N (.store 3 (.x 13) (.t 2)), T (.take (.t 2))])
(.seq (.ops [T (.load (some 17) (.x 2)), T (.mov (.x 10)), T (.load (some 3) (.x 3)), T (.load (some 3) (.x 13)), T (.call false 51 [(.t 3), (.t 2), (.t 1), (.t 0)]), T (.ext 0 (.t 0)), T (.ext 1 (.t 1)), N (.store 17 (.x 4) (.t 1)), N (.store 5 (.x 5) (.t 1))])
.ret)))))))) }
def nego_Nego_asked.m : List Nat := [0, 1, 2, 3, 4, 5, 6, 7, 8, 9, 10, 30, 11, 12]
def nego_Nego_answered.s : SFunc := { np := 2, nv := 9, res := [.cell (some 17) 4, .cell (some 5) 5], code := (.seq (.ops [W 2 (.box false (.x 0)), W 3 (.box false (.x 1)), W 4 (.alloc false zz0), W 5 (.alloc false zz2)])
(.seq (.ops [T (.load (some 3) (.x 3)), T (.call false 88 [(.t 0)]), T (.take (.t 0)), T (.ext 0 (.t 0)), T (.ext 1 (.t 1)), W 6 (.take (.t 1)), W 7 (.take (.t 1))])
(.seq (.ifs [T (.mov (.x 7)), T (.bin .neq (.t 0) (ki 0)), T (.mov (.t 0)), GT 0 false (.fa 1 (.x 3)), GT 1 false (.load none (.t 0)), GT 2 false (.fa 3 (.x 2)), GT 3 false (.load none (.t 0)), GT 4 false (.bin .neq (.t 2) (.t 0)), T (.pick (.t 5) (kb true) (.t 0))] (.t 0) (.seq (.ops [T (.load (some 17) (.x 2)), T (.build [.nils 3, .v (.bool false), .v (.bool false), .v (.bool false), .v (.bool false)] []), N (.store 17 (.x 4) (.t 1)), N (.store 5 (.x 5) (.t 1))])
.ret) .skip)
(.seq (.ops [W 8 (.take (kb true))])
(.seq (.block 0 (.ifs [T (.fa 0 (.x 3)), T (.load none (.t 0)), T (.bin .eql (.t 0) (kk .u8 2)), T (.mov (.t 0)), GT 0 true (.mov (.x 6)), GT 1 true (.fa 4 (.x 2)), GT 2 true (.load none (.t 0)), GT 3 true (.call false 13 [(.t 2), (.t 0)]), T (.pick (.t 4) (.t 0) (kb false)), T (.take (.t 0))] (.t 0) (.seq (.ops [T (.fa 16 (.x 2)), N (.store 1 (.t 0) (ki 0))])
(.seq (.ops [T (.load (some 17) (.x 2)), T (.load (some 3) (.x 3)), T (.build [.v (.int .u8 0), .v (.int .u8 0), .nils 1] []), T (.call false 51 [(.t 2), (ki 8), (.t 1), (.t 0)]), T (.ext 0 (.t 0)), T (.ext 1 (.t 1)), N (.store 17 (.x 4) (.t 1)), N (.store 5 (.x 5) (.t 1))])
.ret)) (.ifs [T (.fa 0 (.x 3)), T (.load none (.t 0)), T (.bin .eql (.t 0) (kk .u8 3)), T (.mov (.t 0)), GT 0 true (.mov (.x 6)), GT 1 true (.len (.t 0)), GT 2 true (.bin .gtr (.t 0) (ki 0)), T (.pick (.t 3) (.t 0) (kb false)), T (.take (.t 0))] (.t 0) (.ops [T (.fa 5 (.x 2)), T (.load (some 10) (.t 0)), T (.mov (.x 6)), T (.call false 95 [(.t 1), (.t 0)]), T (.fa 5 (.x 2)), N (.store 10 (.t 0) (.t 1))]) (.ifs [T (.fa 0 (.x 3)), T (.load none (.t 0)), T (.bin .eql (.t 0) (kk .u8 4)), T (.mov (.t 0)), GT 0 true (.mov (.x 6)), GT 1 true (.len (.t 0)), GT 2 true (.bin .gtr (.t 0) (ki 0)), T (.pick (.t 3) (.t 0) (kb false)), T (.mov (.t 0)), GT 0 true (.mov (.x 6)), GT 1 true (.fa 4 (.x 2)), GT 2 true (.load none (.t 0)), GT 3 true (.call false 96 [(.t 2), (.t 0)]), T (.pick (.t 4) (.t 0) (kb false)), T (.take (.t 0))] (.t 0) (.ops [T (.fa 5 (.x 2)), T (.load (some 10) (.t 0)), T (.mov (.x 6)), T (.call false 97 [(.t 1), (.t 0)]), T (.take (.t 0)), T (.ext 0 (.t 0)), T (.ext 1 (.t 1)), T (.fa 5 (.x 2)), N (.store 10 (.t 0) (.t 2)), W 8 (.take (.t 2))]) (.seq (.ops [T (.load (some 17) (.x 2)), T (.build [.nils 3, .v (.bool false), .v (.bool false), .v (.bool false), .v (.bool false)] []), N (.store 17 (.x 4) (.t 1)), N (.store 5 (.x 5) (.t 1))])
.ret)))))
(.seq (.ifs [T (.mov (.x 8)), T (.un .not (.t 0))] (.t 0) (.seq (.ops [T (.load (some 17) (.x 2)), T (.load (some 3) (.x 3)), T (.build [.v (.int .u8 0), .v (.int .u8 0), .nils 1] []), T (.call false 51 [(.t 2), (ki 14), (.t 1), (.t 0)]), T (.ext 0 (.t 0)), T (.ext 1 (.t 1)), N (.store 17 (.x 4) (.t 1)), N (.store 5 (.x 5) (.t 1))])
.ret) .skip)
(.seq (.ops [T (.load (some 17) (.x 2)), T (.load (some 3) (.x 3)), T (.build [.v (.int .u8 0), .v (.int .u8 0), .nils 1] []), T (.call false 51 [(.t 2), (ki 9), (.t 1), (.t 0)]), T (.ext 0 (.t 0)), T (.ext 1 (.t 1)), N (.store 17 (.x 4) (.t 1)), N (.store 5 (.x 5) (.t 1))])
.ret))))))) }
def nego_Nego_answered.m : List Nat := [0, 1, 2, 3, 4, 5, 6, 7, 8]
def nego_Nego_meant.s : SFunc := { np := 2, nv := 5, res := [.var 4], code := (.seq (.ops [W 2 (.box false (.x 0)), W 3 (.box false (.x 1)), W 4 (.take (ki 0))])
(.seq (.block 0 (.ifs [T (.fa 0 (.x 3)), T (.load none (.t 0)), T (.bin .eql (.t 0) (kk .u8 5)), T (.take (.t 0))] (.t 0) (.seq (.ops [W 4 (.take (ki 10))])
.ret) (.ifs [T (.fa 0 (.x 3)), T (.load none (.t 0)), T (.bin .eql (.t 0) (kk .u8 6)), T (.take (.t 0))] (.t 0) (.seq (.ops [W 4 (.take (ki 11))])
.ret) (.ifs [T (.fa 0 (.x 3)), T (.load none (.t 0)), T (.bin .eql (.t 0) (kk .u8 7)), T (.mov (.t 0)), GT 0 true (.fa 2 (.x 3)), GT 1 true (.load none (.t 0)), GT 2 true (.len (.t 0)), GT 3 true (.bin .gtr (.t 0) (ki 0)), T (.pick (.t 4) (.t 0) (kb false)), T (.mov (.t 0)), GT 0 true (.fa 2 (.x 3)), GT 1 true (.load none (.t 0)), GT 2 true (.ia 1 (.t 0) (ki 0)), GT 3 true (.load none (.t 0)), GT 4 true (.bin .geq (.t 0) (kk .u8 1)), T (.pick (.t 5) (.t 0) (kb false)), T (.mov (.t 0)), GT 0 true (.fa 2 (.x 3)), GT 1 true (.load none (.t 0)), GT 2 true (.ia 1 (.t 0) (ki 0)), GT 3 true (.load none (.t 0)), GT 4 true (.bin .leq (.t 0) (kk .u8 7)), T (.pick (.t 5) (.t 0) (kb false)), T (.take (.t 0))] (.t 0) (.seq (.ops [W 4 (.take (ki 14))])
.ret) (.ifs [T (.fa 0 (.x 3)), T (.load none (.t 0)), T (.bin .eql (.t 0) (kk .u8 7)), T (.mov (.t 0)), GT 0 false (.fa 0 (.x 3)), GT 1 false (.load none (.t 0)), GT 2 false (.bin .eql (.t 0) (kk .u8 8)), GT 3 false (.mov (.t 0)), GT 0 true (.fa 5 (.x 2)), GT 1 true (.fa 0 (.t 0)), GT 2 true (.load none (.t 0)), GT 3 true (.un .not (.t 0)), GT 8 false (.pick (.t 4) (.t 0) (kb false)), T (.pick (.t 9) (kb true) (.t 0)), T (.take (.t 0))] (.t 0) (.seq (.ops [W 4 (.take (ki 13))])
.ret) (.ifs [T (.fa 0 (.x 3)), T (.load none (.t 0)), T (.bin .geq (.t 0) (kk .u8 9)), T (.mov (.t 0)), GT 0 true (.fa 0 (.x 3)), GT 1 true (.load none (.t 0)), GT 2 true (.bin .leq (.t 0) (kk .u8 11)), T (.pick (.t 3) (.t 0) (kb false)), T (.mov (.t 0)), GT 0 true (.fa 5 (.x 2)), GT 1 true (.fa 0 (.t 0)), GT 2 true (.load none (.t 0)), GT 3 true (.un .not (.t 0)), T (.pick (.t 4) (.t 0) (kb false)), T (.take (.t 0))] (.t 0) (.seq (.ops [W 4 (.take (ki 15))])
.ret) .skip))))))
(.seq (.ops [W 4 (.take (ki 12))])
.ret))) }
def nego_Nego_meant.m : List Nat := [0, 1, 2, 3, 4]
def octs_Put.l0 : SCode := (.seq (.ifs [T (.bin .lss (.x 7) (.x 6))] (.t 0) .skip (.exit 0))
(.seq (.block 1 (.seq (.ops [T (.mov (.x 7)), W 8 (.take (.t 0))])
(.ops [T (.mov (.x 5)), T (.mov (.x 8)), T (.mov (.x 0)), T (.mov (.x 8)), T (.bin .mul (ki 8) (.t 0)), T (.bin .shr (.t 2) (.t 0)), T (.cvi .u8 (.t 0)), T (.ia 1 (.t 6) (.t 5)), N (.store 1 (.t 0) (.t 1))])))
(.ops [T (.bin .add (.x 7) (ki 1)), W 7 (.mov (.t 0))])))
def octs_Put.s : SFunc := { np := 3, nv := 9, res := [.var 3, .var 4], code := (.seq (.ops [W 3 (.take (kn 1)), W 4 (.take (ki 0))])
(.seq (.ifs [T (.mov (.x 1)), T (.bin .lss (.t 0) (ki 1)), T (.mov (.t 0)), GT 0 false (.mov (.x 1)), GT 1 false (.bin .gtr (.t 0) (ki 8)), T (.pick (.t 2) (kb true) (.t 0))] (.t 0) (.seq (.ops [W 3 (.take (kn 1)), W 4 (.take (ki 1))])
.ret) .skip)
(.seq (.ops [T (.mov (.x 1)), T (.make 1 1 (.v (.int .u8 0)) (.t 0) (.t 0)), W 5 (.take (.t 0))])
(.seq (.seq (.ops [T (.mov (.x 5)), W 6 (.len (.t 0)), W 7 (.mov (ki 0))])
(.block 0 (.loop [8] octs_Put.l0)))
(.seq (.ifs [T (.mov (.x 2)), T (.un .not (.t 0))] (.t 0) (.ops [T (.mov (.x 5)), T (.call true 98 [(.t 0)])]) .skip)
(.seq (.ops [T (.take (.x 5)), W 3 (.take (.t 0)), W 4 (.take (ki 0))])
.ret)))))) }
def octs_Put.m : List Nat := [0, 1, 2, 6, 7, 8, 19, 20, 9]
def octs_Join.s : SFunc := { np := 1, nv := 2, res := [.var 1], code := (.seq (.ops [W 1 (.take (kn 1))])
(.seq (.ops [T (.mov (.x 0)), T (.call false 99 [(.t 0)]), W 1 (.take (.t 0))])
.ret)) }
def octs_Join.m : List Nat := [0, 2]
def octs_Get.l0 : SCode := (.seq (.ifs [T (.bin .lss (.x 7) (.x 6))] (.t 0) .skip (.exit 0))
(.seq (.block 1 (.seq (.ops [T (.mov (.x 7)), T (.ia 1 (.x 5) (.x 7)), T (.load none (.t 0)), W 8 (.take (.t 2)), W 9 (.take (.t 1))])
(.ifs [T (.mov (.x 1))] (.t 0) (.ops [T (.mov (.x 4)), T (.mov (.x 9)), T (.cvi .u64 (.t 0)), T (.mov (.x 8)), T (.bin .mul (ki 8) (.t 0)), T (.bin .shl (.t 2) (.t 0)), T (.bin .or (.t 5) (.t 0)), W 4 (.take (.t 0))]) (.ops [T (.mov (.x 4)), T (.bin .shl (.t 0) (kk .u64 8)), T (.mov (.x 9)), T (.cvi .u64 (.t 0)), T (.bin .or (.t 2) (.t 0)), W 4 (.take (.t 0))]))))
(.ops [T (.bin .add (.x 7) (ki 1)), W 7 (.mov (.t 0))])))
def octs_Get.s : SFunc := { np := 2, nv := 10, res := [.var 2, .var 3], code := (.seq (.ops [W 2 (.take (kk .u64 0)), W 3 (.take (ki 0))])
(.seq (.ifs [T (.mov (.x 0)), T (.len (.t 0)), T (.bin .lss (.t 0) (ki 1)), T (.mov (.t 0)), GT 0 false (.mov (.x 0)), GT 1 false (.len (.t 0)), GT 2 false (.bin .gtr (.t 0) (ki 8)), T (.pick (.t 3) (kb true) (.t 0))] (.t 0) (.seq (.ops [W 2 (.take (kk .u64 0)), W 3 (.take (ki 1))])
.ret) .skip)
(.seq (.ops [W 4 (.take (kk .u64 0))])
(.seq (.seq (.ops [W 5 (.mov (.x 0)), W 6 (.len (.x 5)), W 7 (.mov (ki 0))])
(.block 0 (.loop [8, 9] octs_Get.l0)))
(.seq (.ops [T (.take (.x 4)), W 2 (.take (.t 0)), W 3 (.take (ki 0))])
.ret))))) }
def octs_Get.m : List Nat := [0, 1, 4, 5, 6, 17, 18, 19, 7, 8]
def bytes_Equal.s : SFunc := { np := 2, nv := 3, res := [.var 2], code := (.seq (.ops [W 2 (.take (kb false))])
(.seq (.ops [T (.mov (.x 0)), T (.b2s (.t 0)), T (.mov (.x 1)), T (.b2s (.t 0)), T (.bin .eql (.t 2) (.t 0)), W 2 (.take (.t 0))])
.ret)) }
def bytes_Equal.m : List Nat := [0, 1, 4]
def fsm_Next.l0 : SCode := (.seq (.ifs [T (.bin .lss (.x 10) (.x 9))] (.t 0) .skip (.exit 0))
(.seq (.block 1 (.seq (.ops [T (.ia 1 (.x 8) (.x 10)), T (.load none (.t 0)), W 11 (.take (.t 0))])
(.ops [T (.take (.x 7)), T (.mov (.x 11)), T (.call false 119 [(.t 0)]), T (.lit 1 [(.t 0)]), T (.app 1 8 (.t 3) (.t 0)), W 7 (.take (.t 0))])))
(.ops [T (.bin .add (.x 10) (ki 1)), W 10 (.mov (.t 0))])))
def fsm_Next.s : SFunc := { np := 2, nv := 12, res := [.var 2, .var 3, .var 4], code := (.seq (.ops [W 2 (.take (ki 0)), W 3 (.take (kn 1)), W 4 (.take (ki 0))])
(.seq (.ifs [T (.mov (.x 0)), T (.call false 116 [(.t 0)]), T (.un .not (.t 0)), T (.mov (.t 0)), GT 0 false (.mov (.x 1)), GT 1 false (.bin .lss (.t 0) (ki 0)), T (.pick (.t 2) (kb true) (.t 0)), T (.mov (.t 0)), GT 0 false (.mov (.x 1)), GT 1 false (.bin .gtr (.t 0) (ki 15)), T (.pick (.t 2) (kb true) (.t 0))] (.t 0) (.seq (.ops [W 2 (.take (ki 0)), W 3 (.take (kn 1)), W 4 (.take (ki 1))])
.ret) .skip)
(.seq (.ops [T (.call false 118 []), T (.mov (.x 1)), T (.idxA 16 1 none (.t 1) (.t 0)), T (.call false 117 [(.t 0), (.c (.v (.str [124])))]), T (.mov (.x 0)), T (.ia 1 (.t 1) (.t 0)), T (.load none (.t 0)), W 5 (.take (.t 0))])
(.seq (.ifs [T (.mov (.x 5)), T (.bin .eql (.t 0) (.c (.v (.str [45]))))] (.t 0) (.seq (.ops [W 2 (.take (ki 0)), W 3 (.take (kn 1)), W 4 (.take (ki 11))])
.ret) .skip)
(.seq (.ops [T (.mov (.x 5)), T (.call false 117 [(.t 0), (.c (.v (.str [32])))]), W 6 (.take (.t 0))])
(.seq (.ops [W 7 (.take (kn 1))])
(.seq (.seq (.ops [T (.mov (.x 6)), T (.mov (.x 6)), T (.len (.t 0)), T (.bin .sub (.t 0) (ki 1)), W 8 (.sub 1 (.t 3) none (some (.t 0)) none), W 9 (.len (.x 8)), W 10 (.mov (ki 0))])
(.block 0 (.loop [11] fsm_Next.l0)))
(.seq (.ops [T (.mov (.x 6)), T (.mov (.x 6)), T (.len (.t 0)), T (.bin .sub (.t 0) (ki 1)), T (.ia 1 (.t 3) (.t 0)), T (.load none (.t 0)), T (.idx (.t 0) (ki 0)), T (.bin .sub (.t 0) (kk .u8 48)), T (.cvi .i64 (.t 0)), T (.take (.x 7)), W 2 (.take (.t 1)), W 3 (.take (.t 1)), W 4 (.take (ki 0))])
.ret)))))))) }
def fsm_Next.m : List Nat := [0, 1, 4, 5, 6, 7, 8, 9, 38, 39, 40, 11]
def nego_doer_do.s : SFunc := { np := 3, nv := 4, res := [], code := (.seq (.ops [W 3 (.mov (.x 1))])
(.block 0 (.seq (.block 12 (.seq (.block 11 (.seq (.block 10 (.seq (.block 9 (.block 8 (.seq (.block 7 (.seq (.block 6 (.seq (.block 5 (.seq (.block 4 (.seq (.block 3 (.seq (.block 2 (.seq (.block 1 (.seq (.seq (.ifs [T (.bin .eql (.x 3) (ki 1)), T (.take (.t 0))] (.t 0) (.exit 1) .skip)
(.seq (.ifs [T (.bin .eql (.x 3) (ki 2)), T (.take (.t 0))] (.t 0) (.exit 2) .skip)
(.seq (.ifs [T (.bin .eql (.x 3) (ki 3)), T (.take (.t 0))] (.t 0) (.exit 3) .skip)
(.seq (.ifs [T (.bin .eql (.x 3) (ki 4)), T (.take (.t 0))] (.t 0) (.exit 4) .skip)
(.seq (.ifs [T (.bin .eql (.x 3) (ki 5)), T (.take (.t 0))] (.t 0) (.exit 5) .skip)
(.seq (.ifs [T (.bin .eql (.x 3) (ki 6)), T (.take (.t 0))] (.t 0) (.exit 6) .skip)
(.seq (.ifs [T (.bin .eql (.x 3) (ki 7)), T (.take (.t 0))] (.t 0) (.exit 7) .skip)
(.seq (.ifs [T (.bin .eql (.x 3) (ki 8)), T (.take (.t 0))] (.t 0) (.exit 8) .skip)
(.seq (.ifs [T (.bin .eql (.x 3) (ki 9)), T (.take (.t 0))] (.t 0) (.exit 9) .skip)
(.seq (.ifs [T (.bin .eql (.x 3) (ki 10)), T (.take (.t 0))] (.t 0) (.exit 10) .skip)
(.seq (.ifs [T (.bin .eql (.x 3) (ki 11)), T (.take (.t 0))] (.t 0) (.exit 11) .skip)
(.ifs [T (.bin .eql (.x 3) (ki 12)), T (.take (.t 0))] (.t 0) (.exit 12) .skip))))))))))))
(.exit 0)))
(.seq (.ops [T (.mov (.x 0)), T (.nck (.t 0)), T (.fa 17 (.t 0)), T (.fa 1 (.t 0)), N (.store 1 (.t 0) (kb true))])
(.exit 0))))
(.seq (.ops [T (.mov (.x 0)), T (.nck (.t 0)), T (.fa 17 (.t 0)), T (.fa 2 (.t 0)), N (.store 1 (.t 0) (kb true))])
(.exit 0))))
(.seq (.ops [T (.mov (.x 0)), T (.nck (.t 0)), T (.fa 17 (.t 0)), T (.fa 3 (.t 0)), N (.store 1 (.t 0) (kb true))])
(.exit 0))))
(.seq (.ops [T (.mov (.x 0)), T (.nck (.t 0)), T (.fa 17 (.t 0)), T (.fa 4 (.t 0)), N (.store 1 (.t 0) (kb true))])
(.exit 0))))
(.seq (.ops [T (.mov (.x 0)), T (.mov (.x 0)), T (.nck (.t 0)), T (.fa 0 (.t 0)), T (.fa 1 (.t 0)), T (.load (some 2) (.t 0)), T (.mov (.x 2)), T (.call false 120 [(.t 1), (.t 0)]), T (.nck (.t 7)), T (.fa 0 (.t 0)), T (.fa 1 (.t 0)), N (.store 2 (.t 0) (.t 3))])
(.exit 0))))
(.seq (.ops [T (.mov (.x 0)), T (.mov (.x 0)), T (.nck (.t 0)), T (.fa 0 (.t 0)), T (.fa 1 (.t 0)), T (.load (some 2) (.t 0)), T (.call false 121 [(.t 0)]), T (.nck (.t 6)), T (.fa 0 (.t 0)), T (.fa 1 (.t 0)), N (.store 2 (.t 0) (.t 3))])
(.exit 0))))
(.seq (.ops [T (.mov (.x 0)), T (.call true 122 [(.t 0)])])
(.exit 0)))))
(.seq (.ops [T (.mov (.x 0)), T (.mov (.x 0)), T (.nck (.t 0)), T (.fa 25 (.t 0)), T (.load (some 3) (.t 0)), T (.call true 123 [(.t 4), (.t 0)])])
(.exit 0))))
(.seq (.seq (.ops [T (.mov (.x 0)), T (.mov (.x 0)), T (.call true 124 [(.t 0)]), T (.build [.v (.int .u8 0), .v (.int .u8 0), .nils 1] [(0, 1, (kk .u8 5)), (1, 1, (.t 0))]), T (.call true 123 [(.t 3), (.t 0)])])
(.ops [T (.mov (.x 0)), T (.mov (.x 0)), T (.nck (.t 0)), T (.fa 0 (.t 0)), T (.fa 1 (.t 0)), T (.load (some 2) (.t 0)), T (.call false 125 [(.t 0)]), T (.nck (.t 6)), T (.fa 0 (.t 0)), T (.fa 1 (.t 0)), N (.store 2 (.t 0) (.t 3))]))
(.exit 0))))
(.seq (.ops [T (.mov (.x 0)), T (.mov (.x 0)), T (.nck (.t 0)), T (.fa 22 (.t 0)), T (.fa 1 (.t 0)), T (.load none (.t 0)), T (.build [.v (.int .u8 0), .v (.int .u8 0), .nils 1] [(0, 1, (kk .u8 6)), (1, 1, (.t 0))]), T (.call true 123 [(.t 6), (.t 0)])])
(.exit 0))))
(.seq (.ops [T (.mov (.x 0)), T (.mov (.x 0)), T (.callB 124 (.t 0) [((.x 0), 22, (some 3))]), T (.mov (.x 0)), T (.nck (.t 0)), T (.fa 22 (.t 0)), T (.loadF (.x 0) 22 (some 3) (.t 0)), T (.call false 126 [(.t 4), (.t 0), (ki 1400)]), T (.call true 123 [(.t 7), (.t 0)])])
(.exit 0))))) }
def nego_doer_do.m : List Nat := [0, 1, 2, 6]
def slices_Contains_fsm_Action.s : SFunc := { np := 2, nv := 3, res := [.var 2], code := (.seq (.ops [W 2 (.take (kb false))])
(.seq (.ops [T (.mov (.x 0)), T (.mov (.x 1)), T (.call false 127 [(.t 1), (.t 0)]), T (.bin .geq (.t 0) (ki 0)), W 2 (.take (.t 0))])
.ret)) }
def slices_Contains_fsm_Action.m : List Nat := [0, 1, 4]
def fsm_Timed.s : SFunc := { np := 1, nv := 3, res := [.var 1], code := (.seq (.ops [W 1 (.take (kb false))])
(.seq (.ops [T (.mov (.x 0)), T (.call false 82 [(.t 0), (ki 4)]), T (.take (.t 0)), T (.ext 0 (.t 0)), T (.ext 1 (.t 1)), T (.ext 2 (.t 2)), T (.take (.t 2)), T (.take (.t 2)), W 2 (.take (.t 2))])
(.seq (.ops [T (.mov (.x 2)), T (.bin .eql (.t 0) (ki 0)), W 1 (.take (.t 0))])
.ret))) }
def fsm_Timed.m : List Nat := [0, 2, 5]
def retry_Retry_Stop.s : SFunc := { np := 1, nv := 3, res := [.cell (some 2) 2], code := (.seq (.ops [W 1 (.box false (.x 0)), W 2 (.alloc false (.v (.agg [(.int .i64 0), (.int .i64 0)])))])
(.seq (.ops [T (.fa 0 (.x 1)), T (.load none (.t 0)), T (.build [.v (.int .i64 0), .v (.int .i64 0)] [(0, 1, (.t 0)), (1, 1, (ki 0))]), N (.store 2 (.x 2) (.t 0))])
.ret)) }
def retry_Retry_Stop.m : List Nat := [0, 1, 2]
def ctl_Options.s : SFunc := { np := 1, nv := 4, res := [.var 2, .var 3], code := (.seq (.ops [W 1 (.box false (.x 0)), W 2 (.take (kn 2)), W 3 (.take (ki 0))])
(.seq (.ifs [T (.fa 0 (.x 1)), T (.load none (.t 0)), T (.call false 128 [(.t 0)]), T (.un .not (.t 0))] (.t 0) (.seq (.ops [W 2 (.take (kn 2)), W 3 (.take (ki 9))])
.ret) .skip)
(.seq (.ops [T (.fa 2 (.x 1)), T (.load none (.t 0)), T (.call false 129 [(.t 0)]), T (.ext 0 (.t 0)), T (.ext 1 (.t 1)), W 2 (.take (.t 1)), W 3 (.take (.t 1))])
.ret))) }
def ctl_Options.m : List Nat := [0, 1, 2, 3]
def nego_Rules_judge.s : SFunc := { np := 2, nv := 5, res := [.var 3, .var 4], code := (.seq (.ops [W 2 (.box false (.x 0)), W 3 (.take (kk .u8 0)), W 4 (.take (kn 2))])
(.seq (.ifs [T (.fa 0 (.x 2)), T (.load none (.t 0))] (.t 0) (.seq (.ops [T (.fa 5 (.x 2)), T (.load (some 5) (.t 0)), T (.mov (.x 1)), T (.call false 130 [(.t 1), (.t 0)]), T (.ext 0 (.t 0)), T (.ext 1 (.t 1)), W 3 (.take (.t 1)), W 4 (.take (.t 1))])
.ret) .skip)
(.seq (.ops [T (.mov (.x 1)), T (.fa 4 (.x 2)), T (.load none (.t 0)), T (.fa 1 (.x 2)), T (.fa 1 (.t 0)), T (.load none (.t 0)), T (.fa 1 (.x 2)), T (.fa 1 (.t 0)), T (.load none (.t 0)), T (.mov (.x 1)), T (.call false 113 [(.t 0)]), T (.fld 1 none (.t 0)), T (.bin .add (.t 3) (.t 0)), T (.call false 44 [(.t 0)]), T (.call false 131 [(.t 13), (.t 11), (.t 8), (.t 0)]), T (.ext 0 (.t 0)), T (.ext 1 (.t 1)), W 3 (.take (.t 1)), W 4 (.take (.t 1))])
.ret))) }
def nego_Rules_judge.m : List Nat := [0, 1, 2, 4, 5]
def opts_Kinds.l0 : SCode := (.seq (.ifs [T (.bin .lss (.x 5) (.x 4))] (.t 0) .skip (.exit 0))
(.seq (.block 1 (.seq (.ops [T (.ia 2 (.x 3) (.x 5)), T (.load (some 2) (.t 0)), W 6 (.alloc false zz8), N (.store 2 (.x 6) (.t 1))])
(.ops [T (.take (.x 2)), T (.fa 0 (.x 6)), T (.load none (.t 0)), T (.lit 1 [(.t 0)]), T (.app 1 1 (.t 3) (.t 0)), W 2 (.take (.t 0))])))
(.ops [T (.bin .add (.x 5) (ki 1)), W 5 (.mov (.t 0))])))
def opts_Kinds.s : SFunc := { np := 1, nv := 7, res := [.var 1], code := (.seq (.ops [W 1 (.take (kn 1))])
(.seq (.ops [W 2 (.take (kn 1))])
(.seq (.seq (.ops [W 3 (.mov (.x 0)), W 4 (.len (.x 3)), W 5 (.mov (ki 0))])
(.block 0 (.loop [6] opts_Kinds.l0)))
(.seq (.ops [T (.take (.x 2)), W 1 (.take (.t 0))])
.ret)))) }
def opts_Kinds.m : List Nat := [0, 2, 3, 6, 7, 8, 5]
def slices_DeleteFunc_api_Option.l0 : SCode := (.seq (.ifs [T (.mov (.x 4)), T (.mov (.x 0)), T (.len (.t 0)), T (.bin .lss (.t 2) (.t 0))] (.t 0) .skip (.exit 0))
(.seq (.block 1 (.seq (.ops [T (.mov (.x 0)), T (.mov (.x 4)), T (.ia 2 (.t 1) (.t 0)), T (.load (some 2) (.t 0)), W 5 (.alloc false zz8), N (.store 2 (.x 5) (.t 1))])
(.ifs [T (.mov (.x 1)), T (.load (some 2) (.x 5)), T (.callv (.t 1) [(.t 0)]), T (.un .not (.t 0))] (.t 0) (.seq (.ops [T (.mov (.x 0)), T (.mov (.x 3)), T (.load (some 2) (.x 5)), T (.ia 2 (.t 2) (.t 1)), N (.store 2 (.t 0) (.t 1))])
(.ops [T (.mov (.x 3)), T (.bin .add (.t 0) (ki 1)), W 3 (.take (.t 0))])) .skip)))
(.ops [T (.mov (.x 4)), T (.bin .add (.t 0) (ki 1)), W 4 (.take (.t 0))])))
def slices_DeleteFunc_api_Option.s : SFunc := { np := 2, nv := 6, res := [.var 2], code := (.seq (.ops [W 2 (.take (kn 2))])
(.seq (.ops [T (.mov (.x 0)), T (.mov (.x 1)), T (.call true 132 [(.t 1), (.t 0)]), W 3 (.take (.t 0))])
(.seq (.ifs [T (.mov (.x 3)), T (.bin .eql (.t 0) (ki (-1)))] (.t 0) (.seq (.ops [T (.take (.x 0)), W 2 (.take (.t 0))])
.ret) .skip)
(.seq (.seq (.ops [T (.mov (.x 3)), T (.bin .add (.t 0) (ki 1)), W 4 (.take (.t 0))])
(.block 0 (.loop [5] slices_DeleteFunc_api_Option.l0)))
(.seq (.ops [T (.mov (.x 0)), T (.mov (.x 3)), T (.sub 2 (.t 1) (some (.t 0)) none none), N (.clr 2 zz8 (.t 0))])
(.seq (.ops [T (.mov (.x 0)), T (.mov (.x 3)), T (.sub 2 (.t 1) none (some (.t 0)) none), W 2 (.take (.t 0))])
.ret)))))) }
def slices_DeleteFunc_api_Option.m : List Nat := [0, 1, 4, 5, 6, 7]
def nego_Nego_asked_1.s : SFunc := { np := 2, nv := 4, res := [.var 3], code := (.seq (.ops [W 2 (.box false (.x 0)), W 3 (.take (kb false))])
(.seq (.ops [T (.load none (.x 1)), T (.fa 0 (.x 2)), T (.load none (.t 0)), T (.call false 93 [(.t 2), (.t 0)]), T (.un .not (.t 0)), W 3 (.take (.t 0))])
.ret)) }
def nego_Nego_asked_1.m : List Nat := [0, 1, 2, 3]
def slices_Contains_byte.s : SFunc := { np := 2, nv := 3, res := [.var 2], code := (.seq (.ops [W 2 (.take (kb false))])
(.seq (.ops [T (.mov (.x 0)), T (.mov (.x 1)), T (.call false 133 [(.t 1), (.t 0)]), T (.bin .geq (.t 0) (ki 0)), W 2 (.take (.t 0))])
.ret)) }
def slices_Contains_byte.m : List Nat := [0, 1, 4]
def ctl_Conf.s : SFunc := { np := 3, nv := 7, res := [.cell (some 3) 3, .var 4], code := (.seq (.ops [W 3 (.alloc false zz6), W 4 (.take (ki 0))])
(.seq (.ifs [T (.mov (.x 0)), T (.call false 128 [(.t 0)]), T (.un .not (.t 0))] (.t 0) (.seq (.ops [T (.build [.v (.int .u8 0), .v (.int .u8 0), .nils 1] []), N (.store 3 (.x 3) (.t 0)), W 4 (.take (ki 9))])
.ret) .skip)
(.seq (.ops [T (.mov (.x 2)), T (.call false 134 [(.t 0)]), T (.take (.t 0)), T (.ext 0 (.t 0)), T (.ext 1 (.t 1)), W 5 (.take (.t 1)), W 6 (.take (.t 1))])
(.seq (.ifs [T (.mov (.x 6)), T (.bin .neq (.t 0) (ki 0))] (.t 0) (.seq (.ops [T (.build [.v (.int .u8 0), .v (.int .u8 0), .nils 1] []), T (.take (.x 6)), N (.store 3 (.x 3) (.t 1)), W 4 (.take (.t 1))])
.ret) .skip)
(.seq (.ops [T (.mov (.x 0)), T (.mov (.x 1)), T (.mov (.x 5)), T (.build [.v (.int .u8 0), .v (.int .u8 0), .nils 1] [(0, 1, (.t 2)), (1, 1, (.t 1)), (2, 1, (.t 0))]), N (.store 3 (.x 3) (.t 0)), W 4 (.take (ki 0))])
.ret))))) }
def ctl_Conf.m : List Nat := [0, 1, 2, 6, 7, 8, 9]
def nego_Rules_naked.s : SFunc := { np := 2, nv := 4, res := [.cell (some 10) 3], code := (.seq (.ops [W 2 (.box false (.x 0)), W 3 (.alloc false zz1)])
(.seq (.ifs [T (.fa 0 (.x 2)), T (.load none (.t 0))] (.t 0) (.ops [T (.fa 5 (.x 2)), T (.load (some 5) (.t 0)), T (.mov (.x 1)), T (.call false 135 [(.t 1), (.t 0)]), T (.fa 5 (.x 2)), N (.store 5 (.t 0) (.t 1))]) (.ops [T (.fa 1 (.x 2)), T (.load (some 3) (.t 0)), T (.mov (.x 1)), T (.fa 1 (.x 2)), T (.fa 1 (.t 0)), T (.load none (.t 0)), T (.call false 44 [(.t 0)]), T (.call false 136 [(.t 5), (.t 4), (.t 0)]), T (.fa 1 (.x 2)), N (.store 3 (.t 0) (.t 1))]))
(.seq (.ops [T (.load (some 10) (.x 2)), N (.store 10 (.x 3) (.t 0))])
.ret))) }
def nego_Rules_naked.m : List Nat := [0, 1, 2, 4]
def opts_Among.l0 : SCode := (.seq (.ifs [T (.bin .lss (.x 5) (.x 4))] (.t 0) .skip (.exit 0))
(.seq (.block 1 (.seq (.ops [T (.ia 2 (.x 3) (.x 5)), T (.load (some 2) (.t 0)), W 6 (.alloc false zz8), N (.store 2 (.x 6) (.t 1))])
(.ifs [T (.mov (.x 0)), T (.len (.t 0)), T (.bin .gtr (.t 0) (ki 0)), T (.mov (.t 0)), GT 0 true (.mov (.x 0)), GT 1 true (.ia 2 (.t 0) (ki 0)), GT 2 true (.load (some 2) (.t 0)), GT 3 true (.load (some 2) (.x 6)), GT 4 true (.call false 46 [(.t 1), (.t 0)]), T (.pick (.t 5) (.t 0) (kb false))] (.t 0) (.ops [T (.mov (.x 0)), T (.sub 2 (.t 0) (some (ki 1)) none none), W 0 (.take (.t 0))]) .skip)))
(.ops [T (.bin .add (.x 5) (ki 1)), W 5 (.mov (.t 0))])))
def opts_Among.s : SFunc := { np := 2, nv := 7, res := [.var 2], code := (.seq (.ops [W 2 (.take (kb false))])
(.seq (.seq (.ops [W 3 (.mov (.x 1)), W 4 (.len (.x 3)), W 5 (.mov (ki 0))])
(.block 0 (.loop [6] opts_Among.l0)))
(.seq (.ops [T (.mov (.x 0)), T (.len (.t 0)), T (.bin .eql (.t 0) (ki 0)), W 2 (.take (.t 0))])
.ret))) }
def opts_Among.m : List Nat := [0, 1, 4, 7, 8, 9, 6]
def nego_Rules_rejected.s : SFunc := { np := 2, nv := 6, res := [.cell (some 10) 3, .var 4], code := (.seq (.ops [W 2 (.box false (.x 0)), W 3 (.alloc false zz1), W 4 (.take (kb false))])
(.seq (.ops [W 5 (.take (kb true))])
(.seq (.ifs [T (.fa 0 (.x 2)), T (.load none (.t 0))] (.t 0) (.ops [T (.fa 5 (.x 2)), T (.load (some 5) (.t 0)), T (.mov (.x 1)), T (.call false 137 [(.t 1), (.t 0)]), T (.take (.t 0)), T (.ext 0 (.t 0)), T (.ext 1 (.t 1)), T (.fa 5 (.x 2)), N (.store 5 (.t 0) (.t 2)), W 5 (.take (.t 2))]) (.ops [T (.fa 1 (.x 2)), T (.load (some 3) (.t 0)), T (.mov (.x 1)), T (.call false 138 [(.t 1), (.t 0)]), T (.take (.t 0)), T (.ext 0 (.t 0)), T (.ext 1 (.t 1)), T (.fa 1 (.x 2)), N (.store 3 (.t 0) (.t 2)), W 5 (.take (.t 2))]))
(.seq (.ops [T (.load (some 10) (.x 2)), T (.take (.x 5)), N (.store 10 (.x 3) (.t 1)), W 4 (.take (.t 1))])
.ret)))) }
def nego_Rules_rejected.m : List Nat := [0, 1, 2, 4, 5, 6]
def slices_Reverse_byte.l0 : SCode := (.seq (.ifs [T (.mov (.x 1)), T (.mov (.x 2)), T (.bin .lss (.t 1) (.t 0))] (.t 0) .skip (.exit 0))
(.seq (.block 1 (.ops [T (.mov (.x 0)), T (.mov (.x 1)), T (.mov (.x 0)), T (.mov (.x 2)), T (.mov (.x 0)), T (.mov (.x 2)), T (.ia 1 (.t 1) (.t 0)), T (.load none (.t 0)), T (.mov (.x 0)), T (.mov (.x 1)), T (.ia 1 (.t 1) (.t 0)), T (.load none (.t 0)), T (.ia 1 (.t 11) (.t 10)), N (.store 1 (.t 0) (.t 5)), T (.ia 1 (.t 11) (.t 10)), N (.store 1 (.t 0) (.t 3))]))
(.ops [T (.mov (.x 1)), T (.bin .add (.t 0) (ki 1)), T (.mov (.x 2)), T (.bin .sub (.t 0) (ki 1)), W 1 (.take (.t 2)), W 2 (.take (.t 1))])))
def slices_Reverse_byte.s : SFunc := { np := 1, nv := 3, res := [], code := (.seq (.ops [T (.mov (.x 0)), T (.len (.t 0)), T (.bin .sub (.t 0) (ki 1)), W 1 (.take (ki 0)), W 2 (.take (.t 1))])
(.block 0 (.loop [] slices_Reverse_byte.l0))) }
def slices_Reverse_byte.m : List Nat := [0, 2, 3]
def slices_Concat_byte.l1 : SCode := (.seq (.ifs [T (.bin .lss (.x 10) (.x 9))] (.t 0) .skip (.exit 2))
(.seq (.block 3 (.seq (.ops [T (.ia 1 (.x 8) (.x 10)), T (.load none (.t 0)), W 11 (.take (.t 0))])
(.ops [T (.take (.x 7)), T (.mov (.x 11)), T (.app 1 1 (.t 1) (.t 0)), W 7 (.take (.t 0))])))
(.ops [T (.bin .add (.x 10) (ki 1)), W 10 (.mov (.t 0))])))
def slices_Concat_byte.l0 : SCode := (.seq (.ifs [T (.bin .lss (.x 5) (.x 4))] (.t 0) .skip (.exit 0))
(.seq (.block 1 (.seq (.ops [T (.ia 1 (.x 3) (.x 5)), T (.load none (.t 0)), W 6 (.take (.t 0))])
(.seq (.ops [T (.mov (.x 2)), T (.mov (.x 6)), T (.len (.t 0)), T (.bin .add (.t 2) (.t 0)), W 2 (.take (.t 0))])
(.ifs [T (.mov (.x 2)), T (.bin .lss (.t 0) (ki 0))] (.t 0) (.ops [T (.mki 9 (.c (.v (.str [108, 101, 110, 32, 111, 117, 116, 32, 111, 102, 32, 114, 97, 110, 103, 101])))), N (.die)]) .skip))))
(.ops [T (.bin .add (.x 5) (ki 1)), W 5 (.mov (.t 0))])))
def slices_Concat_byte.s : SFunc := { np := 1, nv := 12, res := [.var 1], code := (.seq (.ops [W 1 (.take (kn 1))])
(.seq (.ops [W 2 (.take (ki 0))])
(.seq (.seq (.ops [W 3 (.mov (.x 0)), W 4 (.len (.x 3)), W 5 (.mov (ki 0))])
(.block 0 (.loop [6] slices_Concat_byte.l0)))
(.seq (.ops [T (.mov (.x 2)), T (.call true 139 [(kn 1), (.t 0)]), W 7 (.take (.t 0))])
(.seq (.seq (.ops [W 8 (.mov (.x 0)), W 9 (.len (.x 8)), W 10 (.mov (ki 0))])
(.block 2 (.loop [11] slices_Concat_byte.l1)))
(.seq (.ops [T (.take (.x 7)), W 1 (.take (.t 0))])
.ret)))))) }
def slices_Concat_byte.m : List Nat := [0, 2, 3, 9, 10, 11, 5, 6, 25, 26, 27, 8]
def bytes_Clone.s : SFunc := { np := 1, nv := 2, res := [.var 1], code := (.nilc 1 0 1 1 (.seq (.ops [W 1 (.take (kn 1))])
(.seq (.ifs [T (.mov (.x 0)), T (.eq .s false (.t 0) (kn 1))] (.t 0) (.seq (.ops [W 1 (.take (kn 1))])
.ret) .skip)
(.seq (.ops [T (.lit 1 []), T (.mov (.x 0)), T (.app 1 1 (.t 1) (.t 0)), W 1 (.take (.t 0))])
.ret)))) }
def bytes_Clone.m : List Nat := [0, 2]
def lcpo_Of.s : SFunc := { np := 1, nv := 8, res := [.cell (some 5) 1], code := (.seq (.ops [W 1 (.alloc false (.v (.agg [(.int .u16 0), (.int .u32 0), (.bool false), (.bool false), (.bool false)])))])
(.seq (.ops [T (.build [.v (.int .u16 0), .v (.int .u32 0), .v (.bool false), .v (.bool false), .v (.bool false)] [(0, 1, (kk .u16 1500))]), W 2 (.alloc false (.v (.agg [(.int .u16 0), (.int .u32 0), (.bool false), (.bool false), (.bool false)]))), N (.store 5 (.x 2) (.t 1))])
(.seq (.seq (.ops [T (.mov (.x 0)), T (.call false 155 [(.t 0), (kk .u8 1)]), T (.take (.t 0)), T (.ext 0 (.t 0)), T (.ext 1 (.t 1)), W 3 (.alloc false zz8), N (.store 2 (.x 3) (.t 2)), W 4 (.take (.t 2))])
(.ifs [T (.mov (.x 4))] (.t 0) (.ops [T (.load (some 2) (.x 3)), T (.call false 156 [(.t 0)]), T (.cvi .u16 (.t 0)), T (.fa 0 (.x 2)), N (.store 1 (.t 0) (.t 1))]) .skip))
(.seq (.seq (.ops [T (.mov (.x 0)), T (.call false 155 [(.t 0), (kk .u8 5)]), T (.take (.t 0)), T (.ext 0 (.t 0)), T (.ext 1 (.t 1)), W 5 (.alloc false zz8), N (.store 2 (.x 5) (.t 2)), W 6 (.take (.t 2))])
(.ifs [T (.mov (.x 6))] (.t 0) (.ops [T (.load (some 2) (.x 5)), T (.call false 156 [(.t 0)]), T (.cvi .u32 (.t 0)), T (.fa 1 (.x 2)), N (.store 1 (.t 0) (.t 1))]) .skip))
(.seq (.ops [T (.mov (.x 0)), T (.call false 155 [(.t 0), (kk .u8 3)]), T (.take (.t 0)), T (.ext 0 (.t 0)), T (.ext 1 (.t 1)), W 7 (.alloc false zz8), N (.store 2 (.x 7) (.t 2)), T (.take (.t 2))])
(.seq (.ops [T (.fa 1 (.x 7)), T (.load none (.t 0)), T (.call false 50 []), T (.call false 81 [(.t 1), (.t 0)]), T (.fa 2 (.x 2)), N (.store 1 (.t 0) (.t 1))])
(.seq (.ops [T (.mov (.x 0)), T (.call false 155 [(.t 0), (kk .u8 7)]), T (.take (.t 0)), T (.ext 0 (.t 0)), T (.ext 1 (.t 1)), T (.fa 3 (.x 2)), N (.store 1 (.t 0) (.t 1))])
(.seq (.ops [T (.mov (.x 0)), T (.call false 155 [(.t 0), (kk .u8 8)]), T (.take (.t 0)), T (.ext 0 (.t 0)), T (.ext 1 (.t 1)), T (.fa 4 (.x 2)), N (.store 1 (.t 0) (.t 1))])
(.seq (.ops [T (.load (some 5) (.x 2)), N (.store 5 (.x 1) (.t 0))])
.ret))))))))) }
def lcpo_Of.m : List Nat := [0, 2, 3, 4, 5, 6, 7, 8]
def fsm_State_ok.s : SFunc := { np := 1, nv := 2, res := [.var 1], code := (.seq (.ops [W 1 (.take (kb false))])
(.seq (.ops [T (.mov (.x 0)), T (.bin .geq (.t 0) (ki 0)), T (.mov (.t 0)), GT 0 true (.mov (.x 0)), GT 1 true (.bin .leq (.t 0) (ki 9)), T (.pick (.t 2) (.t 0) (kb false)), W 1 (.take (.t 0))])
.ret)) }
def fsm_State_ok.m : List Nat := [0, 2]
def fsm_rows.s : SFunc := { np := 0, nv := 1, res := [.cell (some 16) 0], code := (.seq (.ops [W 0 (.alloc false (.v (.agg (List.replicate 16 (.str [])))))])
(.seq (.ops [T (.build (List.replicate 16 (.v (.str []))) [(0, 1, (.c (.v (.str [50, 124, 105, 114, 99, 32, 115, 99, 114, 32, 54, 124, 45, 124, 45, 124, 45, 124, 45, 124, 45, 124, 45, 124, 45, 124, 45])))), (1, 1, (.c (.v (.str [45, 124, 45, 124, 48, 124, 116, 108, 115, 32, 49, 124, 48, 124, 49, 124, 49, 124, 49, 124, 49, 124, 116, 108, 100, 32, 49])))), (2, 1, (.c (.v (.str [116, 108, 115, 32, 49, 124, 49, 124, 105, 114, 99, 32, 115, 99, 114, 32, 54, 124, 51, 124, 53, 124, 53, 124, 54, 124, 55, 124, 56, 124, 57])))), (3, 1, (.c (.v (.str [48, 124, 116, 108, 102, 32, 48, 124, 50, 124, 50, 124, 52, 124, 52, 124, 105, 114, 99, 32, 115, 116, 114, 32, 52, 124, 105, 114, 99, 32, 115, 116, 114, 32, 52, 124, 105, 114, 99, 32, 115, 116, 114, 32, 52, 124, 116, 108, 100, 32, 105, 114, 99, 32, 115, 116, 114, 32, 52])))), (4, 1, (.c (.v (.str [45, 124, 45, 124, 45, 124, 45, 124, 115, 116, 114, 32, 52, 124, 115, 116, 114, 32, 53, 124, 115, 99, 114, 32, 54, 124, 115, 99, 114, 32, 54, 124, 115, 99, 114, 32, 56, 124, 45])))), (5, 1, (.c (.v (.str [45, 124, 45, 124, 45, 124, 45, 124, 116, 108, 102, 32, 50, 124, 116, 108, 102, 32, 51, 124, 116, 108, 102, 32, 51, 124, 116, 108, 102, 32, 51, 124, 116, 108, 102, 32, 51, 124, 45])))), (6, 1, (.c (.v (.str [45, 124, 45, 124, 115, 116, 97, 32, 50, 124, 105, 114, 99, 32, 115, 99, 114, 32, 115, 99, 97, 32, 56, 124, 52, 124, 53, 124, 115, 99, 97, 32, 56, 124, 115, 99, 97, 32, 116, 108, 117, 32, 57, 124, 115, 99, 97, 32, 56, 124, 116, 108, 100, 32, 115, 99, 114, 32, 115, 99, 97, 32, 56])))), (7, 1, (.c (.v (.str [45, 124, 45, 124, 115, 116, 97, 32, 50, 124, 105, 114, 99, 32, 115, 99, 114, 32, 115, 99, 110, 32, 54, 124, 52, 124, 53, 124, 115, 99, 110, 32, 54, 124, 115, 99, 110, 32, 55, 124, 115, 99, 110, 32, 54, 124, 116, 108, 100, 32, 115, 99, 114, 32, 115, 99, 110, 32, 54])))), (8, 1, (.c (.v (.str [45, 124, 45, 124, 115, 116, 97, 32, 50, 124, 115, 116, 97, 32, 51, 124, 52, 124, 53, 124, 105, 114, 99, 32, 55, 124, 115, 99, 114, 32, 54, 124, 105, 114, 99, 32, 116, 108, 117, 32, 57, 124, 116, 108, 100, 32, 115, 99, 114, 32, 54])))), (9, 1, (.c (.v (.str [45, 124, 45, 124, 115, 116, 97, 32, 50, 124, 115, 116, 97, 32, 51, 124, 52, 124, 53, 124, 105, 114, 99, 32, 115, 99, 114, 32, 54, 124, 115, 99, 114, 32, 54, 124, 105, 114, 99, 32, 115, 99, 114, 32, 56, 124, 116, 108, 100, 32, 115, 99, 114, 32, 54])))), (10, 1, (.c (.v (.str [45, 124, 45, 124, 115, 116, 97, 32, 50, 124, 115, 116, 97, 32, 51, 124, 115, 116, 97, 32, 52, 124, 115, 116, 97, 32, 53, 124, 115, 116, 97, 32, 54, 124, 115, 116, 97, 32, 54, 124, 115, 116, 97, 32, 54, 124, 116, 108, 100, 32, 122, 114, 99, 32, 115, 116, 97, 32, 53])))), (11, 1, (.c (.v (.str [45, 124, 45, 124, 50, 124, 51, 124, 116, 108, 102, 32, 50, 124, 116, 108, 102, 32, 51, 124, 54, 124, 54, 124, 56, 124, 116, 108, 100, 32, 115, 99, 114, 32, 54])))), (12, 1, (.c (.v (.str [45, 124, 45, 124, 115, 99, 106, 32, 50, 124, 115, 99, 106, 32, 51, 124, 115, 99, 106, 32, 52, 124, 115, 99, 106, 32, 53, 124, 115, 99, 106, 32, 54, 124, 115, 99, 106, 32, 55, 124, 115, 99, 106, 32, 56, 124, 115, 99, 106, 32, 57])))), (13, 1, (.c (.v (.str [45, 124, 45, 124, 50, 124, 51, 124, 52, 124, 53, 124, 54, 124, 54, 124, 56, 124, 57])))), (14, 1, (.c (.v (.str [45, 124, 45, 124, 116, 108, 102, 32, 50, 124, 116, 108, 102, 32, 51, 124, 116, 108, 102, 32, 50, 124, 116, 108, 102, 32, 51, 124, 116, 108, 102, 32, 51, 124, 116, 108, 102, 32, 51, 124, 116, 108, 102, 32, 51, 124, 116, 108, 100, 32, 105, 114, 99, 32, 115, 116, 114, 32, 53])))), (15, 1, (.c (.v (.str [45, 124, 45, 124, 50, 124, 51, 124, 52, 124, 53, 124, 54, 124, 55, 124, 56, 124, 115, 101, 114, 32, 57]))))]), N (.store 16 (.x 0) (.t 0))])
.ret)) }
def fsm_rows.m : List Nat := [0]
def fsm_action.s : SFunc := { np := 1, nv := 2, res := [.var 1], code := (.seq (.ops [W 1 (.take (ki 0))])
(.seq (.ops [T (.mov (.x 0)), T (.call false 159 [(.c (.v (.str [116, 108, 117, 32, 116, 108, 100, 32, 116, 108, 115, 32, 116, 108, 102, 32, 105, 114, 99, 32, 122, 114, 99, 32, 115, 99, 114, 32, 115, 99, 97, 32, 115, 99, 110, 32, 115, 116, 114, 32, 115, 116, 97, 32, 115, 99, 106, 32, 115, 101, 114]))), (.t 0)]), T (.bin .quo (.t 0) (ki 4)), T (.bin .add (.t 0) (ki 1)), W 1 (.take (.t 0))])
.ret)) }
def fsm_action.m : List Nat := [0, 2]
def retry_Retry_Init.s : SFunc := { np := 2, nv := 4, res := [.cell (some 2) 3], code := (.seq (.ops [W 2 (.box false (.x 0)), W 3 (.alloc false (.v (.agg [(.int .i64 0), (.int .i64 0)])))])
(.seq (.ops [T (.fa 0 (.x 2)), N (.store 1 (.t 0) (ki 10))])
(.seq (.ifs [T (.mov (.x 1))] (.t 0) (.ops [T (.fa 0 (.x 2)), N (.store 1 (.t 0) (ki 2))]) .skip)
(.seq (.ops [T (.load (some 2) (.x 2)), N (.store 2 (.x 3) (.t 0))])
.ret)))) }
def retry_Retry_Init.m : List Nat := [0, 1, 2, 4]
def retry_Retry_Zero.s : SFunc := { np := 1, nv := 2, res := [.cell (some 2) 1], code := (.seq (.ops [T (.box false (.x 0)), W 1 (.alloc false (.v (.agg [(.int .i64 0), (.int .i64 0)])))])
(.seq (.ops [T (.build [.v (.int .i64 0), .v (.int .i64 0)] [(0, 1, (ki 0)), (1, 1, (ki 3))]), N (.store 2 (.x 1) (.t 0))])
.ret)) }
def retry_Retry_Zero.m : List Nat := [0, 2]
def nego_doer_request.s : SFunc := { np := 1, nv := 2, res := [], code := (.seq (.ops [T (.mov (.x 0)), T (.mov (.x 0)), T (.nck (.t 0)), T (.fa 0 (.t 0)), T (.fa 5 (.t 0)), T (.load (some 10) (.t 0)), T (.call false 160 [(.t 0)]), T (.nck (.t 6)), T (.fa 0 (.t 0)), T (.fa 4 (.t 0)), N (.store 1 (.t 0) (.t 3))])
(.seq (.ops [T (.mov (.x 0)), T (.callB 124 (.t 0) [((.x 0), 4, none)]), T (.mov (.x 0)), T (.nck (.t 0)), T (.fa 0 (.t 0)), T (.fa 4 (.t 0)), T (.loadF (.x 0) 4 none (.t 0)), T (.call false 94 [(kk .u8 1), (.t 5), (.t 0)]), T (.take (.t 0)), T (.ext 0 (.t 0)), T (.ext 1 (.t 1)), W 1 (.alloc false zz6), N (.store 3 (.x 1) (.t 2)), T (.take (.t 2))])
(.seq (.ops [T (.mov (.x 0)), T (.load (some 3) (.x 1)), T (.call true 123 [(.t 1), (.t 0)])])
(.ops [T (.mov (.x 0)), T (.mov (.x 0)), T (.nck (.t 0)), T (.fa 0 (.t 0)), T (.fa 1 (.t 0)), T (.load (some 2) (.t 0)), T (.call false 125 [(.t 0)]), T (.nck (.t 6)), T (.fa 0 (.t 0)), T (.fa 1 (.t 0)), N (.store 2 (.t 0) (.t 3))])))) }
def nego_doer_request.m : List Nat := [0, 2]
def nego_doer_send.s : SFunc := { np := 2, nv := 3, res := [], code := (.seq (.ops [W 2 (.box false (.x 1))])
(.ops [T (.mov (.x 0)), T (.mov (.x 0)), T (.nck (.t 0)), T (.fa 17 (.t 0)), T (.fa 0 (.t 0)), T (.loadT (.t 0) [(.x 2)]), T (.load (some 3) (.x 2)), T (.lit 3 [(.t 0)]), T (.app 3 32 (.t 2) (.t 0)), T (.nck (.t 8)), T (.fa 17 (.t 0)), T (.fa 0 (.t 0)), N (.store 1 (.t 0) (.t 3))])) }
def nego_doer_send.m : List Nat := [0, 1, 3]
def nego_doer_next.s : SFunc := { np := 1, nv := 2, res := [.var 1], code := (.seq (.ops [W 1 (.take (kk .u8 0))])
(.seq (.ops [T (.mov (.x 0)), T (.nck (.t 0)), T (.fa 0 (.t 0)), T (.fa 3 (.t 0)), T (.load none (.t 0)), T (.bin .add (.t 0) (kk .u8 1)), T (.nck (.t 5)), T (.fa 0 (.t 0)), T (.fa 3 (.t 0)), N (.store 1 (.t 0) (.t 3))])
(.seq (.ops [T (.mov (.x 0)), T (.nck (.t 0)), T (.fa 0 (.t 0)), T (.fa 3 (.t 0)), T (.load none (.t 0)), W 1 (.take (.t 0))])
.ret))) }
def nego_doer_next.m : List Nat := [0, 2]
def retry_Retry_Sent.s : SFunc := { np := 1, nv := 3, res := [.cell (some 2) 2], code := (.seq (.ops [W 1 (.box false (.x 0)), W 2 (.alloc false (.v (.agg [(.int .i64 0), (.int .i64 0)])))])
(.seq (.ops [T (.fa 0 (.x 1)), T (.load none (.t 0)), T (.mx (.t 0) (ki 1)), T (.bin .sub (.t 0) (ki 1)), T (.build [.v (.int .i64 0), .v (.int .i64 0)] [(0, 1, (.t 0)), (1, 1, (ki 3))]), N (.store 2 (.x 2) (.t 0))])
.ret)) }
def retry_Retry_Sent.m : List Nat := [0, 1, 2]
def ctl_Reject.s : SFunc := { np := 3, nv := 6, res := [.cell (some 3) 4], code := (.seq (.ops [W 3 (.box false (.x 1)), W 4 (.alloc false zz6)])
(.seq (.ops [T (.load (some 3) (.x 3)), T (.call false 21 [(.t 0)]), T (.take (.t 0)), T (.ext 0 (.t 0)), T (.ext 1 (.t 1)), W 5 (.take (.t 1)), T (.take (.t 1))])
(.seq (.ops [T (.mov (.x 0)), T (.mov (.x 5)), T (.mov (.x 2)), T (.call false 161 [(.t 1), (.t 0)]), T (.build [.v (.int .u8 0), .v (.int .u8 0), .nils 1] [(0, 1, (kk .u8 7)), (1, 1, (.t 3)), (2, 1, (.t 0))]), N (.store 3 (.x 4) (.t 0))])
.ret))) }
def ctl_Reject.m : List Nat := [0, 1, 2, 4, 6, 7]
def slices_Index_fsm_Action.l0 : SCode := (.seq (.ifs [T (.bin .lss (.x 4) (.x 3))] (.t 0) .skip (.exit 0))
(.seq (.block 1 (.seq (.ops [T (.mov (.x 4)), W 5 (.take (.t 0))])
(.ifs [T (.mov (.x 1)), T (.mov (.x 0)), T (.mov (.x 5)), T (.ia 1 (.t 1) (.t 0)), T (.load none (.t 0)), T (.bin .eql (.t 4) (.t 0))] (.t 0) (.seq (.ops [T (.take (.x 5)), W 2 (.take (.t 0))])
.ret) .skip)))
(.ops [T (.bin .add (.x 4) (ki 1)), W 4 (.mov (.t 0))])))
def slices_Index_fsm_Action.s : SFunc := { np := 2, nv := 6, res := [.var 2], code := (.seq (.ops [W 2 (.take (ki 0))])
(.seq (.seq (.ops [T (.mov (.x 0)), W 3 (.len (.t 0)), W 4 (.mov (ki 0))])
(.block 0 (.loop [5] slices_Index_fsm_Action.l0)))
(.seq (.ops [W 2 (.take (ki (-1)))])
.ret))) }
def slices_Index_fsm_Action.m : List Nat := [0, 1, 4, 7, 8, 5]
def ctl_isConf.s : SFunc := { np := 1, nv := 2, res := [.var 1], code := (.seq (.ops [W 1 (.take (kb false))])
(.seq (.ops [T (.mov (.x 0)), T (.bin .geq (.t 0) (kk .u8 1)), T (.mov (.t 0)), GT 0 true (.mov (.x 0)), GT 1 true (.bin .leq (.t 0) (kk .u8 4)), T (.pick (.t 2) (.t 0) (kb false)), W 1 (.take (.t 0))])
.ret)) }
def ctl_isConf.m : List Nat := [0, 2]
def opts_Parse.l0 : SCode := (.seq (.ifs [T (.mov (.x 0)), T (.len (.t 0)), T (.bin .gtr (.t 0) (ki 0))] (.t 0) .skip (.exit 0))
(.block 1 (.seq (.ifs [T (.mov (.x 3)), T (.len (.t 0)), T (.bin .eql (.t 0) (ki 32))] (.t 0) (.seq (.ops [W 1 (.take (kn 2)), W 2 (.take (ki 5))])
.ret) .skip)
(.seq (.ops [T (.mov (.x 0)), T (.call false 162 [(.t 0)]), T (.take (.t 0)), T (.ext 0 (.t 0)), T (.ext 1 (.t 1)), T (.ext 2 (.t 2)), W 4 (.alloc false zz8), N (.store 2 (.x 4) (.t 3)), W 5 (.take (.t 3)), W 6 (.take (.t 3))])
(.seq (.ifs [T (.mov (.x 6)), T (.bin .neq (.t 0) (ki 0))] (.t 0) (.seq (.ops [T (.take (.x 6)), W 1 (.take (kn 2)), W 2 (.take (.t 1))])
.ret) .skip)
(.seq (.ops [T (.take (.x 3)), T (.load (some 2) (.x 4)), T (.lit 2 [(.t 0)]), T (.app 2 32 (.t 2) (.t 0)), W 3 (.take (.t 0))])
(.ops [T (.mov (.x 0)), T (.mov (.x 5)), T (.sub 1 (.t 1) (some (.t 0)) none none), W 0 (.take (.t 0))])))))))
def opts_Parse.s : SFunc := { np := 1, nv := 7, res := [.var 1, .var 2], code := (.seq (.ops [W 1 (.take (kn 2)), W 2 (.take (ki 0))])
(.seq (.ops [W 3 (.take (kn 2))])
(.seq (.block 0 (.loop [4, 5, 6] opts_Parse.l0))
(.seq (.ops [T (.take (.x 3)), W 1 (.take (.t 0)), W 2 (.take (ki 0))])
.ret)))) }
def opts_Parse.m : List Nat := [0, 2, 3, 4, 5, 6, 7]
def ipcpo_Judge.l1 : SCode := (.block 1 (.seq (.ops [T (.load (some 5) (.x 4)), T (.load (some 2) (.x 12)), T (.call false 164 [(.t 1), (.t 0)]), T (.take (.t 0)), T (.ext 0 (.t 0)), T (.ext 1 (.t 1)), W 13 (.alloc false zz8), W 14 (.take (.t 2)), N (.store 2 (.x 13) (.t 2))])
(.seq (.ops [T (.load none (.x 5)), T (.mov (.x 11)), T (.sub 2 (.t 1) none (some (.t 0)) none), T (.fa 0 (.x 12)), T (.load none (.t 0)), T (.call false 165 [(.t 2), (.t 0)]), T (.take (.t 0)), T (.ext 0 (.t 0)), T (.ext 1 (.t 1)), T (.alloc false zz8), N (.store 2 (.t 0) (.t 2)), W 15 (.take (.t 2))])
(.block 2 (.ifs [T (.mov (.x 15)), T (.mov (.t 0)), GT 0 false (.mov (.x 14)), GT 1 false (.bin .eql (.t 0) (kk .u8 4)), T (.pick (.t 2) (kb true) (.t 0)), T (.take (.t 0))] (.t 0) (.ops [T (.loadT (.x 8) []), T (.load (some 2) (.x 12)), T (.lit 2 [(.t 0)]), T (.app 2 32 (.t 2) (.t 0)), N (.store 1 (.x 8) (.t 0))]) (.ifs [T (.mov (.x 14)), T (.bin .eql (.t 0) (kk .u8 3)), T (.take (.t 0))] (.t 0) (.ops [T (.loadT (.x 9) []), T (.load (some 2) (.x 13)), T (.lit 2 [(.t 0)]), T (.app 2 32 (.t 2) (.t 0)), N (.store 1 (.x 9) (.t 0))]) .skip))))))
def ipcpo_Judge.l0 : SCode := (.seq (.ops [W 11 (.take (.x 2))])
(.ops [W 12 (.alloc false zz8), N (.store 2 (.x 12) (.x 3))]))
def ipcpo_Judge.s : SFunc := { np := 2, nv := 16, res := [.var 6, .var 7], code := (.seq (.ops [W 4 (.box false (.x 0)), W 5 (.box false (.x 1)), W 6 (.take (kk .u8 0)), W 7 (.take (kn 2))])
(.seq (.ops [W 8 (.alloc false (.nils 2)), W 9 (.alloc false (.nils 2))])
(.seq (.seq (.ops [T (.load none (.x 5)), W 10 (.call true 163 [(.t 0)])])
(.block 0 (.range 2 184 10 [2, 3] ipcpo_Judge.l0 ipcpo_Judge.l1)))
(.seq (.block 3 (.ifs [T (.load none (.x 8)), T (.len (.t 0)), T (.bin .gtr (.t 0) (ki 0)), T (.take (.t 0))] (.t 0) (.seq (.ops [T (.load none (.x 8)), W 6 (.take (kk .u8 4)), W 7 (.take (.t 1))])
.ret) (.ifs [T (.load none (.x 9)), T (.len (.t 0)), T (.bin .gtr (.t 0) (ki 0)), T (.take (.t 0))] (.t 0) (.seq (.ops [T (.load none (.x 9)), W 6 (.take (kk .u8 3)), W 7 (.take (.t 1))])
.ret) .skip)))
(.seq (.ops [T (.load none (.x 5)), T (.call true 47 [(.t 0)]), W 6 (.take (kk .u8 2)), W 7 (.take (.t 1))])
.ret))))) }
def ipcpo_Judge.m : List Nat := [0, 1, 16, 17, 2, 3, 4, 5, 6, 7, 15, 8, 9, 11, 10, 13]
def lcpo_Judge.l0 : SCode := (.seq (.ifs [T (.bin .lss (.x 11) (.x 10))] (.t 0) .skip (.exit 0))
(.seq (.block 1 (.seq (.ops [T (.ia 2 (.x 9) (.x 11)), T (.load (some 2) (.t 0)), W 12 (.alloc false zz8), N (.store 2 (.x 12) (.t 1))])
(.seq (.seq (.ops [T (.load (some 2) (.x 12)), T (.mov (.x 2)), T (.mov (.x 3)), T (.call false 166 [(.t 2), (.t 1), (.t 0)]), T (.take (.t 0)), T (.ext 0 (.t 0)), T (.ext 1 (.t 1)), W 13 (.alloc false zz8), N (.store 2 (.x 13) (.t 2)), W 14 (.take (.t 2))])
(.ifs [T (.load (some 2) (.x 12)), T (.call false 167 [(.t 0)]), T (.un .not (.t 0)), T (.mov (.t 0)), GT 0 false (.mov (.x 8)), GT 1 false (.fa 0 (.x 12)), GT 2 false (.load none (.t 0)), GT 3 false (.look 1 false (.v (.bool false)) (.t 2) (.t 0)), T (.pick (.t 4) (kb true) (.t 0)), T (.mov (.t 0)), GT 0 false (.fa 0 (.x 12)), GT 1 false (.load none (.t 0)), GT 2 false (.bin .eql (.t 0) (kk .u8 3)), GT 3 false (.mov (.t 0)), GT 0 true (.mov (.x 1)), GT 1 true (.un .not (.t 0)), GT 6 false (.pick (.t 2) (.t 0) (kb false)), T (.pick (.t 7) (kb true) (.t 0))] (.t 0) (.ops [T (.take (.x 6)), T (.load (some 2) (.x 12)), T (.lit 2 [(.t 0)]), T (.app 2 32 (.t 2) (.t 0)), W 6 (.take (.t 0))]) (.ifs [T (.mov (.x 14))] (.t 0) (.ops [T (.take (.x 7)), T (.load (some 2) (.x 13)), T (.lit 2 [(.t 0)]), T (.app 2 32 (.t 2) (.t 0)), W 7 (.take (.t 0))]) .skip)))
(.ops [T (.mov (.x 8)), T (.fa 0 (.x 12)), T (.load none (.t 0)), N (.mupd 1 (.t 2) (.t 0) (kb true))]))))
(.ops [T (.bin .add (.x 11) (ki 1)), W 11 (.mov (.t 0))])))
def lcpo_Judge.s : SFunc := { np := 4, nv := 15, res := [.var 4, .var 5], code := (.seq (.ops [W 4 (.take (kk .u8 0)), W 5 (.take (kn 2))])
(.seq (.ops [W 6 (.take (kn 2)), W 7 (.take (kn 2))])
(.seq (.ops [T (.mkmap false), W 8 (.take (.t 0))])
(.seq (.seq (.ops [W 9 (.mov (.x 0)), W 10 (.len (.x 9)), W 11 (.mov (ki 0))])
(.block 0 (.loop [12, 13, 14] lcpo_Judge.l0)))
(.seq (.block 2 (.ifs [T (.mov (.x 6)), T (.len (.t 0)), T (.bin .gtr (.t 0) (ki 0)), T (.take (.t 0))] (.t 0) (.seq (.ops [T (.take (.x 6)), W 4 (.take (kk .u8 4)), W 5 (.take (.t 1))])
.ret) (.ifs [T (.mov (.x 7)), T (.len (.t 0)), T (.bin .gtr (.t 0) (ki 0)), T (.take (.t 0))] (.t 0) (.seq (.ops [T (.take (.x 7)), W 4 (.take (kk .u8 3)), W 5 (.take (.t 1))])
.ret) .skip)))
(.seq (.ops [T (.mov (.x 0)), T (.call true 47 [(.t 0)]), W 4 (.take (kk .u8 2)), W 5 (.take (.t 1))])
.ret)))))) }
def lcpo_Judge.m : List Nat := [0, 1, 2, 3, 8, 9, 10, 11, 12, 18, 19, 20, 14, 15, 16]
def slices_IndexFunc_api_Option.l0 : SCode := (.seq (.ifs [T (.bin .lss (.x 4) (.x 3))] (.t 0) .skip (.exit 0))
(.seq (.block 1 (.seq (.ops [T (.mov (.x 4)), W 5 (.take (.t 0))])
(.ifs [T (.mov (.x 1)), T (.mov (.x 0)), T (.mov (.x 5)), T (.ia 2 (.t 1) (.t 0)), T (.load (some 2) (.t 0)), T (.callv (.t 4) [(.t 0)])] (.t 0) (.seq (.ops [T (.take (.x 5)), W 2 (.take (.t 0))])
.ret) .skip)))
(.ops [T (.bin .add (.x 4) (ki 1)), W 4 (.mov (.t 0))])))
def slices_IndexFunc_api_Option.s : SFunc := { np := 2, nv := 6, res := [.var 2], code := (.seq (.ops [W 2 (.take (ki 0))])
(.seq (.seq (.ops [T (.mov (.x 0)), W 3 (.len (.t 0)), W 4 (.mov (ki 0))])
(.block 0 (.loop [5] slices_IndexFunc_api_Option.l0)))
(.seq (.ops [W 2 (.take (ki (-1)))])
.ret))) }
def slices_IndexFunc_api_Option.m : List Nat := [0, 1, 4, 7, 8, 5]
def slices_Index_byte.l0 : SCode := (.seq (.ifs [T (.bin .lss (.x 4) (.x 3))] (.t 0) .skip (.exit 0))
(.seq (.block 1 (.seq (.ops [T (.mov (.x 4)), W 5 (.take (.t 0))])
(.ifs [T (.mov (.x 1)), T (.mov (.x 0)), T (.mov (.x 5)), T (.ia 1 (.t 1) (.t 0)), T (.load none (.t 0)), T (.bin .eql (.t 4) (.t 0))] (.t 0) (.seq (.ops [T (.take (.x 5)), W 2 (.take (.t 0))])
.ret) .skip)))
(.ops [T (.bin .add (.x 4) (ki 1)), W 4 (.mov (.t 0))])))
def slices_Index_byte.s : SFunc := { np := 2, nv := 6, res := [.var 2], code := (.seq (.ops [W 2 (.take (ki 0))])
(.seq (.seq (.ops [T (.mov (.x 0)), W 3 (.len (.t 0)), W 4 (.mov (ki 0))])
(.block 0 (.loop [5] slices_Index_byte.l0)))
(.seq (.ops [W 2 (.take (ki (-1)))])
.ret))) }
def slices_Index_byte.m : List Nat := [0, 1, 4, 7, 8, 5]
def opts_Lay.l0 : SCode := (.seq (.ifs [T (.bin .lss (.x 6) (.x 5))] (.t 0) .skip (.exit 0))
(.seq (.block 1 (.seq (.ops [T (.ia 2 (.x 4) (.x 6)), T (.load (some 2) (.t 0)), W 7 (.alloc false zz8), N (.store 2 (.x 7) (.t 1))])
(.seq (.ifs [T (.fa 1 (.x 7)), T (.load none (.t 0)), T (.len (.t 0)), T (.bin .gtr (.t 0) (ki 253))] (.t 0) (.seq (.ops [W 1 (.take (kn 1)), W 2 (.take (ki 8))])
.ret) .skip)
(.seq (.ops [T (.take (.x 3)), T (.fa 0 (.x 7)), T (.load none (.t 0)), T (.fa 1 (.x 7)), T (.load none (.t 0)), T (.len (.t 0)), T (.bin .add (ki 2) (.t 0)), T (.cvi .u8 (.t 0)), T (.lit 1 [(.t 5), (.t 0)]), T (.app 1 1 (.t 8) (.t 0)), W 3 (.take (.t 0))])
(.ops [T (.take (.x 3)), T (.fa 1 (.x 7)), T (.load none (.t 0)), T (.app 1 1 (.t 2) (.t 0)), W 3 (.take (.t 0))])))))
(.ops [T (.bin .add (.x 6) (ki 1)), W 6 (.mov (.t 0))])))
def opts_Lay.s : SFunc := { np := 1, nv := 8, res := [.var 1, .var 2], code := (.seq (.ops [W 1 (.take (kn 1)), W 2 (.take (ki 0))])
(.seq (.ifs [T (.mov (.x 0)), T (.len (.t 0)), T (.bin .gtr (.t 0) (ki 32))] (.t 0) (.seq (.ops [W 1 (.take (kn 1)), W 2 (.take (ki 5))])
.ret) .skip)
(.seq (.ops [W 3 (.take (kn 1))])
(.seq (.seq (.ops [W 4 (.mov (.x 0)), W 5 (.len (.x 4)), W 6 (.mov (ki 0))])
(.block 0 (.loop [7] opts_Lay.l0)))
(.seq (.ops [T (.take (.x 3)), W 1 (.take (.t 0)), W 2 (.take (ki 0))])
.ret))))) }
def opts_Lay.m : List Nat := [0, 2, 3, 4, 10, 11, 12, 6]
def ipcpo_Naked.s : SFunc := { np := 2, nv := 4, res := [.cell (some 5) 3], code := (.seq (.ops [W 2 (.box false (.x 0)), W 3 (.alloc false (.v (.agg [(.bool false), (.int .u32 0), (.int .u32 0), (.int .u32 0), (.bool false)])))])
(.seq (.ifs [T (.fa 0 (.x 2)), T (.load none (.t 0))] (.t 0) (.seq (.ops [T (.load (some 5) (.x 2)), N (.store 5 (.x 3) (.t 0))])
.ret) .skip)
(.seq (.ops [T (.mov (.x 1)), T (.fa 1 (.x 2)), T (.load none (.t 0)), T (.call false 168 [(.t 2), (kk .u8 3), (.t 0)]), T (.fa 1 (.x 2)), N (.store 1 (.t 0) (.t 1))])
(.seq (.ifs [T (.fa 4 (.x 2)), T (.load none (.t 0))] (.t 0) (.ops [T (.mov (.x 1)), T (.fa 3 (.x 2)), T (.load none (.t 0)), T (.call false 168 [(.t 2), (kk .u8 129), (.t 0)]), T (.fa 3 (.x 2)), N (.store 1 (.t 0) (.t 1))]) .skip)
(.seq (.ops [T (.load (some 5) (.x 2)), N (.store 5 (.x 3) (.t 0))])
.ret))))) }
def ipcpo_Naked.m : List Nat := [0, 1, 2, 4]
def lcpo_Naked.s : SFunc := { np := 3, nv := 9, res := [.cell (some 3) 4], code := (.seq (.ops [W 3 (.box false (.x 0)), W 4 (.alloc false (.v (.agg [(.int .u16 0), (.int .u32 0), (.bool false)])))])
(.seq (.seq (.ops [T (.mov (.x 1)), T (.call false 155 [(.t 0), (kk .u8 1)]), T (.take (.t 0)), T (.ext 0 (.t 0)), T (.ext 1 (.t 1)), W 5 (.alloc false zz8), N (.store 2 (.x 5) (.t 2)), W 6 (.take (.t 2))])
(.ifs [T (.mov (.x 6))] (.t 0) (.seq (.ops [T (.load (some 2) (.x 5)), T (.call false 156 [(.t 0)]), T (.cvi .u16 (.t 0)), W 7 (.take (.t 0))])
(.ifs [T (.mov (.x 7)), T (.bin .geq (.t 0) (kk .u16 128)), T (.mov (.t 0)), GT 0 true (.fa 0 (.x 3)), GT 1 true (.load none (.t 0)), GT 2 true (.bin .eql (.t 0) (kk .u16 0)), GT 3 true (.mov (.t 0)), GT 0 false (.mov (.x 7)), GT 1 false (.fa 0 (.x 3)), GT 2 false (.load none (.t 0)), GT 3 false (.bin .leq (.t 2) (.t 0)), GT 8 true (.pick (.t 4) (kb true) (.t 0)), T (.pick (.t 9) (.t 0) (kb false))] (.t 0) (.ops [T (.mov (.x 7)), T (.fa 0 (.x 3)), N (.store 1 (.t 0) (.t 1))]) .skip)) .skip))
(.seq (.seq (.ops [T (.mov (.x 1)), T (.call false 165 [(.t 0), (kk .u8 5)]), T (.take (.t 0)), T (.ext 0 (.t 0)), T (.ext 1 (.t 1)), T (.alloc false zz8), N (.store 2 (.t 0) (.t 2)), W 8 (.take (.t 2))])
(.ifs [T (.mov (.x 8))] (.t 0) (.ops [T (.mov (.x 2)), T (.fa 1 (.x 3)), N (.store 1 (.t 0) (.t 1))]) .skip))
(.seq (.ops [T (.load (some 3) (.x 3)), N (.store 3 (.x 4) (.t 0))])
.ret)))) }
def lcpo_Naked.m : List Nat := [0, 1, 2, 3, 6, 7, 8, 9, 11]
def ipcpo_Rejected.s : SFunc := { np := 2, nv := 7, res := [.cell (some 5) 3, .var 4], code := (.seq (.ops [W 2 (.box false (.x 0)), W 3 (.alloc false (.v (.agg [(.bool false), (.int .u32 0), (.int .u32 0), (.int .u32 0), (.bool false)]))), W 4 (.take (kb false))])
(.seq (.seq (.ops [T (.mov (.x 1)), T (.call false 165 [(.t 0), (kk .u8 129)]), T (.take (.t 0)), T (.ext 0 (.t 0)), T (.ext 1 (.t 1)), T (.alloc false zz8), N (.store 2 (.t 0) (.t 2)), W 5 (.take (.t 2))])
(.ifs [T (.mov (.x 5)), T (.mov (.t 0)), GT 0 true (.fa 0 (.x 2)), GT 1 true (.load none (.t 0)), GT 2 true (.un .not (.t 0)), T (.pick (.t 3) (.t 0) (kb false))] (.t 0) (.ops [T (.fa 4 (.x 2)), N (.store 1 (.t 0) (kb false))]) .skip))
(.seq (.ops [T (.mov (.x 1)), T (.call false 165 [(.t 0), (kk .u8 3)]), T (.take (.t 0)), T (.ext 0 (.t 0)), T (.ext 1 (.t 1)), T (.alloc false zz8), N (.store 2 (.t 0) (.t 2)), W 6 (.take (.t 2))])
(.seq (.ops [T (.load (some 5) (.x 2)), T (.mov (.x 6)), T (.un .not (.t 0)), N (.store 5 (.x 3) (.t 2)), W 4 (.take (.t 1))])
.ret)))) }
def ipcpo_Rejected.m : List Nat := [0, 1, 2, 4, 5, 7, 9]
def lcpo_Rejected.l0 : SCode := (.seq (.ifs [T (.bin .lss (.x 7) (.x 6))] (.t 0) .skip (.exit 0))
(.seq (.block 1 (.seq (.ops [T (.ia 2 (.x 5) (.x 7)), T (.load (some 2) (.t 0)), W 8 (.alloc false zz8), N (.store 2 (.x 8) (.t 1))])
(.seq (.ops [T (.fa 0 (.x 8)), W 9 (.load none (.t 0))])
(.block 2 (.ifs [T (.bin .eql (.x 9) (kk .u8 1)), T (.take (.t 0))] (.t 0) (.ops [T (.fa 0 (.x 2)), N (.store 1 (.t 0) (kk .u16 0))]) (.ifs [T (.bin .eql (.x 9) (kk .u8 5)), T (.take (.t 0))] (.t 0) (.ops [T (.fa 1 (.x 2)), N (.store 1 (.t 0) (kk .u32 0))]) .skip))))))
(.ops [T (.bin .add (.x 7) (ki 1)), W 7 (.mov (.t 0))])))
def lcpo_Rejected.s : SFunc := { np := 2, nv := 11, res := [.cell (some 3) 3, .var 4], code := (.seq (.ops [W 2 (.box false (.x 0)), W 3 (.alloc false (.v (.agg [(.int .u16 0), (.int .u32 0), (.bool false)]))), W 4 (.take (kb false))])
(.seq (.seq (.ops [W 5 (.mov (.x 1)), W 6 (.len (.x 5)), W 7 (.mov (ki 0))])
(.block 0 (.loop [8, 9] lcpo_Rejected.l0)))
(.seq (.ops [T (.mov (.x 1)), T (.call false 165 [(.t 0), (kk .u8 3)]), T (.take (.t 0)), T (.ext 0 (.t 0)), T (.ext 1 (.t 1)), T (.alloc false zz8), N (.store 2 (.t 0) (.t 2)), W 10 (.take (.t 2))])
(.seq (.ops [T (.load (some 3) (.x 2)), T (.mov (.x 10)), T (.un .not (.t 0)), N (.store 3 (.x 3) (.t 2)), W 4 (.take (.t 1))])
.ret)))) }
def lcpo_Rejected.m : List Nat := [0, 1, 2, 4, 5, 10, 11, 12, 7, 17, 9]
def slices_Grow_byte.s : SFunc := { np := 2, nv := 3, res := [.var 2], code := (.seq (.ops [W 2 (.take (kn 1))])
(.seq (.ifs [T (.mov (.x 1)), T (.bin .lss (.t 0) (ki 0))] (.t 0) (.ops [T (.mki 9 (.c (.v (.str [99, 97, 110, 110, 111, 116, 32, 98, 101, 32, 110, 101, 103, 97, 116, 105, 118, 101])))), N (.die)]) .skip)
(.seq (.seq (.ops [T (.mov (.x 1)), T (.mov (.x 0)), T (.capn (.t 0)), T (.mov (.x 0)), T (.len (.t 0)), T (.bin .sub (.t 2) (.t 0)), T (.bin .sub (.t 5) (.t 0)), W 1 (.take (.t 0))])
(.ifs [T (.mov (.x 1)), T (.bin .gtr (.t 0) (ki 0))] (.t 0) (.grow 0 1 1 1) .skip))
(.seq (.ops [T (.take (.x 0)), W 2 (.take (.t 0))])
.ret)))) }
def slices_Grow_byte.m : List Nat := [0, 1, 4]
def lcpo_first.l0 : SCode := (.seq (.ifs [T (.bin .lss (.x 6) (.x 5))] (.t 0) .skip (.exit 0))
(.seq (.block 1 (.seq (.ops [T (.ia 2 (.x 4) (.x 6)), T (.load (some 2) (.t 0)), W 7 (.alloc false zz8), N (.store 2 (.x 7) (.t 1))])
(.ifs [T (.fa 0 (.x 7)), T (.load none (.t 0)), T (.mov (.x 1)), T (.bin .eql (.t 1) (.t 0)), T (.mov (.t 0)), GT 0 true (.load (some 2) (.x 7)), GT 1 true (.call false 167 [(.t 0)]), T (.pick (.t 2) (.t 0) (kb false))] (.t 0) (.seq (.ops [T (.load (some 2) (.x 7)), N (.store 2 (.x 2) (.t 0)), W 3 (.take (kb true))])
.ret) .skip)))
(.ops [T (.bin .add (.x 6) (ki 1)), W 6 (.mov (.t 0))])))
def lcpo_first.s : SFunc := { np := 2, nv := 8, res := [.cell (some 2) 2, .var 3], code := (.seq (.ops [W 2 (.alloc false zz8), W 3 (.take (kb false))])
(.seq (.seq (.ops [W 4 (.mov (.x 0)), W 5 (.len (.x 4)), W 6 (.mov (ki 0))])
(.block 0 (.loop [7] lcpo_first.l0)))
(.seq (.ops [T (.build [.v (.int .u8 0), .nils 1] []), N (.store 2 (.x 2) (.t 0)), W 3 (.take (kb false))])
.ret))) }
def lcpo_first.m : List Nat := [0, 1, 4, 5, 8, 9, 10, 7]
def lcpo_number.s : SFunc := { np := 1, nv := 4, res := [.var 2], code := (.seq (.ops [W 1 (.box false (.x 0)), W 2 (.take (kk .u64 0))])
(.seq (.ops [T (.fa 1 (.x 1)), T (.load none (.t 0)), T (.call false 71 [(.t 0), (kb false)]), T (.take (.t 0)), T (.ext 0 (.t 0)), T (.ext 1 (.t 1)), W 3 (.take (.t 1)), T (.take (.t 1))])
(.seq (.ops [T (.take (.x 3)), W 2 (.take (.t 0))])
.ret))) }
def lcpo_number.m : List Nat := [0, 1, 2, 3]
def nego_Rules_asks.s : SFunc := { np := 1, nv := 3, res := [.var 2], code := (.seq (.ops [W 1 (.box false (.x 0)), W 2 (.take (kn 2))])
(.seq (.ifs [T (.fa 0 (.x 1)), T (.load none (.t 0))] (.t 0) (.seq (.ops [T (.fa 5 (.x 1)), T (.load (some 5) (.t 0)), T (.call false 15 [(.t 0)]), W 2 (.take (.t 0))])
.ret) .skip)
(.seq (.ops [T (.fa 1 (.x 1)), T (.load (some 3) (.t 0)), T (.call false 16 [(.t 0)]), W 2 (.take (.t 0))])
.ret))) }
def nego_Rules_asks.m : List Nat := [0, 1, 2]
def ctl_cut.s : SFunc := { np := 2, nv := 3, res := [.var 2], code := (.seq (.ops [W 2 (.take (kn 1))])
(.seq (.ops [T (.mov (.x 1)), T (.mx (.t 0) (ki 4)), T (.bin .sub (.t 0) (ki 4)), W 1 (.take (.t 0))])
(.seq (.ops [T (.mov (.x 0)), T (.mov (.x 0)), T (.len (.t 0)), T (.mov (.x 1)), T (.mn (.t 1) (.t 0)), T (.sub 1 (.t 4) none (some (.t 0)) none), W 2 (.take (.t 0))])
.ret))) }
def ctl_cut.m : List Nat := [0, 1, 4]
def opts_first.s : SFunc := { np := 1, nv := 5, res := [.cell (some 2) 1, .var 2, .var 3], code := (.seq (.ops [W 1 (.alloc false zz8), W 2 (.take (ki 0)), W 3 (.take (ki 0))])
(.seq (.ifs [T (.mov (.x 0)), T (.len (.t 0)), T (.bin .lss (.t 0) (ki 2))] (.t 0) (.seq (.ops [T (.build [.v (.int .u8 0), .nils 1] []), N (.store 2 (.x 1) (.t 0)), W 2 (.take (ki 0)), W 3 (.take (ki 4))])
.ret) .skip)
(.seq (.ops [T (.mov (.x 0)), T (.ia 1 (.t 0) (ki 1)), T (.load none (.t 0)), T (.cvi .i64 (.t 0)), W 4 (.take (.t 0))])
(.seq (.block 0 (.ifs [T (.mov (.x 4)), T (.bin .lss (.t 0) (ki 2)), T (.take (.t 0))] (.t 0) (.seq (.ops [T (.build [.v (.int .u8 0), .nils 1] []), N (.store 2 (.x 1) (.t 0)), W 2 (.take (ki 0)), W 3 (.take (ki 3))])
.ret) (.ifs [T (.mov (.x 0)), T (.len (.t 0)), T (.mov (.x 4)), T (.bin .lss (.t 1) (.t 0)), T (.take (.t 0))] (.t 0) (.seq (.ops [T (.build [.v (.int .u8 0), .nils 1] []), N (.store 2 (.x 1) (.t 0)), W 2 (.take (ki 0)), W 3 (.take (ki 4))])
.ret) .skip)))
(.seq (.ops [T (.mov (.x 0)), T (.ia 1 (.t 0) (ki 0)), T (.load none (.t 0)), T (.mov (.x 0)), T (.mov (.x 4)), T (.sub 1 (.t 1) (some (ki 2)) (some (.t 0)) none), T (.call false 101 [(.t 0)]), T (.build [.v (.int .u8 0), .nils 1] [(0, 1, (.t 4)), (1, 1, (.t 0))]), T (.take (.x 4)), N (.store 2 (.x 1) (.t 1)), W 2 (.take (.t 1)), W 3 (.take (ki 0))])
.ret))))) }
def opts_first.m : List Nat := [0, 2, 3, 4, 5]
def slices_All_api_Option.s : SFunc := { np := 1, nv := 3, res := [.var 2], code := (.seq (.ops [W 1 (.box true (.x 0)), W 2 (.take (.c (.v .nilf)))])
(.seq (.ops [T (.mkf 184 [] [(.x 1)]), W 2 (.take (.t 0))])
.ret)) }
def slices_All_api_Option.m : List Nat := [0, 1, 2]
def ipcpo_Side_one.s : SFunc := { np := 2, nv := 10, res := [.var 4, .cell (some 2) 5], code := (.seq (.ops [W 2 (.box false (.x 0)), W 3 (.box false (.x 1)), W 4 (.take (kk .u8 0)), W 5 (.alloc false zz8)])
(.seq (.ops [T (.load (some 2) (.x 3)), T (.call false 185 [(.t 0)]), T (.take (.t 0)), T (.ext 0 (.t 0)), T (.ext 1 (.t 1)), W 6 (.take (.t 1)), W 7 (.take (.t 1))])
(.seq (.ifs [T (.fa 0 (.x 2)), T (.load none (.t 0)), T (.un .not (.t 0))] (.t 0) (.seq (.ifs [T (.mov (.x 7)), T (.un .not (.t 0)), T (.mov (.t 0)), GT 0 false (.fa 0 (.x 3)), GT 1 false (.load none (.t 0)), GT 2 false (.bin .neq (.t 0) (kk .u8 3)), T (.pick (.t 3) (kb true) (.t 0)), T (.mov (.t 0)), GT 0 false (.mov (.x 6)), GT 1 false (.bin .eql (.t 0) (kk .u32 0)), T (.pick (.t 2) (kb true) (.t 0))] (.t 0) (.seq (.ops [T (.load (some 2) (.x 3)), W 4 (.take (kk .u8 4)), N (.store 2 (.x 5) (.t 1))])
.ret) .skip)
(.seq (.ops [T (.load (some 2) (.x 3)), W 4 (.take (kk .u8 2)), N (.store 2 (.x 5) (.t 1))])
.ret)) .skip)
(.seq (.ops [T (.load (some 5) (.x 2)), T (.fa 0 (.x 3)), T (.load none (.t 0)), T (.call false 186 [(.t 2), (.t 0)]), T (.take (.t 0)), T (.ext 0 (.t 0)), T (.ext 1 (.t 1)), W 8 (.take (.t 1)), W 9 (.take (.t 1))])
(.seq (.block 0 (.ifs [T (.mov (.x 7)), T (.un .not (.t 0)), T (.mov (.t 0)), GT 0 false (.mov (.x 9)), GT 1 false (.un .not (.t 0)), T (.pick (.t 2) (kb true) (.t 0)), T (.take (.t 0))] (.t 0) (.seq (.ops [T (.load (some 2) (.x 3)), W 4 (.take (kk .u8 4)), N (.store 2 (.x 5) (.t 1))])
.ret) (.ifs [T (.mov (.x 6)), T (.mov (.x 8)), T (.bin .neq (.t 1) (.t 0)), T (.take (.t 0))] (.t 0) (.seq (.ops [T (.fa 0 (.x 3)), T (.load none (.t 0)), T (.mov (.x 8)), T (.call false 48 [(.t 1), (.t 0)]), W 4 (.take (kk .u8 3)), N (.store 2 (.x 5) (.t 1))])
.ret) .skip)))
(.seq (.ops [T (.load (some 2) (.x 3)), W 4 (.take (kk .u8 2)), N (.store 2 (.x 5) (.t 1))])
.ret)))))) }
def ipcpo_Side_one.m : List Nat := [0, 1, 2, 3, 4, 5, 6, 7, 8, 9]
def opts_Find.s : SFunc := { np := 2, nv := 6, res := [.cell (some 2) 3, .var 4], code := (.seq (.ops [W 2 (.box false (.x 1)), W 3 (.alloc false zz8), W 4 (.take (kb false))])
(.seq (.ops [T (.mov (.x 0)), T (.mkf 187 [] [(.x 2)]), T (.call true 132 [(.t 1), (.t 0)]), W 5 (.take (.t 0))])
(.seq (.ifs [T (.mov (.x 5)), T (.bin .lss (.t 0) (ki 0))] (.t 0) (.seq (.ops [T (.build [.v (.int .u8 0), .nils 1] []), N (.store 2 (.x 3) (.t 0)), W 4 (.take (kb false))])
.ret) .skip)
(.seq (.ops [T (.mov (.x 0)), T (.mov (.x 5)), T (.ia 2 (.t 1) (.t 0)), T (.load (some 2) (.t 0)), N (.store 2 (.x 3) (.t 0)), W 4 (.take (kb true))])
.ret)))) }
def opts_Find.m : List Nat := [0, 1, 3, 4, 5, 6]
def lcpo_better.s : SFunc := { np := 3, nv := 7, res := [.cell (some 2) 4, .var 5], code := (.seq (.ops [W 3 (.box false (.x 0)), W 4 (.alloc false zz8), W 5 (.take (kb false))])
(.seq (.seq (.ops [T (.fa 0 (.x 3)), W 6 (.load none (.t 0))])
(.block 0 (.ifs [T (.bin .eql (.x 6) (kk .u8 1)), T (.take (.t 0))] (.t 0) (.seq (.ops [T (.call false 49 [(kk .u8 1), (kk .u64 1400), (ki 2)]), T (.load (some 2) (.x 3)), T (.call false 156 [(.t 0)]), T (.bin .lss (.t 0) (kk .u64 128)), N (.store 2 (.x 4) (.t 3)), W 5 (.take (.t 1))])
.ret) (.ifs [T (.bin .eql (.x 6) (kk .u8 3)), T (.take (.t 0))] (.t 0) (.seq (.ops [T (.call false 50 []), T (.build [.v (.int .u8 0), .nils 1] [(0, 1, (kk .u8 3)), (1, 1, (.t 0))]), T (.fa 1 (.x 3)), T (.load none (.t 0)), T (.call false 50 []), T (.call false 81 [(.t 1), (.t 0)]), T (.un .not (.t 0)), N (.store 2 (.x 4) (.t 5)), W 5 (.take (.t 1))])
.ret) (.ifs [T (.bin .eql (.x 6) (kk .u8 5)), T (.take (.t 0))] (.t 0) (.seq (.ops [T (.mov (.x 2)), T (.cvi .u64 (.t 0)), T (.call false 49 [(kk .u8 5), (.t 0), (ki 4)]), T (.load (some 2) (.x 3)), T (.call false 156 [(.t 0)]), T (.bin .eql (.t 0) (kk .u64 0)), T (.mov (.t 0)), GT 0 false (.load (some 2) (.x 3)), GT 1 false (.call false 156 [(.t 0)]), GT 2 false (.mov (.x 1)), GT 3 false (.cvi .u64 (.t 0)), GT 4 false (.bin .eql (.t 2) (.t 0)), T (.pick (.t 5) (kb true) (.t 0)), N (.store 2 (.x 4) (.t 10)), W 5 (.take (.t 1))])
.ret) .skip)))))
(.seq (.ops [T (.build [.v (.int .u8 0), .nils 1] []), N (.store 2 (.x 4) (.t 0)), W 5 (.take (kb false))])
.ret))) }
def lcpo_better.m : List Nat := [0, 1, 2, 3, 6, 7, 9]
def lcpo_right.s : SFunc := { np := 1, nv := 3, res := [.var 2], code := (.seq (.ops [W 1 (.box false (.x 0)), W 2 (.take (kb false))])
(.seq (.ops [T (.fa 1 (.x 1)), T (.load none (.t 0)), T (.len (.t 0)), T (.fa 0 (.x 1)), T (.load none (.t 0)), T (.call false 188 [(.t 0)]), T (.bin .eql (.t 3) (.t 0)), W 2 (.take (.t 0))])
.ret)) }
def lcpo_right.m : List Nat := [0, 1, 2]
def ipcpo_told.l0 : SCode := (.seq (.ifs [T (.bin .lss (.x 6) (.x 5))] (.t 0) .skip (.exit 0))
(.seq (.block 1 (.seq (.ops [T (.ia 2 (.x 4) (.x 6)), T (.load (some 2) (.t 0)), W 7 (.alloc false zz8), N (.store 2 (.x 7) (.t 1))])
(.seq (.ops [T (.load (some 2) (.x 7)), T (.call false 185 [(.t 0)]), T (.take (.t 0)), T (.ext 0 (.t 0)), T (.ext 1 (.t 1)), W 8 (.take (.t 1)), W 9 (.take (.t 1))])
(.ifs [T (.mov (.x 9)), T (.mov (.t 0)), GT 0 true (.fa 0 (.x 7)), GT 1 true (.load none (.t 0)), GT 2 true (.mov (.x 1)), GT 3 true (.bin .eql (.t 1) (.t 0)), T (.pick (.t 4) (.t 0) (kb false)), T (.mov (.t 0)), GT 0 true (.mov (.x 8)), GT 1 true (.bin .neq (.t 0) (kk .u32 0)), T (.pick (.t 2) (.t 0) (kb false))] (.t 0) (.seq (.ops [T (.take (.x 8)), W 3 (.take (.t 0))])
.ret) .skip))))
(.ops [T (.bin .add (.x 6) (ki 1)), W 6 (.mov (.t 0))])))
def ipcpo_told.s : SFunc := { np := 3, nv := 10, res := [.var 3], code := (.seq (.ops [W 3 (.take (kk .u32 0))])
(.seq (.seq (.ops [W 4 (.mov (.x 0)), W 5 (.len (.x 4)), W 6 (.mov (ki 0))])
(.block 0 (.loop [7, 8, 9] ipcpo_told.l0)))
(.seq (.ops [T (.take (.x 2)), W 3 (.take (.t 0))])
.ret))) }
def ipcpo_told.m : List Nat := [0, 1, 2, 6, 11, 12, 13, 8, 9, 10]
def slices_All_api_Option_api_Option_1.l0 : SCode := (.seq (.ifs [T (.bin .lss (.x 4) (.x 3))] (.t 0) .skip (.exit 0))
(.seq (.block 1 (.seq (.ops [T (.mov (.x 4)), T (.ia 2 (.x 2) (.x 4)), T (.load (some 2) (.t 0)), W 5 (.alloc false zz8), W 6 (.take (.t 3)), N (.store 2 (.x 5) (.t 2))])
(.ifs [T (.mov (.x 0)), T (.mov (.x 6)), T (.load (some 2) (.x 5)), T (.callv (.t 2) [(.t 1), (.t 0)]), T (.un .not (.t 0))] (.t 0) .ret .skip)))
(.ops [T (.bin .add (.x 4) (ki 1)), W 4 (.mov (.t 0))])))
def slices_All_api_Option_api_Option_1.s : SFunc := { np := 2, nv := 7, res := [], code := (.seq (.ops [W 2 (.load none (.x 1)), W 3 (.len (.x 2)), W 4 (.mov (ki 0))])
(.block 0 (.loop [5, 6] slices_All_api_Option_api_Option_1.l0))) }
def slices_All_api_Option_api_Option_1.m : List Nat := [0, 1, 5, 6, 7, 4, 3]
def ipcpo_addr.s : SFunc := { np := 1, nv := 5, res := [.var 2, .var 3], code := (.seq (.ops [W 1 (.box false (.x 0)), W 2 (.take (kk .u32 0)), W 3 (.take (kb false))])
(.seq (.ifs [T (.fa 1 (.x 1)), T (.load none (.t 0)), T (.len (.t 0)), T (.bin .neq (.t 0) (ki 4))] (.t 0) (.seq (.ops [W 2 (.take (kk .u32 0)), W 3 (.take (kb false))])
.ret) .skip)
(.seq (.ops [T (.fa 1 (.x 1)), T (.load none (.t 0)), T (.call false 71 [(.t 0), (kb false)]), T (.take (.t 0)), T (.ext 0 (.t 0)), T (.ext 1 (.t 1)), W 4 (.take (.t 1)), T (.take (.t 1))])
(.seq (.ops [T (.mov (.x 4)), T (.cvi .u32 (.t 0)), W 2 (.take (.t 0)), W 3 (.take (kb true))])
.ret)))) }
def ipcpo_addr.m : List Nat := [0, 1, 2, 3, 4]
def ipcpo_Side_gives.s : SFunc := { np := 2, nv := 6, res := [.var 3, .var 4], code := (.seq (.ops [W 2 (.box false (.x 0)), W 3 (.take (kk .u32 0)), W 4 (.take (kb false))])
(.seq (.seq (.ops [W 5 (.mov (.x 1))])
(.block 0 (.ifs [T (.bin .eql (.x 5) (kk .u8 3)), T (.take (.t 0))] (.t 0) (.seq (.ops [T (.fa 2 (.x 2)), T (.load none (.t 0)), W 3 (.take (.t 0)), W 4 (.take (kb true))])
.ret) (.ifs [T (.bin .eql (.x 5) (kk .u8 129)), T (.take (.t 0))] (.t 0) (.seq (.ops [T (.fa 3 (.x 2)), T (.load none (.t 0)), T (.fa 3 (.x 2)), T (.load none (.t 0)), T (.bin .neq (.t 0) (kk .u32 0)), W 3 (.take (.t 3)), W 4 (.take (.t 1))])
.ret) .skip))))
(.seq (.ops [W 3 (.take (kk .u32 0)), W 4 (.take (kb false))])
.ret))) }
def ipcpo_Side_gives.m : List Nat := [0, 1, 2, 4, 5, 6]
def opts_Find_1.s : SFunc := { np := 2, nv := 4, res := [.var 3], code := (.seq (.ops [W 2 (.box false (.x 0)), W 3 (.take (kb false))])
(.seq (.ops [T (.fa 0 (.x 2)), T (.load none (.t 0)), T (.load none (.x 1)), T (.bin .eql (.t 1) (.t 0)), W 3 (.take (.t 0))])
.ret)) }
def opts_Find_1.m : List Nat := [0, 1, 2, 3]
def lcpo_long.s : SFunc := { np := 1, nv := 3, res := [.var 1], code := (.seq (.ops [W 1 (.take (ki 0))])
(.seq (.seq (.ops [W 2 (.mov (.x 0))])
(.block 0 (.seq (.block 5 (.block 4 (.seq (.block 3 (.seq (.block 2 (.seq (.block 1 (.seq (.seq (.ifs [T (.bin .eql (.x 2) (kk .u8 1)), T (.take (.t 0))] (.t 0) (.exit 1) .skip)
(.seq (.ifs [T (.bin .eql (.x 2) (kk .u8 3)), T (.take (.t 0))] (.t 0) (.exit 2) .skip)
(.seq (.ifs [T (.bin .eql (.x 2) (kk .u8 5)), T (.take (.t 0))] (.t 0) (.exit 3) .skip)
(.seq (.ifs [T (.bin .eql (.x 2) (kk .u8 7)), T (.take (.t 0))] (.t 0) (.exit 4) .skip)
(.ifs [T (.bin .eql (.x 2) (kk .u8 8)), T (.take (.t 0))] (.t 0) (.exit 5) .skip)))))
(.exit 0)))
(.seq (.seq (.ops [W 1 (.take (ki 2))])
.ret)
(.exit 0))))
(.seq (.seq (.ops [T (.call false 50 []), T (.len (.t 0)), W 1 (.take (.t 0))])
.ret)
(.exit 0))))
(.seq (.seq (.ops [W 1 (.take (ki 4))])
.ret)
(.exit 0)))))
(.seq (.seq (.ops [W 1 (.take (ki 0))])
.ret)
(.exit 0)))))
(.seq (.ops [W 1 (.take (ki (-1)))])
.ret))) }
def lcpo_long.m : List Nat := [0, 2, 3]
def fns : List (Nat × SFunc × List Nat) := [(3, euphroelaw27_NegoAgrees.s, euphroelaw27_NegoAgrees.m), (7, euphroelaw27_alive.s, euphroelaw27_alive.m), (8, euphroelaw27_talk.s, euphroelaw27_talk.m), (9, nego_New.s, nego_New.m), (10, euphroelaw27_rules.s, euphroelaw27_rules.m), (11, nego_Nego_State.s, nego_Nego_State.m), (12, nego_Nego_Rules.s, nego_Nego_Rules.m), (13, opts_Same.s, opts_Same.m), (14, nego_Nego_Acked.s, nego_Nego_Acked.m), (15, ipcpo_Options.s, ipcpo_Options.m), (16, lcpo_Options.s, lcpo_Options.m), (17, nego_Nego_Do.s, nego_Nego_Do.m), (19, nego_Nego_Take.s, nego_Nego_Take.m), (21, ctl_Lay.s, ctl_Lay.m), (43, nego_Nego_Waits.s, nego_Nego_Waits.m), (44, nego_Fresh.s, nego_Fresh.m), (45, slices_EqualFunc_api_Option.s, slices_EqualFunc_api_Option.m), (46, opts_same.s, opts_same.m), (47, slices_Clone_api_Option.s, slices_Clone_api_Option.m), (48, ipcpo_option.s, ipcpo_option.m), (49, lcpo_option.s, lcpo_option.m), (50, lcpo_Chap.s, lcpo_Chap.m), (51, nego_Nego_event.s, nego_Nego_event.m), (54, nego_Nego_asked.s, nego_Nego_asked.m), (55, nego_Nego_answered.s, nego_Nego_answered.m), (56, nego_Nego_meant.s, nego_Nego_meant.m), (57, octs_Put.s, octs_Put.m), (58, octs_Join.s, octs_Join.m), (71, octs_Get.s, octs_Get.m), (81, bytes_Equal.s, bytes_Equal.m), (82, fsm_Next.s, fsm_Next.m), (83, nego_doer_do.s, nego_doer_do.m), (84, slices_Contains_fsm_Action.s, slices_Contains_fsm_Action.m), (85, fsm_Timed.s, fsm_Timed.m), (86, retry_Retry_Stop.s, retry_Retry_Stop.m), (88, ctl_Options.s, ctl_Options.m), (89, nego_Rules_judge.s, nego_Rules_judge.m), (90, opts_Kinds.s, opts_Kinds.m), (91, slices_DeleteFunc_api_Option.s, slices_DeleteFunc_api_Option.m), (92, nego_Nego_asked_1.s, nego_Nego_asked_1.m), (93, slices_Contains_byte.s, slices_Contains_byte.m), (94, ctl_Conf.s, ctl_Conf.m), (95, nego_Rules_naked.s, nego_Rules_naked.m), (96, opts_Among.s, opts_Among.m), (97, nego_Rules_rejected.s, nego_Rules_rejected.m), (98, slices_Reverse_byte.s, slices_Reverse_byte.m), (99, slices_Concat_byte.s, slices_Concat_byte.m), (101, bytes_Clone.s, bytes_Clone.m), (113, lcpo_Of.s, lcpo_Of.m), (116, fsm_State_ok.s, fsm_State_ok.m), (118, fsm_rows.s, fsm_rows.m), (119, fsm_action.s, fsm_action.m), (120, retry_Retry_Init.s, retry_Retry_Init.m), (121, retry_Retry_Zero.s, retry_Retry_Zero.m), (122, nego_doer_request.s, nego_doer_request.m), (123, nego_doer_send.s, nego_doer_send.m), (124, nego_doer_next.s, nego_doer_next.m), (125, retry_Retry_Sent.s, retry_Retry_Sent.m), (126, ctl_Reject.s, ctl_Reject.m), (127, slices_Index_fsm_Action.s, slices_Index_fsm_Action.m), (128, ctl_isConf.s, ctl_isConf.m), (129, opts_Parse.s, opts_Parse.m), (130, ipcpo_Judge.s, ipcpo_Judge.m), (131, lcpo_Judge.s, lcpo_Judge.m), (132, slices_IndexFunc_api_Option.s, slices_IndexFunc_api_Option.m), (133, slices_Index_byte.s, slices_Index_byte.m), (134, opts_Lay.s, opts_Lay.m), (135, ipcpo_Naked.s, ipcpo_Naked.m), (136, lcpo_Naked.s, lcpo_Naked.m), (137, ipcpo_Rejected.s, ipcpo_Rejected.m), (138, lcpo_Rejected.s, lcpo_Rejected.m), (139, slices_Grow_byte.s, slices_Grow_byte.m), (155, lcpo_first.s, lcpo_first.m), (156, lcpo_number.s, lcpo_number.m), (160, nego_Rules_asks.s, nego_Rules_asks.m), (161, ctl_cut.s, ctl_cut.m), (162, opts_first.s, opts_first.m), (163, slices_All_api_Option.s, slices_All_api_Option.m), (164, ipcpo_Side_one.s, ipcpo_Side_one.m), (165, opts_Find.s, opts_Find.m), (166, lcpo_better.s, lcpo_better.m), (167, lcpo_right.s, lcpo_right.m), (168, ipcpo_told.s, ipcpo_told.m), (184, slices_All_api_Option_api_Option_1.s, slices_All_api_Option_api_Option_1.m), (185, ipcpo_addr.s, ipcpo_addr.m), (186, ipcpo_Side_gives.s, ipcpo_Side_gives.m), (187, opts_Find_1.s, opts_Find_1.m), (188, lcpo_long.s, lcpo_long.m)]
def fnOf (n : Nat) : Option SFunc := (fns.find? (·.1 == n)).map (·.2.1)
def primOf (n : Nat) : Option (List D → St → Option (D × St)) := if n = 117 then some (primSplit splitF) else if n = 159 then some (primSS indexF) else none
def G : Prg := { fn := fnOf, prim := primOf }
theorem euphroelaw27_NegoAgrees.g : G.fn 3 = some euphroelaw27_NegoAgrees.s := by rfl
theorem euphroelaw27_alive.g : G.fn 7 = some euphroelaw27_alive.s := by rfl
theorem euphroelaw27_talk.g : G.fn 8 = some euphroelaw27_talk.s := by rfl
theorem nego_New.g : G.fn 9 = some nego_New.s := by rfl
theorem euphroelaw27_rules.g : G.fn 10 = some euphroelaw27_rules.s := by rfl
theorem nego_Nego_State.g : G.fn 11 = some nego_Nego_State.s := by rfl
theorem nego_Nego_Rules.g : G.fn 12 = some nego_Nego_Rules.s := by rfl
theorem opts_Same.g : G.fn 13 = some opts_Same.s := by rfl
theorem nego_Nego_Acked.g : G.fn 14 = some nego_Nego_Acked.s := by rfl
theorem ipcpo_Options.g : G.fn 15 = some ipcpo_Options.s := by rfl
theorem lcpo_Options.g : G.fn 16 = some lcpo_Options.s := by rfl
theorem nego_Nego_Do.g : G.fn 17 = some nego_Nego_Do.s := by rfl
theorem nego_Nego_Take.g : G.fn 19 = some nego_Nego_Take.s := by rfl
theorem ctl_Lay.g : G.fn 21 = some ctl_Lay.s := by rfl
theorem nego_Nego_Waits.g : G.fn 43 = some nego_Nego_Waits.s := by rfl
theorem nego_Fresh.g : G.fn 44 = some nego_Fresh.s := by rfl
theorem slices_EqualFunc_api_Option.g : G.fn 45 = some slices_EqualFunc_api_Option.s := by rfl
theorem opts_same.g : G.fn 46 = some opts_same.s := by rfl
theorem slices_Clone_api_Option.g : G.fn 47 = some slices_Clone_api_Option.s := by rfl
theorem ipcpo_option.g : G.fn 48 = some ipcpo_option.s := by rfl
theorem lcpo_option.g : G.fn 49 = some lcpo_option.s := by rfl
theorem lcpo_Chap.g : G.fn 50 = some lcpo_Chap.s := by rfl
theorem nego_Nego_event.g : G.fn 51 = some nego_Nego_event.s := by rfl
theorem nego_Nego_asked.g : G.fn 54 = some nego_Nego_asked.s := by rfl
theorem nego_Nego_answered.g : G.fn 55 = some nego_Nego_answered.s := by rfl
theorem nego_Nego_meant.g : G.fn 56 = some nego_Nego_meant.s := by rfl
theorem octs_Put.g : G.fn 57 = some octs_Put.s := by rfl
theorem octs_Join.g : G.fn 58 = some octs_Join.s := by rfl
theorem octs_Get.g : G.fn 71 = some octs_Get.s := by rfl
theorem bytes_Equal.g : G.fn 81 = some bytes_Equal.s := by rfl
theorem fsm_Next.g : G.fn 82 = some fsm_Next.s := by rfl
theorem nego_doer_do.g : G.fn 83 = some nego_doer_do.s := by rfl
theorem slices_Contains_fsm_Action.g : G.fn 84 = some slices_Contains_fsm_Action.s := by rfl
theorem fsm_Timed.g : G.fn 85 = some fsm_Timed.s := by rfl
theorem retry_Retry_Stop.g : G.fn 86 = some retry_Retry_Stop.s := by rfl
theorem ctl_Options.g : G.fn 88 = some ctl_Options.s := by rfl
theorem nego_Rules_judge.g : G.fn 89 = some nego_Rules_judge.s := by rfl
theorem opts_Kinds.g : G.fn 90 = some opts_Kinds.s := by rfl
theorem slices_DeleteFunc_api_Option.g : G.fn 91 = some slices_DeleteFunc_api_Option.s := by rfl
theorem nego_Nego_asked_1.g : G.fn 92 = some nego_Nego_asked_1.s := by rfl
theorem slices_Contains_byte.g : G.fn 93 = some slices_Contains_byte.s := by rfl
theorem ctl_Conf.g : G.fn 94 = some ctl_Conf.s := by rfl
theorem nego_Rules_naked.g : G.fn 95 = some nego_Rules_naked.s := by rfl
theorem opts_Among.g : G.fn 96 = some opts_Among.s := by rfl
theorem nego_Rules_rejected.g : G.fn 97 = some nego_Rules_rejected.s := by rfl
theorem slices_Reverse_byte.g : G.fn 98 = some slices_Reverse_byte.s := by rfl
theorem slices_Concat_byte.g : G.fn 99 = some slices_Concat_byte.s := by rfl
theorem bytes_Clone.g : G.fn 101 = some bytes_Clone.s := by rfl
theorem lcpo_Of.g : G.fn 113 = some lcpo_Of.s := by rfl
theorem fsm_State_ok.g : G.fn 116 = some fsm_State_ok.s := by rfl
theorem fsm_rows.g : G.fn 118 = some fsm_rows.s := by rfl
theorem fsm_action.g : G.fn 119 = some fsm_action.s := by rfl
theorem retry_Retry_Init.g : G.fn 120 = some retry_Retry_Init.s := by rfl
theorem retry_Retry_Zero.g : G.fn 121 = some retry_Retry_Zero.s := by rfl
theorem nego_doer_request.g : G.fn 122 = some nego_doer_request.s := by rfl
theorem nego_doer_send.g : G.fn 123 = some nego_doer_send.s := by rfl
theorem nego_doer_next.g : G.fn 124 = some nego_doer_next.s := by rfl
theorem retry_Retry_Sent.g : G.fn 125 = some retry_Retry_Sent.s := by rfl
theorem ctl_Reject.g : G.fn 126 = some ctl_Reject.s := by rfl
theorem slices_Index_fsm_Action.g : G.fn 127 = some slices_Index_fsm_Action.s := by rfl
theorem ctl_isConf.g : G.fn 128 = some ctl_isConf.s := by rfl
theorem opts_Parse.g : G.fn 129 = some opts_Parse.s := by rfl
theorem ipcpo_Judge.g : G.fn 130 = some ipcpo_Judge.s := by rfl
theorem lcpo_Judge.g : G.fn 131 = some lcpo_Judge.s := by rfl
theorem slices_IndexFunc_api_Option.g : G.fn 132 = some slices_IndexFunc_api_Option.s := by rfl
theorem slices_Index_byte.g : G.fn 133 = some slices_Index_byte.s := by rfl
theorem opts_Lay.g : G.fn 134 = some opts_Lay.s := by rfl
theorem ipcpo_Naked.g : G.fn 135 = some ipcpo_Naked.s := by rfl
theorem lcpo_Naked.g : G.fn 136 = some lcpo_Naked.s := by rfl
theorem ipcpo_Rejected.g : G.fn 137 = some ipcpo_Rejected.s := by rfl
theorem lcpo_Rejected.g : G.fn 138 = some lcpo_Rejected.s := by rfl
theorem slices_Grow_byte.g : G.fn 139 = some slices_Grow_byte.s := by rfl
theorem lcpo_first.g : G.fn 155 = some lcpo_first.s := by rfl
theorem lcpo_number.g : G.fn 156 = some lcpo_number.s := by rfl
theorem nego_Rules_asks.g : G.fn 160 = some nego_Rules_asks.s := by rfl
theorem ctl_cut.g : G.fn 161 = some ctl_cut.s := by rfl
theorem opts_first.g : G.fn 162 = some opts_first.s := by rfl
theorem slices_All_api_Option.g : G.fn 163 = some slices_All_api_Option.s := by rfl
theorem ipcpo_Side_one.g : G.fn 164 = some ipcpo_Side_one.s := by rfl
theorem opts_Find.g : G.fn 165 = some opts_Find.s := by rfl
theorem lcpo_better.g : G.fn 166 = some lcpo_better.s := by rfl
theorem lcpo_right.g : G.fn 167 = some lcpo_right.s := by rfl
theorem ipcpo_told.g : G.fn 168 = some ipcpo_told.s := by rfl
theorem slices_All_api_Option_api_Option_1.g : G.fn 184 = some slices_All_api_Option_api_Option_1.s := by rfl
theorem ipcpo_addr.g : G.fn 185 = some ipcpo_addr.s := by rfl
theorem ipcpo_Side_gives.g : G.fn 186 = some ipcpo_Side_gives.s := by rfl
theorem opts_Find_1.g : G.fn 187 = some opts_Find_1.s := by rfl
theorem lcpo_long.g : G.fn 188 = some lcpo_long.s := by rfl
instance : Iters := ⟨[(2, 184)]⟩
end Go.Q
