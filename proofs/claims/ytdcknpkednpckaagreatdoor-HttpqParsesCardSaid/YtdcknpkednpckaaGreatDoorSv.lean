/- The slim code of the functions, written by a program of ours. No condition. -/
import Derived.Test.YtdcknpkednpckaaGreatDoorEpd
set_option linter.all false
set_option maxRecDepth 100000
namespace Go.Q
open SOp SCode
def zz0 : D := .v (.agg [(.str []), (.str [])])
@[go_sem] theorem zz0_eq : zz0 = .v (.agg [(.str []), (.str [])]) := rfl
def euphroelaw15_HttpqParses.s : SFunc := { np := 2, nv := 9, res := [.var 2], code := (.seq (.ops [W 2 (.take (kb false))])
(.seq (.ifs [T (.mov (.x 0)), T (.len (.t 0)), T (.bin .gtr (.t 0) (ki 3000))] (.t 0) (.seq (.ops [T (.call false 4 []), W 2 (.take (.t 0))])
.ret) .skip)
(.seq (.ops [T (.mov (.x 0)), T (.call false 5 [(.t 0)]), T (.take (.t 0)), T (.ext 0 (.t 0)), T (.ext 1 (.t 1)), T (.ext 2 (.t 2)), W 3 (.alloc false zz0), N (.store 2 (.x 3) (.t 3)), W 4 (.take (.t 3)), W 5 (.take (.t 3))])
(.seq (.ops [T (.mov (.x 0)), T (.call false 6 [(.t 0)]), T (.take (.t 0)), T (.ext 0 (.t 0)), T (.ext 1 (.t 1)), T (.ext 2 (.t 2)), W 6 (.alloc false zz0), N (.store 2 (.x 6) (.t 3)), W 7 (.take (.t 3)), W 8 (.take (.t 3))])
(.seq (.ops [T (.load (some 2) (.x 3)), T (.load (some 2) (.x 6)), T (.eq (.g [2, 2]) false (.t 1) (.t 0)), T (.mov (.t 0)), GT 0 true (.mov (.x 4)), GT 1 true (.mov (.x 7)), GT 2 true (.bin .eql (.t 1) (.t 0)), T (.pick (.t 3) (.t 0) (kb false)), T (.mov (.t 0)), GT 0 true (.mov (.x 5)), GT 1 true (.mov (.x 8)), GT 2 true (.bin .eql (.t 1) (.t 0)), T (.pick (.t 3) (.t 0) (kb false)), T (.mov (.t 0)), GT 0 true (.mov (.x 5)), GT 1 true (.call false 7 [(.t 0)]), GT 2 true (.mov (.x 8)), GT 3 true (.call false 8 [(.t 0)]), GT 4 true (.bin .eql (.t 2) (.t 0)), T (.pick (.t 5) (.t 0) (kb false)), T (.mov (.t 0)), GT 0 true (.mov (.x 1)), GT 1 true (.call false 7 [(.t 0)]), GT 2 true (.mov (.x 1)), GT 3 true (.call false 8 [(.t 0)]), GT 4 true (.bin .eql (.t 2) (.t 0)), T (.pick (.t 5) (.t 0) (kb false)), T (.mov (.t 0)), GT 0 true (.call false 4 []), T (.pick (.t 1) (.t 0) (kb false)), W 2 (.take (.t 0))])
.ret))))) }
def euphroelaw15_HttpqParses.m : List Nat := [0, 1, 4, 5, 6, 7, 8, 9, 10]
def euphroelaw15_alive.s : SFunc := { np := 0, nv := 8, res := [.var 0], code := (.seq (.ops [W 0 (.take (kb false))])
(.seq (.ops [T (.build [.v (.str []), .v (.str [])] [(0, 1, (.c (.v (.str [104]))))]), T (.call false 9 [(.t 0)]), T (.take (.t 0)), T (.ext 0 (.t 0)), T (.ext 1 (.t 1)), W 1 (.take (.t 1)), W 2 (.take (.t 1))])
(.seq (.ops [T (.mov (.x 1)), T (.call false 5 [(.t 0)]), T (.take (.t 0)), T (.ext 0 (.t 0)), T (.ext 1 (.t 1)), T (.ext 2 (.t 2)), W 3 (.alloc false zz0), N (.store 2 (.x 3) (.t 3)), W 4 (.take (.t 3)), W 5 (.take (.t 3))])
(.seq (.ops [T (.build (List.replicate 16 (.v (.int .u8 0))) [(0, 1, (kk .u8 1)), (1, 1, (kk .u8 2))]), T (.call false 11 [(.t 0)]), T (.call false 10 [(.t 0)]), T (.take (.t 0)), T (.ext 0 (.t 0)), T (.ext 1 (.t 1)), W 6 (.alloc false (.v (.agg (List.replicate 16 (.int .u8 0))))), N (.store 16 (.x 6) (.t 2)), W 7 (.take (.t 2))])
(.seq (.ops [T (.mov (.x 1)), T (.len (.t 0)), T (.bin .gtr (.t 0) (ki 100)), T (.mov (.t 0)), GT 0 true (.mov (.x 2)), GT 1 true (.bin .eql (.t 0) (ki 0)), T (.pick (.t 2) (.t 0) (kb false)), T (.mov (.t 0)), GT 0 true (.fa 0 (.x 3)), GT 1 true (.load none (.t 0)), GT 2 true (.bin .eql (.t 0) (.c (.v (.str [104])))), T (.pick (.t 3) (.t 0) (kb false)), T (.mov (.t 0)), GT 0 true (.mov (.x 4)), GT 1 true (.mov (.x 1)), GT 2 true (.len (.t 0)), GT 3 true (.bin .eql (.t 2) (.t 0)), T (.pick (.t 4) (.t 0) (kb false)), T (.mov (.t 0)), GT 0 true (.mov (.x 5)), GT 1 true (.bin .eql (.t 0) (ki 0)), T (.pick (.t 2) (.t 0) (kb false)), T (.mov (.t 0)), GT 0 true (.load (some 16) (.x 6)), GT 1 true (.build (List.replicate 16 (.v (.int .u8 0))) [(0, 1, (kk .u8 1)), (1, 1, (kk .u8 2))]), GT 2 true (.eq (.g (List.replicate 16 1)) false (.t 1) (.t 0)), T (.pick (.t 3) (.t 0) (kb false)), T (.mov (.t 0)), GT 0 true (.mov (.x 7)), GT 1 true (.bin .eql (.t 0) (ki 0)), T (.pick (.t 2) (.t 0) (kb false)), T (.mov (.t 0)), GT 0 true (.call false 7 [(ki 0)]), GT 1 true (.bin .eql (.t 0) (ki 200)), T (.pick (.t 2) (.t 0) (kb false)), T (.mov (.t 0)), T (.pick (.t 0) (kb true) (kb false)), T (.mov (.t 0)), T (.pick (.t 0) (kb true) (kb false)), W 0 (.take (.t 0))])
.ret))))) }
def euphroelaw15_alive.m : List Nat := [0, 1, 2, 3, 4, 5, 6, 7]
def httpq_Parse.s : SFunc := { np := 1, nv := 10, res := [.cell (some 2) 1, .var 2, .var 3], code := (.seq (.ops [W 1 (.alloc false zz0), W 2 (.take (ki 0)), W 3 (.take (ki 0))])
(.seq (.ops [T (.mov (.x 0)), T (.call false 12 [(.t 0)]), T (.take (.t 0)), T (.ext 0 (.t 0)), T (.ext 1 (.t 1)), T (.ext 2 (.t 2)), W 4 (.take (.t 2)), W 5 (.take (.t 2)), W 6 (.take (.t 2))])
(.seq (.block 0 (.ifs [T (.mov (.x 6)), T (.bin .neq (.t 0) (ki 0)), T (.take (.t 0))] (.t 0) (.seq (.ops [T (.build [.v (.str []), .v (.str [])] []), T (.take (.x 6)), N (.store 2 (.x 1) (.t 1)), W 2 (.take (ki 0)), W 3 (.take (.t 2))])
.ret) (.ifs [T (.mov (.x 4)), T (.len (.t 0)), T (.bin .eql (.t 0) (ki 0)), T (.take (.t 0))] (.t 0) (.seq (.ops [T (.build [.v (.str []), .v (.str [])] []), N (.store 2 (.x 1) (.t 0)), W 2 (.take (ki 0)), W 3 (.take (ki 3))])
.ret) .skip)))
(.seq (.ops [T (.mov (.x 4)), T (.ia 1 (.t 0) (ki 0)), T (.load none (.t 0)), T (.call false 13 [(.t 0)]), T (.take (.t 0)), T (.ext 0 (.t 0)), T (.ext 1 (.t 1)), W 7 (.take (.t 1)), W 6 (.take (.t 1))])
(.seq (.ifs [T (.mov (.x 6)), T (.bin .neq (.t 0) (ki 0))] (.t 0) (.seq (.ops [T (.build [.v (.str []), .v (.str [])] []), T (.take (.x 6)), N (.store 2 (.x 1) (.t 1)), W 2 (.take (ki 0)), W 3 (.take (.t 2))])
.ret) .skip)
(.seq (.ops [T (.mov (.x 4)), T (.sub 1 (.t 0) (some (ki 1)) none none), T (.call false 14 [(.t 0)]), T (.take (.t 0)), T (.ext 0 (.t 0)), T (.ext 1 (.t 1)), W 8 (.take (.t 1)), W 6 (.take (.t 1))])
(.seq (.block 1 (.ifs [T (.mov (.x 6)), T (.bin .neq (.t 0) (ki 0)), T (.take (.t 0))] (.t 0) (.seq (.ops [T (.build [.v (.str []), .v (.str [])] []), T (.take (.x 6)), N (.store 2 (.x 1) (.t 1)), W 2 (.take (ki 0)), W 3 (.take (.t 2))])
.ret) (.ifs [T (.mov (.x 7)), T (.bin .neq (.t 0) (.c (.v (.str [47, 115, 114, 97, 95, 123, 66, 65, 49, 57, 53, 57, 56, 48, 45, 67, 68, 52, 57, 45, 52, 53, 56, 98, 45, 57, 69, 50, 51, 45, 67, 56, 52, 69, 69, 48, 65, 68, 67, 68, 55, 53, 125, 47])))), T (.take (.t 0))] (.t 0) (.seq (.ops [T (.build [.v (.str []), .v (.str [])] []), N (.store 2 (.x 1) (.t 0)), W 2 (.take (ki 0)), W 3 (.take (ki 6))])
.ret) .skip)))
(.seq (.ops [T (.mov (.x 8)), T (.call false 15 [(.t 0)]), T (.take (.t 0)), T (.ext 0 (.t 0)), T (.ext 1 (.t 1)), W 9 (.alloc false zz0), N (.store 2 (.x 9) (.t 2)), W 6 (.take (.t 2))])
(.seq (.ifs [T (.mov (.x 6)), T (.bin .neq (.t 0) (ki 0))] (.t 0) (.seq (.ops [T (.build [.v (.str []), .v (.str [])] []), T (.take (.x 6)), N (.store 2 (.x 1) (.t 1)), W 2 (.take (ki 0)), W 3 (.take (.t 2))])
.ret) .skip)
(.seq (.ops [T (.load (some 2) (.x 9)), T (.take (.x 5)), N (.store 2 (.x 1) (.t 1)), W 2 (.take (.t 1)), W 3 (.take (ki 0))])
.ret)))))))))) }
def httpq_Parse.m : List Nat := [0, 2, 3, 4, 5, 6, 7, 8, 9, 10]
def euphroeref15_Parse.s : SFunc := { np := 1, nv := 13, res := [.cell (some 2) 1, .var 2, .var 3], code := (.seq (.ops [W 1 (.alloc false zz0), W 2 (.take (ki 0)), W 3 (.take (ki 0))])
(.seq (.ops [T (.mov (.x 0)), T (.call false 16 [(.t 0)]), T (.take (.t 0)), T (.ext 0 (.t 0)), T (.ext 1 (.t 1)), T (.ext 2 (.t 2)), W 4 (.take (.t 2)), W 5 (.take (.t 2)), W 6 (.take (.t 2))])
(.seq (.ifs [T (.mov (.x 6)), T (.bin .neq (.t 0) (ki 0))] (.t 0) (.seq (.ops [T (.build [.v (.str []), .v (.str [])] []), T (.take (.x 6)), N (.store 2 (.x 1) (.t 1)), W 2 (.take (ki 0)), W 3 (.take (.t 2))])
.ret) .skip)
(.seq (.ifs [T (.mov (.x 4)), T (.len (.t 0)), T (.bin .eql (.t 0) (ki 0))] (.t 0) (.seq (.ops [T (.build [.v (.str []), .v (.str [])] []), N (.store 2 (.x 1) (.t 0)), W 2 (.take (ki 0)), W 3 (.take (ki 3))])
.ret) .skip)
(.seq (.ops [T (.mov (.x 4)), T (.ia 1 (.t 0) (ki 0)), T (.load none (.t 0)), T (.call false 17 [(.t 0)]), W 7 (.take (.t 0))])
(.seq (.ifs [T (.mov (.x 7)), T (.len (.t 0)), T (.bin .neq (.t 0) (ki 3)), T (.mov (.t 0)), GT 0 false (.mov (.x 7)), GT 1 false (.ia 1 (.t 0) (ki 0)), GT 2 false (.load none (.t 0)), GT 3 false (.bin .eql (.t 0) (.c (.v (.str [])))), T (.pick (.t 4) (kb true) (.t 0)), T (.mov (.t 0)), GT 0 false (.mov (.x 7)), GT 1 false (.ia 1 (.t 0) (ki 1)), GT 2 false (.load none (.t 0)), GT 3 false (.bin .eql (.t 0) (.c (.v (.str [])))), T (.pick (.t 4) (kb true) (.t 0)), T (.mov (.t 0)), GT 0 false (.mov (.x 7)), GT 1 false (.ia 1 (.t 0) (ki 2)), GT 2 false (.load none (.t 0)), GT 3 false (.bin .eql (.t 0) (.c (.v (.str [])))), T (.pick (.t 4) (kb true) (.t 0))] (.t 0) (.seq (.ops [T (.build [.v (.str []), .v (.str [])] []), N (.store 2 (.x 1) (.t 0)), W 2 (.take (ki 0)), W 3 (.take (ki 3))])
.ret) .skip)
(.seq (.ifs [T (.mov (.x 7)), T (.ia 1 (.t 0) (ki 0)), T (.load none (.t 0)), T (.bin .neq (.t 0) (.c (.v (.str [83, 83, 84, 80, 95, 68, 85, 80, 76, 69, 88, 95, 80, 79, 83, 84]))))] (.t 0) (.seq (.ops [T (.build [.v (.str []), .v (.str [])] []), N (.store 2 (.x 1) (.t 0)), W 2 (.take (ki 0)), W 3 (.take (ki 9))])
.ret) .skip)
(.seq (.ifs [T (.mov (.x 7)), T (.ia 1 (.t 0) (ki 2)), T (.load none (.t 0)), T (.bin .neq (.t 0) (.c (.v (.str [72, 84, 84, 80, 47, 49, 46, 49]))))] (.t 0) (.seq (.ops [T (.build [.v (.str []), .v (.str [])] []), N (.store 2 (.x 1) (.t 0)), W 2 (.take (ki 0)), W 3 (.take (ki 15))])
.ret) .skip)
(.seq (.ops [T (.mov (.x 4)), T (.sub 1 (.t 0) (some (ki 1)) none none), T (.call false 18 [(.t 0)]), T (.take (.t 0)), T (.ext 0 (.t 0)), T (.ext 1 (.t 1)), W 8 (.take (.t 1)), W 6 (.take (.t 1))])
(.seq (.ifs [T (.mov (.x 6)), T (.bin .neq (.t 0) (ki 0))] (.t 0) (.seq (.ops [T (.build [.v (.str []), .v (.str [])] []), T (.take (.x 6)), N (.store 2 (.x 1) (.t 1)), W 2 (.take (ki 0)), W 3 (.take (.t 2))])
.ret) .skip)
(.seq (.ifs [T (.mov (.x 7)), T (.ia 1 (.t 0) (ki 1)), T (.load none (.t 0)), T (.bin .neq (.t 0) (.c (.v (.str [47, 115, 114, 97, 95, 123, 66, 65, 49, 57, 53, 57, 56, 48, 45, 67, 68, 52, 57, 45, 52, 53, 56, 98, 45, 57, 69, 50, 51, 45, 67, 56, 52, 69, 69, 48, 65, 68, 67, 68, 55, 53, 125, 47]))))] (.t 0) (.seq (.ops [T (.build [.v (.str []), .v (.str [])] []), N (.store 2 (.x 1) (.t 0)), W 2 (.take (ki 0)), W 3 (.take (ki 6))])
.ret) .skip)
(.seq (.ops [T (.mov (.x 8)), T (.call false 19 [(.t 0), (.c (.v (.str [72, 111, 115, 116])))]), T (.take (.t 0)), T (.ext 0 (.t 0)), T (.ext 1 (.t 1)), W 9 (.take (.t 1)), W 6 (.take (.t 1))])
(.seq (.ifs [T (.mov (.x 6)), T (.bin .neq (.t 0) (ki 0))] (.t 0) (.seq (.ops [T (.build [.v (.str []), .v (.str [])] []), T (.take (.x 6)), N (.store 2 (.x 1) (.t 1)), W 2 (.take (ki 0)), W 3 (.take (.t 2))])
.ret) .skip)
(.seq (.ifs [T (.mov (.x 9)), T (.call false 20 [(.t 0)]), T (.un .not (.t 0))] (.t 0) (.seq (.ops [T (.build [.v (.str []), .v (.str [])] []), N (.store 2 (.x 1) (.t 0)), W 2 (.take (ki 0)), W 3 (.take (ki 3))])
.ret) .skip)
(.seq (.ops [T (.mov (.x 8)), T (.call false 19 [(.t 0), (.c (.v (.str [67, 111, 110, 116, 101, 110, 116, 45, 76, 101, 110, 103, 116, 104])))]), T (.take (.t 0)), T (.ext 0 (.t 0)), T (.ext 1 (.t 1)), W 10 (.take (.t 1)), W 6 (.take (.t 1))])
(.seq (.ifs [T (.mov (.x 6)), T (.bin .neq (.t 0) (ki 0))] (.t 0) (.seq (.ops [T (.build [.v (.str []), .v (.str [])] []), T (.take (.x 6)), N (.store 2 (.x 1) (.t 1)), W 2 (.take (ki 0)), W 3 (.take (.t 2))])
.ret) .skip)
(.seq (.ifs [T (.mov (.x 10)), T (.bin .neq (.t 0) (.c (.v (.str [49, 56, 52, 52, 54, 55, 52, 52, 48, 55, 51, 55, 48, 57, 53, 53, 49, 54, 49, 53]))))] (.t 0) (.seq (.ops [T (.build [.v (.str []), .v (.str [])] []), N (.store 2 (.x 1) (.t 0)), W 2 (.take (ki 0)), W 3 (.take (ki 3))])
.ret) .skip)
(.seq (.ops [T (.mov (.x 8)), T (.call false 19 [(.t 0), (.c (.v (.str [83, 83, 84, 80, 67, 79, 82, 82, 69, 76, 65, 84, 73, 79, 78, 73, 68])))]), T (.take (.t 0)), T (.ext 0 (.t 0)), T (.ext 1 (.t 1)), W 11 (.take (.t 1)), W 6 (.take (.t 1))])
(.seq (.ifs [T (.mov (.x 6)), T (.bin .eql (.t 0) (ki 7))] (.t 0) (.seq (.ops [T (.build [.v (.str []), .v (.str [])] []), N (.store 2 (.x 1) (.t 0)), W 2 (.take (ki 0)), W 3 (.take (ki 7))])
.ret) .skip)
(.seq (.seq (.ops [T (.mov (.x 11)), T (.call false 21 [(.t 0)]), T (.take (.t 0)), T (.ext 0 (.t 0)), T (.ext 1 (.t 1)), T (.alloc false (.v (.agg (List.replicate 16 (.int .u8 0))))), N (.store 16 (.t 0) (.t 2)), W 12 (.take (.t 2))])
(.ifs [T (.mov (.x 6)), T (.bin .eql (.t 0) (ki 0)), T (.mov (.t 0)), GT 0 true (.mov (.x 12)), GT 1 true (.bin .neq (.t 0) (ki 0)), T (.pick (.t 2) (.t 0) (kb false))] (.t 0) (.seq (.ops [T (.build [.v (.str []), .v (.str [])] []), N (.store 2 (.x 1) (.t 0)), W 2 (.take (ki 0)), W 3 (.take (ki 3))])
.ret) .skip))
(.seq (.ops [T (.mov (.x 9)), T (.mov (.x 11)), T (.build [.v (.str []), .v (.str [])] [(0, 1, (.t 1)), (1, 1, (.t 0))]), T (.take (.x 5)), N (.store 2 (.x 1) (.t 1)), W 2 (.take (.t 1)), W 3 (.take (ki 0))])
.ret))))))))))))))))))))) }
def euphroeref15_Parse.m : List Nat := [0, 2, 3, 4, 5, 6, 7, 8, 9, 10, 11, 12, 14]
def httpq_Status.s : SFunc := { np := 1, nv := 4, res := [.var 1], code := (.seq (.ops [W 1 (.take (ki 0))])
(.seq (.seq (.ops [W 2 (.mov (.x 0))])
(.block 0 (.ifs [T (.bin .eql (.x 2) (ki 0)), T (.take (.t 0))] (.t 0) (.seq (.ops [W 1 (.take (ki 200))])
.ret) (.ifs [T (.bin .eql (.x 2) (ki 6)), T (.take (.t 0))] (.t 0) (.seq (.ops [W 1 (.take (ki 404))])
.ret) (.ifs [T (.bin .eql (.x 2) (ki 9)), T (.take (.t 0))] (.t 0) (.seq (.ops [W 1 (.take (ki 405))])
.ret) (.ifs [T (.bin .eql (.x 2) (ki 15)), T (.take (.t 0))] (.t 0) (.seq (.ops [W 1 (.take (ki 505))])
.ret) (.seq (.seq (.ops [T (.bin .eql (.x 2) (ki 8)), W 3 (.take (.t 0))])
(.ifs [] (.x 3) .skip (.ops [T (.bin .eql (.x 2) (ki 5)), W 3 (.take (.t 0))])))
(.ifs [] (.x 3) (.seq (.ops [W 1 (.take (ki 431))])
.ret) (.ifs [T (.bin .eql (.x 2) (ki 4)), T (.take (.t 0))] (.t 0) (.seq (.ops [W 1 (.take (ki 0))])
.ret) .skip)))))))))
(.seq (.ops [W 1 (.take (ki 400))])
.ret))) }
def httpq_Status.m : List Nat := [0, 2, 3, 12]
def euphroeref15_Status.s : SFunc := { np := 1, nv := 4, res := [.var 1], code := (.seq (.ops [W 1 (.take (ki 0))])
(.seq (.seq (.ops [W 2 (.mov (.x 0))])
(.block 0 (.ifs [T (.bin .eql (.x 2) (ki 0)), T (.take (.t 0))] (.t 0) (.seq (.ops [W 1 (.take (ki 200))])
.ret) (.ifs [T (.bin .eql (.x 2) (ki 6)), T (.take (.t 0))] (.t 0) (.seq (.ops [W 1 (.take (ki 404))])
.ret) (.ifs [T (.bin .eql (.x 2) (ki 9)), T (.take (.t 0))] (.t 0) (.seq (.ops [W 1 (.take (ki 405))])
.ret) (.ifs [T (.bin .eql (.x 2) (ki 15)), T (.take (.t 0))] (.t 0) (.seq (.ops [W 1 (.take (ki 505))])
.ret) (.seq (.seq (.ops [T (.bin .eql (.x 2) (ki 8)), W 3 (.take (.t 0))])
(.ifs [] (.x 3) .skip (.ops [T (.bin .eql (.x 2) (ki 5)), W 3 (.take (.t 0))])))
(.ifs [] (.x 3) (.seq (.ops [W 1 (.take (ki 431))])
.ret) (.ifs [T (.bin .eql (.x 2) (ki 4)), T (.take (.t 0))] (.t 0) (.seq (.ops [W 1 (.take (ki 0))])
.ret) .skip)))))))))
(.seq (.ops [W 1 (.take (ki 400))])
.ret))) }
def euphroeref15_Status.m : List Nat := [0, 2, 3, 12]
def httpq_Lay.s : SFunc := { np := 1, nv := 5, res := [.var 2, .var 3], code := (.seq (.ops [W 1 (.box false (.x 0)), W 2 (.take (kn 1)), W 3 (.take (ki 0))])
(.seq (.ifs [T (.fa 0 (.x 1)), T (.load none (.t 0)), T (.call false 22 [(.t 0)]), T (.un .not (.t 0)), T (.mov (.t 0)), GT 0 false (.fa 1 (.x 1)), GT 1 false (.load none (.t 0)), GT 2 false (.call false 23 [(.t 0)]), GT 3 false (.un .not (.t 0)), T (.pick (.t 4) (kb true) (.t 0))] (.t 0) (.seq (.ops [W 2 (.take (kn 1)), W 3 (.take (ki 3))])
.ret) .skip)
(.seq (.ops [T (.fa 0 (.x 1)), T (.load none (.t 0)), T (.bin .add (.c (.v (.str [72, 111, 115, 116, 58, 32]))) (.t 0)), T (.lit 1 [(.c (.v (.str [83, 83, 84, 80, 95, 68, 85, 80, 76, 69, 88, 95, 80, 79, 83, 84, 32, 47, 115, 114, 97, 95, 123, 66, 65, 49, 57, 53, 57, 56, 48, 45, 67, 68, 52, 57, 45, 52, 53, 56, 98, 45, 57, 69, 50, 51, 45, 67, 56, 52, 69, 69, 48, 65, 68, 67, 68, 55, 53, 125, 47, 32, 72, 84, 84, 80, 47, 49, 46, 49]))), (.t 0), (.c (.v (.str [67, 111, 110, 116, 101, 110, 116, 45, 76, 101, 110, 103, 116, 104, 58, 32, 49, 56, 52, 52, 54, 55, 52, 52, 48, 55, 51, 55, 48, 57, 53, 53, 49, 54, 49, 53])))]), W 4 (.take (.t 0))])
(.seq (.ifs [T (.fa 1 (.x 1)), T (.load none (.t 0)), T (.bin .neq (.t 0) (.c (.v (.str []))))] (.t 0) (.ops [T (.take (.x 4)), T (.fa 1 (.x 1)), T (.load none (.t 0)), T (.bin .add (.c (.v (.str [83, 83, 84, 80, 67, 79, 82, 82, 69, 76, 65, 84, 73, 79, 78, 73, 68, 58, 32]))) (.t 0)), T (.lit 1 [(.t 0)]), T (.app 1 16 (.t 4) (.t 0)), W 4 (.take (.t 0))]) .skip)
(.seq (.ops [T (.mov (.x 4)), T (.call false 24 [(.t 0), (.c (.v (.str [13, 10])))]), T (.bin .add (.t 0) (.c (.v (.str [13, 10])))), T (.bin .add (.t 0) (.c (.v (.str [13, 10])))), T (.s2b (.t 0)), W 2 (.take (.t 0)), W 3 (.take (ki 0))])
.ret))))) }
def httpq_Lay.m : List Nat := [0, 1, 2, 3, 4]
def httpq_Id.l0 : SCode := (.seq (.ifs [T (.bin .lss (.x 7) (ki 5))] (.t 0) .skip (.exit 0))
(.seq (.block 1 (.seq (.ops [T (.mov (.x 7)), T (.idxA 5 1 none (.x 6) (.x 7)), W 8 (.take (.t 1)), W 9 (.take (.t 1))])
(.seq (.ifs [T (.mov (.x 5)), T (.mov (.x 8)), T (.ia 1 (.t 1) (.t 0)), T (.load none (.t 0)), T (.lens (.t 0)), T (.mov (.x 9)), T (.bin .eql (.t 1) (.t 0))] (.t 0) (.exit 1) .skip)
(.seq (.ops [T (.build (List.replicate 16 (.v (.int .u8 0))) []), N (.store 16 (.x 1) (.t 0)), W 2 (.take (ki 3))])
.ret))))
(.ops [T (.bin .add (.x 7) (ki 1)), W 7 (.mov (.t 0))])))
def httpq_Id.s : SFunc := { np := 1, nv := 12, res := [.cell (some 16) 1, .var 2], code := (.seq (.ops [W 1 (.alloc false (.v (.agg (List.replicate 16 (.int .u8 0))))), W 2 (.take (ki 0))])
(.seq (.seq (.ops [T (.mov (.x 0)), T (.call false 25 [(.t 0), (.c (.v (.str [123])))]), T (.take (.t 0)), T (.ext 0 (.t 0)), T (.ext 1 (.t 1)), W 0 (.take (.t 1)), W 3 (.take (.t 1))])
(.seq (.ops [T (.mov (.x 0)), T (.call false 26 [(.t 0), (.c (.v (.str [125])))]), T (.take (.t 0)), T (.ext 0 (.t 0)), T (.ext 1 (.t 1)), W 0 (.take (.t 1)), W 4 (.take (.t 1))])
(.seq (.ops [T (.mov (.x 0)), T (.call false 27 [(.t 0), (.c (.v (.str [45])))]), W 5 (.take (.t 0))])
(.seq (.ifs [T (.mov (.x 3)), T (.un .not (.t 0)), T (.mov (.t 0)), GT 0 false (.mov (.x 4)), GT 1 false (.un .not (.t 0)), T (.pick (.t 2) (kb true) (.t 0)), T (.mov (.t 0)), GT 0 false (.mov (.x 5)), GT 1 false (.len (.t 0)), GT 2 false (.call false 28 []), GT 3 false (.mov (ki 5)), GT 4 false (.bin .neq (.t 2) (.t 0)), T (.pick (.t 5) (kb true) (.t 0))] (.t 0) (.seq (.ops [T (.build (List.replicate 16 (.v (.int .u8 0))) []), N (.store 16 (.x 1) (.t 0)), W 2 (.take (ki 3))])
.ret) .skip)
(.seq .skip
(.seq (.seq (.ops [W 6 (.call false 28 []), W 7 (.mov (ki 0))])
(.block 0 (.loop [8, 9] httpq_Id.l0)))
(.seq (.ops [T (.mov (.x 5)), T (.call false 24 [(.t 0), (.c (.v (.str [])))]), T (.call false 29 [(.t 0)]), T (.take (.t 0)), T (.ext 0 (.t 0)), T (.ext 1 (.t 1)), W 10 (.take (.t 1)), W 11 (.take (.t 1))])
(.seq (.ifs [T (.mov (.x 11)), T (.bin .neq (.t 0) (ki 0))] (.t 0) (.seq (.ops [T (.build (List.replicate 16 (.v (.int .u8 0))) []), N (.store 16 (.x 1) (.t 0)), W 2 (.take (ki 3))])
.ret) .skip)
(.seq (.ops [T (.mov (.x 10)), T (.s2a 16 (.t 0)), T (.load (some 16) (.t 0)), N (.store 16 (.x 1) (.t 0)), W 2 (.take (ki 0))])
.ret))))))))) .skip)) }
def httpq_Id.m : List Nat := [0, 2, 3, 4, 5, 6, 37, 38, 7, 8, 9, 10]
def httpq_Guid.l0 : SCode := (.seq (.ifs [T (.bin .lss (.x 6) (ki 5))] (.t 0) .skip (.exit 0))
(.seq (.block 1 (.seq (.ops [T (.idxA 5 1 none (.x 5) (.x 6)), W 7 (.take (.t 0))])
(.seq (.ops [T (.take (.x 4)), T (.mov (.x 3)), T (.mov (.x 7)), T (.subs (.t 1) none (some (.t 0))), T (.lit 1 [(.t 0)]), T (.app 1 16 (.t 4) (.t 0)), W 4 (.take (.t 0))])
(.ops [T (.mov (.x 3)), T (.mov (.x 7)), T (.subs (.t 1) (some (.t 0)) none), W 3 (.take (.t 0))]))))
(.ops [T (.bin .add (.x 6) (ki 1)), W 6 (.mov (.t 0))])))
def httpq_Guid.s : SFunc := { np := 1, nv := 8, res := [.var 2], code := (.seq (.ops [W 1 (.box false (.x 0)), W 2 (.take (.c (.v (.str []))))])
(.seq (.ops [T (.subA 16 (.x 1) none none none), T (.call false 30 [(.t 0)]), W 3 (.take (.t 0))])
(.seq (.ops [W 4 (.take (kn 1))])
(.seq (.seq (.ops [W 5 (.call false 28 []), W 6 (.mov (ki 0))])
(.block 0 (.loop [7] httpq_Guid.l0)))
(.seq (.ops [T (.mov (.x 4)), T (.call false 24 [(.t 0), (.c (.v (.str [45])))]), T (.bin .add (.c (.v (.str [123]))) (.t 0)), T (.bin .add (.t 0) (.c (.v (.str [125])))), W 2 (.take (.t 0))])
.ret))))) }
def httpq_Guid.m : List Nat := [0, 1, 2, 3, 4, 9, 10, 6]
def words_Head.l2 : SCode := (.block 4 (.ifs [T (.mov (.x 13)), T (.bin .neq (.t 0) (.c (.v (.str []))))] (.t 0) (.ops [T (.loadT (.x 11) []), T (.mov (.x 13)), T (.lit 1 [(.t 0)]), T (.app 1 16 (.t 2) (.t 0)), N (.store 1 (.x 11) (.t 0))]) .skip))
def words_Head.l1 : SCode := (.ops [W 13 (.take (.x 1))])
def words_Head.l0 : SCode := (.seq (.ifs [T (.bin .lss (.x 9) (.x 8))] (.t 0) .skip (.exit 0))
(.seq (.block 1 (.seq (.ops [T (.mov (.x 9)), W 10 (.take (.t 0))])
(.ifs [T (.mov (.x 0)), T (.mov (.x 10)), T (.call false 33 [(.t 1), (.t 0)]), T (.un .not (.t 0))] (.t 0) (.seq (.ops [W 2 (.take (kn 1)), W 3 (.take (ki 0)), W 4 (.take (ki 3))])
.ret) .skip)))
(.ops [T (.bin .add (.x 9) (ki 1)), W 9 (.mov (.t 0))])))
def words_Head.s : SFunc := { np := 1, nv := 14, res := [.var 2, .var 3, .var 4], code := (.seq (.ops [W 2 (.take (kn 1)), W 3 (.take (ki 0)), W 4 (.take (ki 0))])
(.seq (.ops [T (.mov (.x 0)), N (.cst .undef), T (.lit 1 [(kk .u8 13), (kk .u8 10), (kk .u8 13), (kk .u8 10)]), T (.call false 31 [(.t 2), (.t 0)]), W 5 (.take (.t 0))])
(.seq (.ifs [T (.mov (.x 0)), N (.cst .undef), T (.lit 1 [(kk .u8 13), (kk .u8 10)]), T (.call false 32 [(.t 2), (.t 0)])] (.t 0) (.ops [W 5 (.take (ki (-2)))]) .skip)
(.seq (.ops [T (.mov (.x 5)), T (.bin .geq (.t 0) (ki 0)), T (.mov (.t 0)), GT 0 false (.mov (.x 0)), GN 1 false (.cst .undef), GT 2 false (.lit 1 [(kk .u8 13), (kk .u8 10)]), GT 3 false (.call false 32 [(.t 2), (.t 0)]), T (.pick (.t 4) (kb true) (.t 0)), W 6 (.take (.t 0))])
(.seq (.ops [T (.mov (.x 0)), T (.len (.t 0)), T (.mn (.t 0) (ki 2048)), W 7 (.take (.t 0))])
(.seq (.ifs [T (.mov (.x 6))] (.t 0) (.ops [T (.mov (.x 7)), T (.mov (.x 5)), T (.bin .add (.t 0) (ki 4)), T (.mn (.t 2) (.t 0)), W 7 (.take (.t 0))]) .skip)
(.seq (.seq (.ops [W 8 (.mov (.x 7)), W 9 (.mov (ki 0))])
(.block 0 (.loop [10] words_Head.l0)))
(.seq (.block 2 (.ifs [T (.mov (.x 6)), T (.mov (.t 0)), GT 0 true (.mov (.x 5)), GT 1 true (.bin .add (.t 0) (ki 4)), GT 2 true (.bin .leq (.t 0) (ki 2048)), T (.pick (.t 3) (.t 0) (kb false)), T (.take (.t 0))] (.t 0) (.seq (.ops [W 11 (.alloc false (.nils 1))])
(.seq (.seq (.ops [T (.mov (.x 0)), T (.mov (.x 5)), T (.mx (.t 0) (ki 0)), T (.sub 1 (.t 2) none (some (.t 0)) none), T (.b2s (.t 0)), W 12 (.call true 34 [(.t 0), (.c (.v (.str [13, 10])))])])
(.block 3 (.range 0 77 12 [1] words_Head.l1 words_Head.l2)))
(.seq (.ops [T (.load none (.x 11)), T (.mov (.x 5)), T (.bin .add (.t 0) (ki 4)), W 2 (.take (.t 2)), W 3 (.take (.t 1)), W 4 (.take (ki 0))])
.ret))) (.ifs [T (.mov (.x 0)), T (.len (.t 0)), T (.bin .lss (.t 0) (ki 2048)), T (.take (.t 0))] (.t 0) (.seq (.ops [W 2 (.take (kn 1)), W 3 (.take (ki 0)), W 4 (.take (ki 4))])
.ret) .skip)))
(.seq (.ops [W 2 (.take (kn 1)), W 3 (.take (ki 0)), W 4 (.take (ki 8))])
.ret))))))))) }
def words_Head.m : List Nat := [0, 57, 2, 3, 4, 5, 6, 7, 35, 36, 8, 9, 56, 10]
def httpq_line.s : SFunc := { np := 1, nv := 4, res := [.var 1, .var 2], code := (.seq (.ops [W 1 (.take (.c (.v (.str [])))), W 2 (.take (ki 0))])
(.seq (.ops [T (.mov (.x 0)), T (.call false 27 [(.t 0), (.c (.v (.str [32])))]), W 3 (.take (.t 0))])
(.seq (.block 0 (.ifs [T (.mov (.x 3)), T (.len (.t 0)), T (.bin .neq (.t 0) (ki 3)), T (.mov (.t 0)), GT 0 false (.mov (.x 3)), GT 1 false (.ia 1 (.t 0) (ki 0)), GT 2 false (.load none (.t 0)), GT 3 false (.bin .eql (.t 0) (.c (.v (.str [])))), T (.pick (.t 4) (kb true) (.t 0)), T (.mov (.t 0)), GT 0 false (.mov (.x 3)), GT 1 false (.ia 1 (.t 0) (ki 1)), GT 2 false (.load none (.t 0)), GT 3 false (.bin .eql (.t 0) (.c (.v (.str [])))), T (.pick (.t 4) (kb true) (.t 0)), T (.mov (.t 0)), GT 0 false (.mov (.x 3)), GT 1 false (.ia 1 (.t 0) (ki 2)), GT 2 false (.load none (.t 0)), GT 3 false (.bin .eql (.t 0) (.c (.v (.str [])))), T (.pick (.t 4) (kb true) (.t 0)), T (.take (.t 0))] (.t 0) (.seq (.ops [W 1 (.take (.c (.v (.str [])))), W 2 (.take (ki 3))])
.ret) (.ifs [T (.mov (.x 3)), T (.ia 1 (.t 0) (ki 0)), T (.load none (.t 0)), T (.bin .neq (.t 0) (.c (.v (.str [83, 83, 84, 80, 95, 68, 85, 80, 76, 69, 88, 95, 80, 79, 83, 84])))), T (.take (.t 0))] (.t 0) (.seq (.ops [W 1 (.take (.c (.v (.str [])))), W 2 (.take (ki 9))])
.ret) (.ifs [T (.mov (.x 3)), T (.ia 1 (.t 0) (ki 2)), T (.load none (.t 0)), T (.bin .neq (.t 0) (.c (.v (.str [72, 84, 84, 80, 47, 49, 46, 49])))), T (.take (.t 0))] (.t 0) (.seq (.ops [W 1 (.take (.c (.v (.str [])))), W 2 (.take (ki 15))])
.ret) .skip))))
(.seq (.ops [T (.mov (.x 3)), T (.ia 1 (.t 0) (ki 1)), T (.load none (.t 0)), W 1 (.take (.t 0)), W 2 (.take (ki 0))])
.ret)))) }
def httpq_line.m : List Nat := [0, 2, 3, 4]
def words_Fields.l0 : SCode := (.seq (.ifs [T (.bin .lss (.x 6) (.x 5))] (.t 0) .skip (.exit 0))
(.seq (.block 1 (.seq (.ops [T (.ia 1 (.x 4) (.x 6)), T (.load none (.t 0)), W 7 (.take (.t 0))])
(.seq (.ops [T (.mov (.x 7)), T (.call false 35 [(.t 0), (.c (.v (.str [58])))]), T (.take (.t 0)), T (.ext 0 (.t 0)), T (.ext 1 (.t 1)), T (.ext 2 (.t 2)), W 8 (.take (.t 2)), W 9 (.take (.t 2)), W 10 (.take (.t 2))])
(.seq (.ifs [T (.mov (.x 10)), T (.un .not (.t 0)), T (.mov (.t 0)), GT 0 false (.mov (.x 8)), GT 1 false (.call false 36 [(.t 0)]), GT 2 false (.un .not (.t 0)), T (.pick (.t 3) (kb true) (.t 0))] (.t 0) (.seq (.ops [W 1 (.take (kn 2)), W 2 (.take (ki 3))])
.ret) .skip)
(.ops [T (.take (.x 3)), T (.mov (.x 8)), T (.mov (.x 9)), T (.call false 37 [(.t 0)]), T (.build [.v (.str []), .v (.str [])] [(0, 1, (.t 2)), (1, 1, (.t 0))]), T (.lit 2 [(.t 0)]), T (.app 2 32 (.t 5) (.t 0)), W 3 (.take (.t 0))])))))
(.ops [T (.bin .add (.x 6) (ki 1)), W 6 (.mov (.t 0))])))
def words_Fields.s : SFunc := { np := 1, nv := 11, res := [.var 1, .var 2], code := (.seq (.ops [W 1 (.take (kn 2)), W 2 (.take (ki 0))])
(.seq (.ifs [T (.mov (.x 0)), T (.len (.t 0)), T (.bin .gtr (.t 0) (ki 32))] (.t 0) (.seq (.ops [W 1 (.take (kn 2)), W 2 (.take (ki 5))])
.ret) .skip)
(.seq (.ops [W 3 (.take (kn 2))])
(.seq (.seq (.ops [W 4 (.mov (.x 0)), W 5 (.len (.x 4)), W 6 (.mov (ki 0))])
(.block 0 (.loop [7, 8, 9, 10] words_Fields.l0)))
(.seq (.ops [T (.take (.x 3)), W 1 (.take (.t 0)), W 2 (.take (ki 0))])
.ret))))) }
def words_Fields.m : List Nat := [0, 2, 3, 4, 13, 14, 15, 6, 7, 8, 9]
def httpq_fields.s : SFunc := { np := 1, nv := 7, res := [.cell (some 2) 1, .var 2], code := (.seq (.ops [W 1 (.alloc false zz0), W 2 (.take (ki 0))])
(.seq (.ops [T (.mov (.x 0)), T (.call true 38 [(.t 0), (.c (.v (.str [72, 111, 115, 116]))), (.c (.v (.fn 22)))]), T (.take (.t 0)), T (.ext 0 (.t 0)), T (.ext 1 (.t 1)), W 3 (.take (.t 1)), W 4 (.take (.t 1))])
(.seq (.ifs [T (.mov (.x 4)), T (.bin .neq (.t 0) (ki 0))] (.t 0) (.seq (.ops [T (.build [.v (.str []), .v (.str [])] []), T (.take (.x 4)), N (.store 2 (.x 1) (.t 1)), W 2 (.take (.t 1))])
.ret) .skip)
(.seq (.seq (.ops [T (.mov (.x 0)), T (.call true 38 [(.t 0), (.c (.v (.str [67, 111, 110, 116, 101, 110, 116, 45, 76, 101, 110, 103, 116, 104]))), (.c (.v (.fn 39)))]), T (.take (.t 0)), T (.ext 0 (.t 0)), T (.ext 1 (.t 1)), T (.take (.t 1)), W 5 (.take (.t 1))])
(.ifs [T (.mov (.x 5)), T (.bin .neq (.t 0) (ki 0))] (.t 0) (.seq (.ops [T (.build [.v (.str []), .v (.str [])] []), T (.take (.x 5)), N (.store 2 (.x 1) (.t 1)), W 2 (.take (.t 1))])
.ret) .skip))
(.seq (.ops [T (.mov (.x 0)), T (.call true 38 [(.t 0), (.c (.v (.str [83, 83, 84, 80, 67, 79, 82, 82, 69, 76, 65, 84, 73, 79, 78, 73, 68]))), (.c (.v (.fn 40)))]), T (.take (.t 0)), T (.ext 0 (.t 0)), T (.ext 1 (.t 1)), W 6 (.take (.t 1)), W 4 (.take (.t 1))])
(.seq (.ifs [T (.mov (.x 4)), T (.bin .neq (.t 0) (ki 0)), T (.mov (.t 0)), GT 0 true (.mov (.x 4)), GT 1 true (.bin .neq (.t 0) (ki 6)), T (.pick (.t 2) (.t 0) (kb false))] (.t 0) (.seq (.ops [T (.build [.v (.str []), .v (.str [])] []), T (.take (.x 4)), N (.store 2 (.x 1) (.t 1)), W 2 (.take (.t 1))])
.ret) .skip)
(.seq (.ops [T (.mov (.x 3)), T (.mov (.x 6)), T (.build [.v (.str []), .v (.str [])] [(0, 1, (.t 1)), (1, 1, (.t 0))]), N (.store 2 (.x 1) (.t 0)), W 2 (.take (ki 0))])
.ret))))))) }
def httpq_fields.m : List Nat := [0, 2, 3, 4, 5, 7, 8]
def euphroeref14_Head.l0 : SCode := (.seq (.ifs [T (.mov (.x 6)), T (.mov (.x 0)), T (.len (.t 0)), T (.bin .lss (.t 2) (.t 0)), T (.mov (.t 0)), GT 0 true (.mov (.x 6)), GT 1 true (.bin .lss (.t 0) (ki 2048)), T (.pick (.t 2) (.t 0) (kb false))] (.t 0) .skip (.exit 0))
(.seq (.block 1 (.seq (.ops [T (.mov (.x 0)), T (.mov (.x 6)), T (.ia 1 (.t 1) (.t 0)), T (.load none (.t 0)), W 7 (.take (.t 0))])
(.seq (.ifs [T (.mov (.x 7)), T (.bin .geq (.t 0) (kk .u8 32)), T (.mov (.t 0)), GT 0 true (.mov (.x 7)), GT 1 true (.bin .leq (.t 0) (kk .u8 126)), T (.pick (.t 2) (.t 0) (kb false)), T (.mov (.t 0)), GT 0 false (.mov (.x 7)), GT 1 false (.bin .eql (.t 0) (kk .u8 9)), T (.pick (.t 2) (kb true) (.t 0))] (.t 0) (.seq (.ops [T (.mov (.x 5)), T (.mov (.x 0)), T (.mov (.x 6)), T (.mov (.x 6)), T (.bin .add (.t 0) (ki 1)), T (.sub 1 (.t 3) (some (.t 2)) (some (.t 0)) none), T (.b2s (.t 0)), T (.bin .add (.t 6) (.t 0)), W 5 (.take (.t 0))])
(.exit 1)) .skip)
(.seq (.ifs [T (.mov (.x 7)), T (.bin .eql (.t 0) (kk .u8 13)), T (.mov (.t 0)), GT 0 true (.mov (.x 6)), GT 1 true (.bin .add (.t 0) (ki 1)), GT 2 true (.mov (.x 0)), GT 3 true (.len (.t 0)), GT 4 true (.bin .eql (.t 2) (.t 0)), GT 5 true (.mov (.t 0)), GT 0 false (.mov (.x 6)), GT 1 false (.bin .add (.t 0) (ki 1)), GT 2 false (.bin .eql (.t 0) (ki 2048)), GT 9 true (.pick (.t 3) (kb true) (.t 0)), GT 10 true (.mov (.t 0)), GT 0 false (.mov (.x 0)), GT 1 false (.mov (.x 6)), GT 2 false (.bin .add (.t 0) (ki 1)), GT 3 false (.ia 1 (.t 2) (.t 0)), GT 4 false (.load none (.t 0)), GT 5 false (.bin .eql (.t 0) (kk .u8 10)), GT 17 true (.pick (.t 6) (kb true) (.t 0)), T (.pick (.t 18) (.t 0) (kb false))] (.t 0) (.exit 1) .skip)
(.seq (.ifs [T (.mov (.x 7)), T (.bin .neq (.t 0) (kk .u8 10)), T (.mov (.t 0)), GT 0 false (.mov (.x 6)), GT 1 false (.bin .eql (.t 0) (ki 0)), T (.pick (.t 2) (kb true) (.t 0)), T (.mov (.t 0)), GT 0 false (.mov (.x 0)), GT 1 false (.mov (.x 6)), GT 2 false (.bin .sub (.t 0) (ki 1)), GT 3 false (.ia 1 (.t 2) (.t 0)), GT 4 false (.load none (.t 0)), GT 5 false (.bin .neq (.t 0) (kk .u8 13)), T (.pick (.t 6) (kb true) (.t 0))] (.t 0) (.seq (.ops [W 1 (.take (kn 1)), W 2 (.take (ki 0)), W 3 (.take (ki 3))])
.ret) .skip)
(.seq (.ifs [T (.mov (.x 5)), T (.bin .eql (.t 0) (.c (.v (.str []))))] (.t 0) (.seq (.ops [T (.take (.x 4)), T (.mov (.x 6)), T (.bin .add (.t 0) (ki 1)), W 1 (.take (.t 2)), W 2 (.take (.t 1)), W 3 (.take (ki 0))])
.ret) .skip)
(.seq (.ops [T (.take (.x 4)), T (.mov (.x 5)), T (.lit 1 [(.t 0)]), T (.app 1 16 (.t 2) (.t 0)), W 4 (.take (.t 0))])
(.ops [W 5 (.take (.c (.v (.str []))))]))))))))
(.ops [T (.mov (.x 6)), T (.bin .add (.t 0) (ki 1)), W 6 (.take (.t 0))])))
def euphroeref14_Head.s : SFunc := { np := 1, nv := 8, res := [.var 1, .var 2, .var 3], code := (.seq (.ops [W 1 (.take (kn 1)), W 2 (.take (ki 0)), W 3 (.take (ki 0))])
(.seq (.ops [W 4 (.take (kn 1))])
(.seq (.ops [W 5 (.take (.c (.v (.str []))))])
(.seq (.seq (.ops [W 6 (.take (ki 0))])
(.block 0 (.loop [7] euphroeref14_Head.l0)))
(.seq (.ifs [T (.mov (.x 0)), T (.len (.t 0)), T (.bin .lss (.t 0) (ki 2048))] (.t 0) (.seq (.ops [W 1 (.take (kn 1)), W 2 (.take (ki 0)), W 3 (.take (ki 4))])
.ret) .skip)
(.seq (.ops [W 1 (.take (kn 1)), W 2 (.take (ki 0)), W 3 (.take (ki 8))])
.ret)))))) }
def euphroeref14_Head.m : List Nat := [0, 2, 3, 4, 5, 6, 7, 8]
def euphroeref14_Fields.l1 : SCode := (.seq (.ifs [T (.mov (.x 5)), T (.mov (.x 0)), T (.mov (.x 4)), T (.ia 1 (.t 1) (.t 0)), T (.load none (.t 0)), T (.lens (.t 0)), T (.bin .lss (.t 5) (.t 0)), T (.mov (.t 0)), GT 0 true (.mov (.x 0)), GT 1 true (.mov (.x 4)), GT 2 true (.ia 1 (.t 1) (.t 0)), GT 3 true (.load none (.t 0)), GT 4 true (.mov (.x 5)), GT 5 true (.idx (.t 1) (.t 0)), GT 6 true (.bin .neq (.t 0) (kk .u8 58)), T (.pick (.t 7) (.t 0) (kb false))] (.t 0) .skip (.exit 2))
(.block 3 (.ops [T (.mov (.x 5)), T (.bin .add (.t 0) (ki 1)), W 5 (.take (.t 0))])))
def euphroeref14_Fields.l0 : SCode := (.seq (.ifs [T (.mov (.x 4)), T (.mov (.x 0)), T (.len (.t 0)), T (.bin .lss (.t 2) (.t 0))] (.t 0) .skip (.exit 0))
(.seq (.block 1 (.seq (.ops [W 5 (.take (ki 0))])
(.seq (.block 2 (.loop [] euphroeref14_Fields.l1))
(.seq (.ifs [T (.mov (.x 5)), T (.mov (.x 0)), T (.mov (.x 4)), T (.ia 1 (.t 1) (.t 0)), T (.load none (.t 0)), T (.lens (.t 0)), T (.bin .eql (.t 5) (.t 0)), T (.mov (.t 0)), GT 0 false (.mov (.x 0)), GT 1 false (.mov (.x 4)), GT 2 false (.ia 1 (.t 1) (.t 0)), GT 3 false (.load none (.t 0)), GT 4 false (.mov (.x 5)), GT 5 false (.subs (.t 1) none (some (.t 0))), GT 6 false (.call false 41 [(.t 0)]), GT 7 false (.un .not (.t 0)), T (.pick (.t 8) (kb true) (.t 0))] (.t 0) (.seq (.ops [W 1 (.take (kn 2)), W 2 (.take (ki 3))])
.ret) .skip)
(.ops [T (.take (.x 3)), T (.mov (.x 0)), T (.mov (.x 4)), T (.ia 1 (.t 1) (.t 0)), T (.load none (.t 0)), T (.mov (.x 5)), T (.subs (.t 1) none (some (.t 0))), T (.mov (.x 0)), T (.mov (.x 4)), T (.ia 1 (.t 1) (.t 0)), T (.load none (.t 0)), T (.mov (.x 5)), T (.bin .add (.t 0) (ki 1)), T (.subs (.t 2) (some (.t 0)) none), T (.call false 42 [(.t 0)]), T (.build [.v (.str []), .v (.str [])] [(0, 1, (.t 8)), (1, 1, (.t 0))]), T (.lit 2 [(.t 0)]), T (.app 2 32 (.t 16) (.t 0)), W 3 (.take (.t 0))])))))
(.ops [T (.mov (.x 4)), T (.bin .add (.t 0) (ki 1)), W 4 (.take (.t 0))])))
def euphroeref14_Fields.s : SFunc := { np := 1, nv := 6, res := [.var 1, .var 2], code := (.seq (.ops [W 1 (.take (kn 2)), W 2 (.take (ki 0))])
(.seq (.ifs [T (.mov (.x 0)), T (.len (.t 0)), T (.bin .gtr (.t 0) (ki 32))] (.t 0) (.seq (.ops [W 1 (.take (kn 2)), W 2 (.take (ki 5))])
.ret) .skip)
(.seq (.ops [W 3 (.take (kn 2))])
(.seq (.seq (.ops [W 4 (.take (ki 0))])
(.block 0 (.loop [5] euphroeref14_Fields.l0)))
(.seq (.ops [T (.take (.x 3)), W 1 (.take (.t 0)), W 2 (.take (ki 0))])
.ret))))) }
def euphroeref14_Fields.m : List Nat := [0, 2, 3, 4, 5, 6]
def euphroeref14_Find.l0 : SCode := (.seq (.ifs [T (.mov (.x 6)), T (.mov (.x 0)), T (.len (.t 0)), T (.bin .lss (.t 2) (.t 0))] (.t 0) .skip (.exit 0))
(.seq (.block 1 (.ifs [T (.mov (.x 0)), T (.mov (.x 6)), T (.ia 2 (.t 1) (.t 0)), T (.fa 0 (.t 0)), T (.load none (.t 0)), T (.mov (.x 1)), T (.call false 43 [(.t 1), (.t 0)])] (.t 0) (.seq (.ops [T (.mov (.x 4)), T (.bin .add (.t 0) (ki 1)), W 4 (.take (.t 0))])
(.ops [T (.mov (.x 0)), T (.mov (.x 6)), T (.ia 2 (.t 1) (.t 0)), T (.fa 1 (.t 0)), T (.load none (.t 0)), W 5 (.take (.t 0))])) .skip))
(.ops [T (.mov (.x 6)), T (.bin .add (.t 0) (ki 1)), W 6 (.take (.t 0))])))
def euphroeref14_Find.s : SFunc := { np := 2, nv := 7, res := [.var 2, .var 3], code := (.seq (.ops [W 2 (.take (.c (.v (.str [])))), W 3 (.take (ki 0))])
(.seq (.ops [W 4 (.take (ki 0)), W 5 (.take (.c (.v (.str []))))])
(.seq (.seq (.ops [W 6 (.take (ki 0))])
(.block 0 (.loop [] euphroeref14_Find.l0)))
(.seq (.ifs [T (.mov (.x 4)), T (.bin .eql (.t 0) (ki 0))] (.t 0) (.seq (.ops [W 2 (.take (.c (.v (.str [])))), W 3 (.take (ki 6))])
.ret) .skip)
(.seq (.ifs [T (.mov (.x 4)), T (.bin .gtr (.t 0) (ki 1))] (.t 0) (.seq (.ops [W 2 (.take (.c (.v (.str [])))), W 3 (.take (ki 7))])
.ret) .skip)
(.seq (.ops [T (.take (.x 5)), W 2 (.take (.t 0)), W 3 (.take (ki 0))])
.ret)))))) }
def euphroeref14_Find.m : List Nat := [0, 1, 4, 5, 6, 7, 8]
def euphroeref15_host.l0 : SCode := (.seq (.ifs [T (.mov (.x 2)), T (.mov (.x 0)), T (.lens (.t 0)), T (.bin .lss (.t 2) (.t 0))] (.t 0) .skip (.exit 0))
(.seq (.block 1 (.ifs [T (.mov (.x 0)), T (.mov (.x 2)), T (.idx (.t 1) (.t 0)), T (.bin .lss (.t 0) (kk .u8 33)), T (.mov (.t 0)), GT 0 false (.mov (.x 0)), GT 1 false (.mov (.x 2)), GT 2 false (.idx (.t 1) (.t 0)), GT 3 false (.bin .gtr (.t 0) (kk .u8 126)), T (.pick (.t 4) (kb true) (.t 0))] (.t 0) (.seq (.ops [W 1 (.take (kb false))])
.ret) .skip))
(.ops [T (.mov (.x 2)), T (.bin .add (.t 0) (ki 1)), W 2 (.take (.t 0))])))
def euphroeref15_host.s : SFunc := { np := 1, nv := 3, res := [.var 1], code := (.seq (.ops [W 1 (.take (kb false))])
(.seq (.seq (.ops [W 2 (.take (ki 0))])
(.block 0 (.loop [] euphroeref15_host.l0)))
(.seq (.ops [T (.mov (.x 0)), T (.lens (.t 0)), T (.bin .geq (.t 0) (ki 1)), T (.mov (.t 0)), GT 0 true (.mov (.x 0)), GT 1 true (.lens (.t 0)), GT 2 true (.bin .leq (.t 0) (ki 255)), T (.pick (.t 3) (.t 0) (kb false)), W 1 (.take (.t 0))])
.ret))) }
def euphroeref15_host.m : List Nat := [0, 2, 3]
def euphroeref15_Id.l0 : SCode := (.seq (.ifs [T (.mov (.x 6)), T (.bin .lss (.t 0) (ki 16))] (.t 0) .skip (.exit 0))
(.seq (.block 1 (.ops [T (.mov (.x 6)), T (.mov (.x 4)), T (.mov (.x 6)), T (.ia 1 (.t 1) (.t 0)), T (.load none (.t 0)), T (.iaA 16 1 (.x 3) (.t 4)), N (.store 1 (.t 0) (.t 1))]))
(.ops [T (.mov (.x 6)), T (.bin .add (.t 0) (ki 1)), W 6 (.take (.t 0))])))
def euphroeref15_Id.s : SFunc := { np := 1, nv := 7, res := [.cell (some 16) 1, .var 2], code := (.seq (.ops [W 1 (.alloc false (.v (.agg (List.replicate 16 (.int .u8 0))))), W 2 (.take (ki 0))])
(.seq (.ops [W 3 (.alloc false (.v (.agg (List.replicate 16 (.int .u8 0)))))])
(.seq (.ifs [T (.mov (.x 0)), T (.lens (.t 0)), T (.bin .neq (.t 0) (ki 38)), T (.mov (.t 0)), GT 0 false (.mov (.x 0)), GT 1 false (.idx (.t 0) (ki 0)), GT 2 false (.bin .neq (.t 0) (kk .u8 123)), T (.pick (.t 3) (kb true) (.t 0)), T (.mov (.t 0)), GT 0 false (.mov (.x 0)), GT 1 false (.idx (.t 0) (ki 37)), GT 2 false (.bin .neq (.t 0) (kk .u8 125)), T (.pick (.t 3) (kb true) (.t 0)), T (.mov (.t 0)), GT 0 false (.mov (.x 0)), GT 1 false (.idx (.t 0) (ki 9)), GT 2 false (.bin .neq (.t 0) (kk .u8 45)), T (.pick (.t 3) (kb true) (.t 0)), T (.mov (.t 0)), GT 0 false (.mov (.x 0)), GT 1 false (.idx (.t 0) (ki 14)), GT 2 false (.bin .neq (.t 0) (kk .u8 45)), T (.pick (.t 3) (kb true) (.t 0)), T (.mov (.t 0)), GT 0 false (.mov (.x 0)), GT 1 false (.idx (.t 0) (ki 19)), GT 2 false (.bin .neq (.t 0) (kk .u8 45)), T (.pick (.t 3) (kb true) (.t 0)), T (.mov (.t 0)), GT 0 false (.mov (.x 0)), GT 1 false (.idx (.t 0) (ki 24)), GT 2 false (.bin .neq (.t 0) (kk .u8 45)), T (.pick (.t 3) (kb true) (.t 0))] (.t 0) (.seq (.ops [T (.load (some 16) (.x 3)), N (.store 16 (.x 1) (.t 0)), W 2 (.take (ki 3))])
.ret) .skip)
(.seq (.ops [T (.mov (.x 0)), T (.subs (.t 0) (some (ki 1)) (some (ki 9))), T (.mov (.x 0)), T (.subs (.t 0) (some (ki 10)) (some (ki 14))), T (.bin .add (.t 2) (.t 0)), T (.mov (.x 0)), T (.subs (.t 0) (some (ki 15)) (some (ki 19))), T (.bin .add (.t 2) (.t 0)), T (.mov (.x 0)), T (.subs (.t 0) (some (ki 20)) (some (ki 24))), T (.bin .add (.t 2) (.t 0)), T (.mov (.x 0)), T (.subs (.t 0) (some (ki 25)) (some (ki 37))), T (.bin .add (.t 2) (.t 0)), T (.call false 44 [(.t 0)]), T (.take (.t 0)), T (.ext 0 (.t 0)), T (.ext 1 (.t 1)), W 4 (.take (.t 1)), W 5 (.take (.t 1))])
(.seq (.ifs [T (.mov (.x 5)), T (.bin .neq (.t 0) (ki 0))] (.t 0) (.seq (.ops [T (.load (some 16) (.x 3)), N (.store 16 (.x 1) (.t 0)), W 2 (.take (ki 3))])
.ret) .skip)
(.seq (.seq (.ops [W 6 (.take (ki 0))])
(.block 0 (.loop [] euphroeref15_Id.l0)))
(.seq (.ops [T (.load (some 16) (.x 3)), N (.store 16 (.x 1) (.t 0)), W 2 (.take (ki 0))])
.ret))))))) }
def euphroeref15_Id.m : List Nat := [0, 2, 3, 4, 5, 6, 7]
def httpq_isHost.l0 : SCode := (.seq (.ifs [T (.bin .lss (.x 3) (.x 2))] (.t 0) .skip (.exit 0))
(.seq (.block 1 (.seq (.ops [T (.mov (.x 3)), W 4 (.take (.t 0))])
(.ifs [T (.mov (.x 0)), T (.mov (.x 4)), T (.idx (.t 1) (.t 0)), T (.bin .lss (.t 0) (kk .u8 33)), T (.mov (.t 0)), GT 0 false (.mov (.x 0)), GT 1 false (.mov (.x 4)), GT 2 false (.idx (.t 1) (.t 0)), GT 3 false (.bin .gtr (.t 0) (kk .u8 126)), T (.pick (.t 4) (kb true) (.t 0))] (.t 0) (.seq (.ops [W 1 (.take (kb false))])
.ret) .skip)))
(.ops [T (.bin .add (.x 3) (ki 1)), W 3 (.mov (.t 0))])))
def httpq_isHost.s : SFunc := { np := 1, nv := 5, res := [.var 1], code := (.seq (.ops [W 1 (.take (kb false))])
(.seq (.seq (.ops [T (.mov (.x 0)), W 2 (.lens (.t 0)), W 3 (.mov (ki 0))])
(.block 0 (.loop [4] httpq_isHost.l0)))
(.seq (.ops [T (.mov (.x 0)), T (.bin .neq (.t 0) (.c (.v (.str [])))), T (.mov (.t 0)), GT 0 true (.mov (.x 0)), GT 1 true (.lens (.t 0)), GT 2 true (.bin .leq (.t 0) (ki 255)), T (.pick (.t 3) (.t 0) (kb false)), W 1 (.take (.t 0))])
.ret))) }
def httpq_isHost.m : List Nat := [0, 2, 5, 6, 3]
def httpq_isID.s : SFunc := { np := 1, nv := 3, res := [.var 1], code := (.seq (.ops [W 1 (.take (kb false))])
(.seq (.ops [T (.mov (.x 0)), T (.call false 10 [(.t 0)]), T (.take (.t 0)), T (.ext 0 (.t 0)), T (.ext 1 (.t 1)), T (.alloc false (.v (.agg (List.replicate 16 (.int .u8 0))))), N (.store 16 (.t 0) (.t 2)), W 2 (.take (.t 2))])
(.seq (.ops [T (.mov (.x 0)), T (.bin .eql (.t 0) (.c (.v (.str [])))), T (.mov (.t 0)), GT 0 false (.mov (.x 2)), GT 1 false (.bin .eql (.t 0) (ki 0)), T (.pick (.t 2) (kb true) (.t 0)), W 1 (.take (.t 0))])
.ret))) }
def httpq_isID.m : List Nat := [0, 2, 4]
def strings_CutPrefix.s : SFunc := { np := 2, nv := 4, res := [.var 2, .var 3], code := (.seq (.ops [W 2 (.take (.c (.v (.str [])))), W 3 (.take (kb false))])
(.seq (.ops [T (.mov (.x 0)), T (.mov (.x 1)), T (.call false 48 [(.t 1), (.t 0)]), T (.ext 0 (.t 0)), T (.ext 1 (.t 1)), W 2 (.take (.t 1)), W 3 (.take (.t 1))])
.ret)) }
def strings_CutPrefix.m : List Nat := [0, 1, 4, 5]
def strings_CutSuffix.s : SFunc := { np := 2, nv := 4, res := [.var 2, .var 3], code := (.seq (.ops [W 2 (.take (.c (.v (.str [])))), W 3 (.take (kb false))])
(.seq (.ops [T (.mov (.x 0)), T (.mov (.x 1)), T (.call false 49 [(.t 1), (.t 0)]), T (.ext 0 (.t 0)), T (.ext 1 (.t 1)), W 2 (.take (.t 1)), W 3 (.take (.t 1))])
.ret)) }
def strings_CutSuffix.m : List Nat := [0, 1, 4, 5]
def httpq_groups.s : SFunc := { np := 0, nv := 1, res := [.cell (some 5) 0], code := (.seq (.ops [W 0 (.alloc false (.v (.agg (List.replicate 5 (.int .i64 0)))))])
(.seq (.ops [T (.build (List.replicate 5 (.v (.int .i64 0))) [(0, 1, (ki 8)), (1, 1, (ki 4)), (2, 1, (ki 4)), (3, 1, (ki 4)), (4, 1, (ki 12))]), N (.store 5 (.x 0) (.t 0))])
.ret)) }
def httpq_groups.m : List Nat := [0]
def octs_Unhex.l0 : SCode := (.seq (.ifs [T (.mov (.x 0)), T (.bin .eql (.t 0) (.c (.v (.str []))))] (.t 0) (.seq (.ops [T (.take (.x 3)), W 1 (.take (.t 0)), W 2 (.take (ki 0))])
.ret) .skip)
(.seq (.ops [T (.mov (.x 0)), T (.idx (.t 0) (ki 0)), T (.call false 51 [(.t 0)]), T (.bin .shl (.t 0) (kk .u64 4)), T (.mov (.x 0)), T (.idx (.t 0) (ki 1)), T (.call false 51 [(.t 0)]), T (.bin .or (.t 3) (.t 0)), W 4 (.take (.t 0))])
(.seq (.ifs [T (.mov (.x 4)), T (.bin .lss (.t 0) (ki 0))] (.t 0) (.seq (.ops [W 1 (.take (kn 1)), W 2 (.take (ki 3))])
.ret) .skip)
(.seq (.ops [T (.take (.x 3)), T (.mov (.x 4)), T (.cvi .u8 (.t 0)), T (.lit 1 [(.t 0)]), T (.app 1 1 (.t 3) (.t 0)), W 3 (.take (.t 0))])
(.seq (.ops [T (.mov (.x 0)), T (.subs (.t 0) (some (ki 2)) none), W 0 (.take (.t 0))])
.skip)))))
def octs_Unhex.s : SFunc := { np := 1, nv := 5, res := [.var 1, .var 2], code := (.seq (.ops [W 1 (.take (kn 1)), W 2 (.take (ki 0))])
(.seq .skip (.seq (.ifs [T (.mov (.x 0)), T (.lens (.t 0)), T (.bin .rem (.t 0) (ki 2)), T (.bin .neq (.t 0) (ki 0))] (.t 0) (.seq (.ops [W 1 (.take (kn 1)), W 2 (.take (ki 3))])
.ret) .skip)
(.seq (.ops [W 3 (.take (kn 1))])
(.loop [4] octs_Unhex.l0))))) }
def octs_Unhex.m : List Nat := [0, 2, 3, 4, 5]
def octs_Hex.l0 : SCode := (.seq (.ifs [T (.bin .lss (.x 5) (.x 4))] (.t 0) .skip (.exit 0))
(.seq (.block 1 (.seq (.ops [T (.ia 1 (.x 3) (.x 5)), T (.load none (.t 0)), W 6 (.take (.t 0))])
(.ops [T (.take (.x 2)), T (.mov (.x 6)), T (.bin .shr (.t 0) (kk .u64 4)), T (.idx (.c (.v (.str [48, 49, 50, 51, 52, 53, 54, 55, 56, 57, 65, 66, 67, 68, 69, 70]))) (.t 0)), T (.mov (.x 6)), T (.bin .and (.t 0) (kk .u8 15)), T (.idx (.c (.v (.str [48, 49, 50, 51, 52, 53, 54, 55, 56, 57, 65, 66, 67, 68, 69, 70]))) (.t 0)), T (.lit 1 [(.t 3), (.t 0)]), T (.app 1 1 (.t 7) (.t 0)), W 2 (.take (.t 0))])))
(.ops [T (.bin .add (.x 5) (ki 1)), W 5 (.mov (.t 0))])))
def octs_Hex.s : SFunc := { np := 1, nv := 7, res := [.var 1], code := (.seq (.ops [W 1 (.take (.c (.v (.str []))))])
(.seq (.ops [T (.mov (.x 0)), T (.len (.t 0)), T (.bin .mul (ki 2) (.t 0)), T (.make 1 1 (.v (.int .u8 0)) (ki 0) (.t 0)), W 2 (.take (.t 0))])
(.seq (.seq (.ops [W 3 (.mov (.x 0)), W 4 (.len (.x 3)), W 5 (.mov (ki 0))])
(.block 0 (.loop [6] octs_Hex.l0)))
(.seq (.ops [T (.mov (.x 2)), T (.b2s (.t 0)), W 1 (.take (.t 0))])
.ret)))) }
def octs_Hex.m : List Nat := [0, 2, 3, 10, 11, 12, 5]
def words_right.s : SFunc := { np := 2, nv := 5, res := [.var 2], code := (.seq (.ops [W 2 (.take (kb false))])
(.seq (.ops [T (.mov (.x 0)), T (.mov (.x 1)), T (.ia 1 (.t 1) (.t 0)), T (.load none (.t 0)), W 3 (.take (.t 0))])
(.seq (.ops [W 4 (.mov (.x 3))])
(.block 0 (.ifs [T (.bin .eql (.x 4) (kk .u8 13)), T (.take (.t 0))] (.t 0) (.seq (.ops [T (.mov (.x 1)), T (.bin .add (.t 0) (ki 1)), T (.mov (.x 0)), T (.len (.t 0)), T (.bin .eql (.t 2) (.t 0)), T (.mov (.t 0)), GT 0 false (.mov (.x 1)), GT 1 false (.bin .add (.t 0) (ki 1)), GT 2 false (.bin .eql (.t 0) (ki 2048)), T (.pick (.t 3) (kb true) (.t 0)), T (.mov (.t 0)), GT 0 false (.mov (.x 0)), GT 1 false (.mov (.x 1)), GT 2 false (.bin .add (.t 0) (ki 1)), GT 3 false (.ia 1 (.t 2) (.t 0)), GT 4 false (.load none (.t 0)), GT 5 false (.bin .eql (.t 0) (kk .u8 10)), T (.pick (.t 6) (kb true) (.t 0)), W 2 (.take (.t 0))])
.ret) (.ifs [T (.bin .eql (.x 4) (kk .u8 10)), T (.take (.t 0))] (.t 0) (.seq (.ops [T (.mov (.x 1)), T (.bin .gtr (.t 0) (ki 0)), T (.mov (.t 0)), GT 0 true (.mov (.x 0)), GT 1 true (.mov (.x 1)), GT 2 true (.bin .sub (.t 0) (ki 1)), GT 3 true (.ia 1 (.t 2) (.t 0)), GT 4 true (.load none (.t 0)), GT 5 true (.bin .eql (.t 0) (kk .u8 13)), T (.pick (.t 6) (.t 0) (kb false)), W 2 (.take (.t 0))])
.ret) (.ifs [T (.bin .eql (.x 4) (kk .u8 9)), T (.take (.t 0))] (.t 0) (.seq (.ops [W 2 (.take (kb true))])
.ret) (.seq (.ops [T (.mov (.x 3)), T (.bin .geq (.t 0) (kk .u8 32)), T (.mov (.t 0)), GT 0 true (.mov (.x 3)), GT 1 true (.bin .leq (.t 0) (kk .u8 126)), T (.pick (.t 2) (.t 0) (kb false)), W 2 (.take (.t 0))])
.ret)))))))) }
def words_right.m : List Nat := [0, 1, 4, 5, 10]
def words_Trim.s : SFunc := { np := 1, nv := 2, res := [.var 1], code := (.seq (.ops [W 1 (.take (.c (.v (.str []))))])
(.seq (.ops [T (.mov (.x 0)), T (.call false 61 [(.t 0), (.c (.v (.str [32, 9])))]), W 1 (.take (.t 0))])
.ret)) }
def words_Trim.m : List Nat := [0, 2]
def httpq_one.s : SFunc := { np := 3, nv := 7, res := [.var 3, .var 4], code := (.seq (.ops [W 3 (.take (.c (.v (.str [])))), W 4 (.take (ki 0))])
(.seq (.ops [T (.mov (.x 0)), T (.mov (.x 1)), T (.call false 62 [(.t 1), (.t 0)]), T (.take (.t 0)), T (.ext 0 (.t 0)), T (.ext 1 (.t 1)), W 5 (.take (.t 1)), W 6 (.take (.t 1))])
(.seq (.ifs [T (.mov (.x 6)), T (.bin .eql (.t 0) (ki 0)), T (.mov (.t 0)), GT 0 true (.mov (.x 2)), GT 1 true (.mov (.x 5)), GT 2 true (.callv (.t 1) [(.t 0)]), GT 3 true (.un .not (.t 0)), T (.pick (.t 4) (.t 0) (kb false))] (.t 0) (.seq (.ops [W 3 (.take (.c (.v (.str [])))), W 4 (.take (ki 3))])
.ret) .skip)
(.seq (.ops [T (.take (.x 5)), T (.take (.x 6)), W 3 (.take (.t 1)), W 4 (.take (.t 1))])
.ret)))) }
def httpq_one.m : List Nat := [0, 1, 2, 6, 7, 8, 9]
def httpq_fields_1.s : SFunc := { np := 1, nv := 2, res := [.var 1], code := (.seq (.ops [W 1 (.take (kb false))])
(.seq (.ops [T (.mov (.x 0)), T (.bin .eql (.t 0) (.c (.v (.str [49, 56, 52, 52, 54, 55, 52, 52, 48, 55, 51, 55, 48, 57, 53, 53, 49, 54, 49, 53])))), W 1 (.take (.t 0))])
.ret)) }
def httpq_fields_1.m : List Nat := [0, 2]
def httpq_fields_2.s : SFunc := { np := 1, nv := 2, res := [.var 1], code := (.seq (.ops [W 1 (.take (kb false))])
(.seq (.ops [T (.mov (.x 0)), T (.bin .neq (.t 0) (.c (.v (.str [])))), T (.mov (.t 0)), GT 0 true (.mov (.x 0)), GT 1 true (.call false 23 [(.t 0)]), T (.pick (.t 2) (.t 0) (kb false)), W 1 (.take (.t 0))])
.ret)) }
def httpq_fields_2.m : List Nat := [0, 2]
def euphroeref14_Token.l0 : SCode := (.seq (.ifs [T (.mov (.x 2)), T (.mov (.x 0)), T (.lens (.t 0)), T (.bin .lss (.t 2) (.t 0))] (.t 0) .skip (.exit 0))
(.seq (.block 1 (.seq (.ops [T (.mov (.x 0)), T (.mov (.x 2)), T (.idx (.t 1) (.t 0)), T (.call false 63 [(.t 0)]), W 3 (.take (.t 0))])
(.ifs [T (.mov (.x 3)), T (.bin .geq (.t 0) (kk .u8 97)), T (.mov (.t 0)), GT 0 true (.mov (.x 3)), GT 1 true (.bin .leq (.t 0) (kk .u8 122)), T (.pick (.t 2) (.t 0) (kb false)), T (.mov (.t 0)), GT 0 false (.mov (.x 3)), GT 1 false (.bin .geq (.t 0) (kk .u8 48)), GT 2 false (.mov (.t 0)), GT 0 true (.mov (.x 3)), GT 1 true (.bin .leq (.t 0) (kk .u8 57)), GT 5 false (.pick (.t 2) (.t 0) (kb false)), T (.pick (.t 6) (kb true) (.t 0)), T (.mov (.t 0)), GT 0 false (.mov (.x 3)), GT 1 false (.bin .eql (.t 0) (kk .u8 45)), T (.pick (.t 2) (kb true) (.t 0)), T (.mov (.t 0)), GT 0 false (.mov (.x 3)), GT 1 false (.bin .eql (.t 0) (kk .u8 95)), T (.pick (.t 2) (kb true) (.t 0)), T (.mov (.t 0)), GT 0 false (.mov (.x 3)), GT 1 false (.bin .eql (.t 0) (kk .u8 46)), T (.pick (.t 2) (kb true) (.t 0)), T (.mov (.t 0)), GT 0 false (.mov (.x 3)), GT 1 false (.bin .eql (.t 0) (kk .u8 123)), T (.pick (.t 2) (kb true) (.t 0)), T (.mov (.t 0)), GT 0 false (.mov (.x 3)), GT 1 false (.bin .eql (.t 0) (kk .u8 125)), T (.pick (.t 2) (kb true) (.t 0)), T (.mov (.t 0)), GT 0 false (.mov (.x 3)), GT 1 false (.bin .eql (.t 0) (kk .u8 47)), T (.pick (.t 2) (kb true) (.t 0)), T (.un .not (.t 0))] (.t 0) (.seq (.ops [W 1 (.take (kb false))])
.ret) .skip)))
(.ops [T (.mov (.x 2)), T (.bin .add (.t 0) (ki 1)), W 2 (.take (.t 0))])))
def euphroeref14_Token.s : SFunc := { np := 1, nv := 4, res := [.var 1], code := (.seq (.ops [W 1 (.take (kb false))])
(.seq (.seq (.ops [W 2 (.take (ki 0))])
(.block 0 (.loop [3] euphroeref14_Token.l0)))
(.seq (.ops [T (.mov (.x 0)), T (.lens (.t 0)), T (.bin .geq (.t 0) (ki 1)), T (.mov (.t 0)), GT 0 true (.mov (.x 0)), GT 1 true (.lens (.t 0)), GT 2 true (.bin .leq (.t 0) (ki 64)), T (.pick (.t 3) (.t 0) (kb false)), W 1 (.take (.t 0))])
.ret))) }
def euphroeref14_Token.m : List Nat := [0, 2, 3, 4]
def euphroeref14_Trim.l1 : SCode := (.seq (.ifs [T (.mov (.x 0)), T (.lens (.t 0)), T (.bin .gtr (.t 0) (ki 0)), T (.mov (.t 0)), GT 0 true (.mov (.x 0)), GT 1 true (.mov (.x 0)), GT 2 true (.lens (.t 0)), GT 3 true (.bin .sub (.t 0) (ki 1)), GT 4 true (.idx (.t 3) (.t 0)), GT 5 true (.call false 64 [(.t 0)]), T (.pick (.t 6) (.t 0) (kb false))] (.t 0) .skip (.exit 2))
(.block 3 (.ops [T (.mov (.x 0)), T (.mov (.x 0)), T (.lens (.t 0)), T (.bin .sub (.t 0) (ki 1)), T (.subs (.t 3) none (some (.t 0))), W 0 (.take (.t 0))])))
def euphroeref14_Trim.l0 : SCode := (.seq (.ifs [T (.mov (.x 0)), T (.lens (.t 0)), T (.bin .gtr (.t 0) (ki 0)), T (.mov (.t 0)), GT 0 true (.mov (.x 0)), GT 1 true (.idx (.t 0) (ki 0)), GT 2 true (.call false 64 [(.t 0)]), T (.pick (.t 3) (.t 0) (kb false))] (.t 0) .skip (.exit 0))
(.block 1 (.ops [T (.mov (.x 0)), T (.subs (.t 0) (some (ki 1)) none), W 0 (.take (.t 0))])))
def euphroeref14_Trim.s : SFunc := { np := 1, nv := 2, res := [.var 1], code := (.seq (.ops [W 1 (.take (.c (.v (.str []))))])
(.seq (.block 0 (.loop [] euphroeref14_Trim.l0))
(.seq (.block 2 (.loop [] euphroeref14_Trim.l1))
(.seq (.ops [T (.take (.x 0)), W 1 (.take (.t 0))])
.ret)))) }
def euphroeref14_Trim.m : List Nat := [0, 2]
def euphroeref14_Alike.s : SFunc := { np := 2, nv := 3, res := [.var 2], code := (.seq (.ops [W 2 (.take (kb false))])
(.seq (.ops [T (.mov (.x 0)), T (.call false 65 [(.t 0)]), T (.mov (.x 1)), T (.call false 65 [(.t 0)]), T (.bin .eql (.t 2) (.t 0)), W 2 (.take (.t 0))])
.ret)) }
def euphroeref14_Alike.m : List Nat := [0, 1, 4]
def euphroeref01_Unhex.l0 : SCode := (.seq (.ifs [T (.mov (.x 4)), T (.mov (.x 0)), T (.lens (.t 0)), T (.bin .lss (.t 2) (.t 0))] (.t 0) .skip (.exit 0))
(.seq (.block 1 (.seq (.ops [T (.mov (.x 0)), T (.mov (.x 4)), T (.idx (.t 1) (.t 0)), T (.call false 66 [(.t 0)]), T (.mov (.x 0)), T (.mov (.x 4)), T (.bin .add (.t 0) (ki 1)), T (.idx (.t 2) (.t 0)), T (.call false 66 [(.t 0)]), W 5 (.take (.t 5)), W 6 (.take (.t 1))])
(.seq (.ifs [T (.mov (.x 5)), T (.bin .gtr (.t 0) (kk .u8 15)), T (.mov (.t 0)), GT 0 false (.mov (.x 6)), GT 1 false (.bin .gtr (.t 0) (kk .u8 15)), T (.pick (.t 2) (kb true) (.t 0))] (.t 0) (.seq (.ops [W 1 (.take (kn 1)), W 2 (.take (ki 3))])
.ret) .skip)
(.ops [T (.take (.x 3)), T (.mov (.x 5)), T (.bin .mul (kk .u8 16) (.t 0)), T (.mov (.x 6)), T (.bin .add (.t 1) (.t 0)), T (.lit 1 [(.t 0)]), T (.app 1 1 (.t 5) (.t 0)), W 3 (.take (.t 0))]))))
(.ops [T (.mov (.x 4)), T (.bin .add (.t 0) (ki 2)), W 4 (.take (.t 0))])))
def euphroeref01_Unhex.s : SFunc := { np := 1, nv := 7, res := [.var 1, .var 2], code := (.seq (.ops [W 1 (.take (kn 1)), W 2 (.take (ki 0))])
(.seq (.ifs [T (.mov (.x 0)), T (.lens (.t 0)), T (.bin .rem (.t 0) (ki 2)), T (.bin .neq (.t 0) (ki 0))] (.t 0) (.seq (.ops [W 1 (.take (kn 1)), W 2 (.take (ki 3))])
.ret) .skip)
(.seq (.ops [W 3 (.take (kn 1))])
(.seq (.seq (.ops [W 4 (.take (ki 0))])
(.block 0 (.loop [5, 6] euphroeref01_Unhex.l0)))
(.seq (.ops [T (.take (.x 3)), W 1 (.take (.t 0)), W 2 (.take (ki 0))])
.ret))))) }
def euphroeref01_Unhex.m : List Nat := [0, 2, 3, 4, 5, 6, 7]
def stringslite_CutPrefix.s : SFunc := { np := 2, nv := 4, res := [.var 2, .var 3], code := (.seq (.ops [W 2 (.take (.c (.v (.str [])))), W 3 (.take (kb false))])
(.seq (.ifs [T (.mov (.x 0)), T (.mov (.x 1)), T (.call false 69 [(.t 1), (.t 0)]), T (.un .not (.t 0))] (.t 0) (.seq (.ops [T (.take (.x 0)), W 2 (.take (.t 0)), W 3 (.take (kb false))])
.ret) .skip)
(.seq (.ops [T (.mov (.x 0)), T (.mov (.x 1)), T (.lens (.t 0)), T (.subs (.t 2) (some (.t 0)) none), W 2 (.take (.t 0)), W 3 (.take (kb true))])
.ret))) }
def stringslite_CutPrefix.m : List Nat := [0, 1, 4, 5]
def stringslite_CutSuffix.s : SFunc := { np := 2, nv := 4, res := [.var 2, .var 3], code := (.seq (.ops [W 2 (.take (.c (.v (.str [])))), W 3 (.take (kb false))])
(.seq (.ifs [T (.mov (.x 0)), T (.mov (.x 1)), T (.call false 70 [(.t 1), (.t 0)]), T (.un .not (.t 0))] (.t 0) (.seq (.ops [T (.take (.x 0)), W 2 (.take (.t 0)), W 3 (.take (kb false))])
.ret) .skip)
(.seq (.ops [T (.mov (.x 0)), T (.mov (.x 0)), T (.lens (.t 0)), T (.mov (.x 1)), T (.lens (.t 0)), T (.bin .sub (.t 2) (.t 0)), T (.subs (.t 5) none (some (.t 0))), W 2 (.take (.t 0)), W 3 (.take (kb true))])
.ret))) }
def stringslite_CutSuffix.m : List Nat := [0, 1, 4, 5]
def octs_digit.s : SFunc := { np := 1, nv := 2, res := [.var 1], code := (.seq (.ops [W 1 (.take (ki 0))])
(.seq (.ifs [T (.mov (.x 0)), T (.bin .geq (.t 0) (kk .u8 97)), T (.mov (.t 0)), GT 0 true (.mov (.x 0)), GT 1 true (.bin .leq (.t 0) (kk .u8 102)), T (.pick (.t 2) (.t 0) (kb false))] (.t 0) (.ops [T (.mov (.x 0)), T (.bin .sub (.t 0) (kk .u8 32)), W 0 (.take (.t 0))]) .skip)
(.seq (.ops [T (.mov (.x 0)), T (.call false 74 [(.c (.v (.str [48, 49, 50, 51, 52, 53, 54, 55, 56, 57, 65, 66, 67, 68, 69, 70]))), (.t 0)]), W 1 (.take (.t 0))])
.ret))) }
def octs_digit.m : List Nat := [0, 2]
def words_lower.s : SFunc := { np := 1, nv := 2, res := [.var 1], code := (.seq (.ops [W 1 (.take (kk .i32 0))])
(.seq (.ifs [T (.mov (.x 0)), T (.bin .geq (.t 0) (kk .i32 65)), T (.mov (.t 0)), GT 0 true (.mov (.x 0)), GT 1 true (.bin .leq (.t 0) (kk .i32 90)), T (.pick (.t 2) (.t 0) (kb false))] (.t 0) (.seq (.ops [T (.mov (.x 0)), T (.bin .add (.t 0) (kk .i32 97)), T (.bin .sub (.t 0) (kk .i32 65)), W 1 (.take (.t 0))])
.ret) .skip)
(.seq (.ops [T (.take (.x 0)), W 1 (.take (.t 0))])
.ret))) }
def words_lower.m : List Nat := [0, 2]
def words_Find.l0 : SCode := (.seq (.ifs [T (.bin .lss (.x 8) (.x 7))] (.t 0) .skip (.exit 0))
(.seq (.block 1 (.seq (.ops [T (.ia 2 (.x 6) (.x 8)), T (.load (some 2) (.t 0)), W 9 (.alloc false zz0), N (.store 2 (.x 9) (.t 1))])
(.block 2 (.ifs [T (.fa 0 (.x 9)), T (.load none (.t 0)), T (.mov (.x 1)), T (.call false 88 [(.t 1), (.t 0)]), T (.un .not (.t 0)), T (.take (.t 0))] (.t 0) .skip (.ifs [T (.mov (.x 5)), T (.bin .eql (.t 0) (ki 0)), T (.take (.t 0))] (.t 0) (.seq (.ops [W 2 (.take (.c (.v (.str [])))), W 3 (.take (ki 7))])
.ret) (.ops [T (.fa 1 (.x 9)), T (.load none (.t 0)), W 4 (.take (.t 0)), W 5 (.take (ki 0))]))))))
(.ops [T (.bin .add (.x 8) (ki 1)), W 8 (.mov (.t 0))])))
def words_Find.s : SFunc := { np := 2, nv := 10, res := [.var 2, .var 3], code := (.seq (.ops [W 2 (.take (.c (.v (.str [])))), W 3 (.take (ki 0))])
(.seq (.ops [W 4 (.take (.c (.v (.str [])))), W 5 (.take (ki 6))])
(.seq (.seq (.ops [W 6 (.mov (.x 0)), W 7 (.len (.x 6)), W 8 (.mov (ki 0))])
(.block 0 (.loop [9] words_Find.l0)))
(.seq (.ops [T (.take (.x 4)), T (.take (.x 5)), W 2 (.take (.t 1)), W 3 (.take (.t 1))])
.ret)))) }
def words_Find.m : List Nat := [0, 1, 4, 5, 6, 7, 10, 11, 12, 9]
def euphroeref14_small.s : SFunc := { np := 1, nv := 2, res := [.var 1], code := (.seq (.ops [W 1 (.take (kk .u8 0))])
(.seq (.ifs [T (.mov (.x 0)), T (.bin .geq (.t 0) (kk .u8 65)), T (.mov (.t 0)), GT 0 true (.mov (.x 0)), GT 1 true (.bin .leq (.t 0) (kk .u8 90)), T (.pick (.t 2) (.t 0) (kb false))] (.t 0) (.seq (.ops [T (.mov (.x 0)), T (.bin .add (.t 0) (kk .u8 32)), W 1 (.take (.t 0))])
.ret) .skip)
(.seq (.ops [T (.take (.x 0)), W 1 (.take (.t 0))])
.ret))) }
def euphroeref14_small.m : List Nat := [0, 2]
def euphroeref14_blank.s : SFunc := { np := 1, nv := 2, res := [.var 1], code := (.seq (.ops [W 1 (.take (kb false))])
(.seq (.ops [T (.mov (.x 0)), T (.bin .eql (.t 0) (kk .u8 32)), T (.mov (.t 0)), GT 0 false (.mov (.x 0)), GT 1 false (.bin .eql (.t 0) (kk .u8 9)), T (.pick (.t 2) (kb true) (.t 0)), W 1 (.take (.t 0))])
.ret)) }
def euphroeref14_blank.m : List Nat := [0, 2]
def euphroeref14_Lower.l0 : SCode := (.seq (.ifs [T (.mov (.x 3)), T (.mov (.x 0)), T (.lens (.t 0)), T (.bin .lss (.t 2) (.t 0))] (.t 0) .skip (.exit 0))
(.seq (.block 1 (.ops [T (.mov (.x 2)), T (.mov (.x 3)), T (.mov (.x 0)), T (.mov (.x 3)), T (.idx (.t 1) (.t 0)), T (.call false 63 [(.t 0)]), T (.ia 1 (.t 5) (.t 4)), N (.store 1 (.t 0) (.t 1))]))
(.ops [T (.mov (.x 3)), T (.bin .add (.t 0) (ki 1)), W 3 (.take (.t 0))])))
def euphroeref14_Lower.s : SFunc := { np := 1, nv := 4, res := [.var 1], code := (.seq (.ops [W 1 (.take (.c (.v (.str []))))])
(.seq (.ops [T (.mov (.x 0)), T (.lens (.t 0)), T (.make 1 1 (.v (.int .u8 0)) (.t 0) (.t 0)), W 2 (.take (.t 0))])
(.seq (.seq (.ops [W 3 (.take (ki 0))])
(.block 0 (.loop [] euphroeref14_Lower.l0)))
(.seq (.ops [T (.mov (.x 2)), T (.b2s (.t 0)), W 1 (.take (.t 0))])
.ret)))) }
def euphroeref14_Lower.m : List Nat := [0, 2, 3, 4]
def euphroeref01_Digit.s : SFunc := { np := 1, nv := 2, res := [.var 1], code := (.seq (.ops [W 1 (.take (kk .u8 0))])
(.seq (.block 0 (.ifs [T (.mov (.x 0)), T (.bin .geq (.t 0) (kk .u8 48)), T (.mov (.t 0)), GT 0 true (.mov (.x 0)), GT 1 true (.bin .leq (.t 0) (kk .u8 57)), T (.pick (.t 2) (.t 0) (kb false)), T (.take (.t 0))] (.t 0) (.seq (.ops [T (.mov (.x 0)), T (.bin .sub (.t 0) (kk .u8 48)), W 1 (.take (.t 0))])
.ret) (.ifs [T (.mov (.x 0)), T (.bin .geq (.t 0) (kk .u8 97)), T (.mov (.t 0)), GT 0 true (.mov (.x 0)), GT 1 true (.bin .leq (.t 0) (kk .u8 102)), T (.pick (.t 2) (.t 0) (kb false)), T (.take (.t 0))] (.t 0) (.seq (.ops [T (.mov (.x 0)), T (.bin .sub (.t 0) (kk .u8 97)), T (.bin .add (.t 0) (kk .u8 10)), W 1 (.take (.t 0))])
.ret) (.ifs [T (.mov (.x 0)), T (.bin .geq (.t 0) (kk .u8 65)), T (.mov (.t 0)), GT 0 true (.mov (.x 0)), GT 1 true (.bin .leq (.t 0) (kk .u8 70)), T (.pick (.t 2) (.t 0) (kb false)), T (.take (.t 0))] (.t 0) (.seq (.ops [T (.mov (.x 0)), T (.bin .sub (.t 0) (kk .u8 65)), T (.bin .add (.t 0) (kk .u8 10)), W 1 (.take (.t 0))])
.ret) .skip))))
(.seq (.ops [W 1 (.take (kk .u8 16))])
.ret))) }
def euphroeref01_Digit.m : List Nat := [0, 2]
def stringslite_HasPrefix.s : SFunc := { np := 2, nv := 3, res := [.var 2], code := (.seq (.ops [W 2 (.take (kb false))])
(.seq (.ops [T (.mov (.x 0)), T (.lens (.t 0)), T (.mov (.x 1)), T (.lens (.t 0)), T (.bin .geq (.t 2) (.t 0)), T (.mov (.t 0)), GT 0 true (.mov (.x 0)), GT 1 true (.mov (.x 1)), GT 2 true (.lens (.t 0)), GT 3 true (.subs (.t 2) none (some (.t 0))), GT 4 true (.mov (.x 1)), GT 5 true (.bin .eql (.t 1) (.t 0)), T (.pick (.t 6) (.t 0) (kb false)), W 2 (.take (.t 0))])
.ret)) }
def stringslite_HasPrefix.m : List Nat := [0, 1, 4]
def stringslite_HasSuffix.s : SFunc := { np := 2, nv := 3, res := [.var 2], code := (.seq (.ops [W 2 (.take (kb false))])
(.seq (.ops [T (.mov (.x 0)), T (.lens (.t 0)), T (.mov (.x 1)), T (.lens (.t 0)), T (.bin .geq (.t 2) (.t 0)), T (.mov (.t 0)), GT 0 true (.mov (.x 0)), GT 1 true (.mov (.x 0)), GT 2 true (.lens (.t 0)), GT 3 true (.mov (.x 1)), GT 4 true (.lens (.t 0)), GT 5 true (.bin .sub (.t 2) (.t 0)), GT 6 true (.subs (.t 5) (some (.t 0)) none), GT 7 true (.mov (.x 1)), GT 8 true (.bin .eql (.t 1) (.t 0)), T (.pick (.t 9) (.t 0) (kb false)), W 2 (.take (.t 0))])
.ret)) }
def stringslite_HasSuffix.m : List Nat := [0, 1, 4]
def words_Alike.s : SFunc := { np := 2, nv := 3, res := [.var 2], code := (.seq (.ops [W 2 (.take (kb false))])
(.seq (.ops [T (.mov (.x 0)), T (.call false 100 [(.t 0)]), T (.mov (.x 1)), T (.call false 100 [(.t 0)]), T (.bin .eql (.t 2) (.t 0)), W 2 (.take (.t 0))])
.ret)) }
def words_Alike.m : List Nat := [0, 1, 4]
def words_Lower.l0 : SCode := (.seq (.ifs [T (.bin .lss (.x 5) (.x 4))] (.t 0) .skip (.exit 0))
(.seq (.block 1 (.seq (.ops [T (.mov (.x 5)), T (.ia 1 (.x 3) (.x 5)), T (.load none (.t 0)), W 6 (.take (.t 2)), W 7 (.take (.t 1))])
(.ops [T (.mov (.x 2)), T (.mov (.x 6)), T (.mov (.x 7)), T (.cvi .i32 (.t 0)), T (.call false 59 [(.t 0)]), T (.cvi .u8 (.t 0)), T (.ia 1 (.t 5) (.t 4)), N (.store 1 (.t 0) (.t 1))])))
(.ops [T (.bin .add (.x 5) (ki 1)), W 5 (.mov (.t 0))])))
def words_Lower.s : SFunc := { np := 1, nv := 8, res := [.var 1], code := (.seq (.ops [W 1 (.take (.c (.v (.str []))))])
(.seq (.ops [T (.mov (.x 0)), T (.s2o (.t 0)), W 2 (.take (.t 0))])
(.seq (.seq (.ops [W 3 (.mov (.x 2)), W 4 (.len (.x 3)), W 5 (.mov (ki 0))])
(.block 0 (.loop [6, 7] words_Lower.l0)))
(.seq (.ops [T (.mov (.x 2)), T (.b2s (.t 0)), W 1 (.take (.t 0))])
.ret)))) }
def words_Lower.m : List Nat := [0, 2, 3, 8, 9, 10, 4, 5]
def fns : List (Nat × SFunc × List Nat) := [(3, euphroelaw15_HttpqParses.s, euphroelaw15_HttpqParses.m), (4, euphroelaw15_alive.s, euphroelaw15_alive.m), (5, httpq_Parse.s, httpq_Parse.m), (6, euphroeref15_Parse.s, euphroeref15_Parse.m), (7, httpq_Status.s, httpq_Status.m), (8, euphroeref15_Status.s, euphroeref15_Status.m), (9, httpq_Lay.s, httpq_Lay.m), (10, httpq_Id.s, httpq_Id.m), (11, httpq_Guid.s, httpq_Guid.m), (12, words_Head.s, words_Head.m), (13, httpq_line.s, httpq_line.m), (14, words_Fields.s, words_Fields.m), (15, httpq_fields.s, httpq_fields.m), (16, euphroeref14_Head.s, euphroeref14_Head.m), (18, euphroeref14_Fields.s, euphroeref14_Fields.m), (19, euphroeref14_Find.s, euphroeref14_Find.m), (20, euphroeref15_host.s, euphroeref15_host.m), (21, euphroeref15_Id.s, euphroeref15_Id.m), (22, httpq_isHost.s, httpq_isHost.m), (23, httpq_isID.s, httpq_isID.m), (25, strings_CutPrefix.s, strings_CutPrefix.m), (26, strings_CutSuffix.s, strings_CutSuffix.m), (28, httpq_groups.s, httpq_groups.m), (29, octs_Unhex.s, octs_Unhex.m), (30, octs_Hex.s, octs_Hex.m), (33, words_right.s, words_right.m), (37, words_Trim.s, words_Trim.m), (38, httpq_one.s, httpq_one.m), (39, httpq_fields_1.s, httpq_fields_1.m), (40, httpq_fields_2.s, httpq_fields_2.m), (41, euphroeref14_Token.s, euphroeref14_Token.m), (42, euphroeref14_Trim.s, euphroeref14_Trim.m), (43, euphroeref14_Alike.s, euphroeref14_Alike.m), (44, euphroeref01_Unhex.s, euphroeref01_Unhex.m), (48, stringslite_CutPrefix.s, stringslite_CutPrefix.m), (49, stringslite_CutSuffix.s, stringslite_CutSuffix.m), (51, octs_digit.s, octs_digit.m), (59, words_lower.s, words_lower.m), (62, words_Find.s, words_Find.m), (63, euphroeref14_small.s, euphroeref14_small.m), (64, euphroeref14_blank.s, euphroeref14_blank.m), (65, euphroeref14_Lower.s, euphroeref14_Lower.m), (66, euphroeref01_Digit.s, euphroeref01_Digit.m), (69, stringslite_HasPrefix.s, stringslite_HasPrefix.m), (70, stringslite_HasSuffix.s, stringslite_HasSuffix.m), (88, words_Alike.s, words_Alike.m), (100, words_Lower.s, words_Lower.m)]
def fnOf (n : Nat) : Option SFunc := (fns.find? (·.1 == n)).map (·.2.1)
def primOf (n : Nat) : Option (List D → St → Option (D × St)) := if n = 17 then some (primPure partsF) else if n = 24 then some (primPure joinF) else if n = 27 then some (primSplit splitF) else if n = 31 then some (primPure bidxF) else if n = 32 then some (primPure bpreF) else if n = 34 then some (primSeq 77) else if n = 35 then some (primPure cutF) else if n = 36 then some (primPure tokenF) else if n = 61 then some (primPure trimF) else if n = 74 then some (primPure sidxF) else none
def G : Prg := { fn := fnOf, prim := primOf }
theorem euphroelaw15_HttpqParses.g : G.fn 3 = some euphroelaw15_HttpqParses.s := by rfl
theorem euphroelaw15_alive.g : G.fn 4 = some euphroelaw15_alive.s := by rfl
theorem httpq_Parse.g : G.fn 5 = some httpq_Parse.s := by rfl
theorem euphroeref15_Parse.g : G.fn 6 = some euphroeref15_Parse.s := by rfl
theorem httpq_Status.g : G.fn 7 = some httpq_Status.s := by rfl
theorem euphroeref15_Status.g : G.fn 8 = some euphroeref15_Status.s := by rfl
theorem httpq_Lay.g : G.fn 9 = some httpq_Lay.s := by rfl
theorem httpq_Id.g : G.fn 10 = some httpq_Id.s := by rfl
theorem httpq_Guid.g : G.fn 11 = some httpq_Guid.s := by rfl
theorem words_Head.g : G.fn 12 = some words_Head.s := by rfl
theorem httpq_line.g : G.fn 13 = some httpq_line.s := by rfl
theorem words_Fields.g : G.fn 14 = some words_Fields.s := by rfl
theorem httpq_fields.g : G.fn 15 = some httpq_fields.s := by rfl
theorem euphroeref14_Head.g : G.fn 16 = some euphroeref14_Head.s := by rfl
theorem euphroeref14_Fields.g : G.fn 18 = some euphroeref14_Fields.s := by rfl
theorem euphroeref14_Find.g : G.fn 19 = some euphroeref14_Find.s := by rfl
theorem euphroeref15_host.g : G.fn 20 = some euphroeref15_host.s := by rfl
theorem euphroeref15_Id.g : G.fn 21 = some euphroeref15_Id.s := by rfl
theorem httpq_isHost.g : G.fn 22 = some httpq_isHost.s := by rfl
theorem httpq_isID.g : G.fn 23 = some httpq_isID.s := by rfl
theorem strings_CutPrefix.g : G.fn 25 = some strings_CutPrefix.s := by rfl
theorem strings_CutSuffix.g : G.fn 26 = some strings_CutSuffix.s := by rfl
theorem httpq_groups.g : G.fn 28 = some httpq_groups.s := by rfl
theorem octs_Unhex.g : G.fn 29 = some octs_Unhex.s := by rfl
theorem octs_Hex.g : G.fn 30 = some octs_Hex.s := by rfl
theorem words_right.g : G.fn 33 = some words_right.s := by rfl
theorem words_Trim.g : G.fn 37 = some words_Trim.s := by rfl
theorem httpq_one.g : G.fn 38 = some httpq_one.s := by rfl
theorem httpq_fields_1.g : G.fn 39 = some httpq_fields_1.s := by rfl
theorem httpq_fields_2.g : G.fn 40 = some httpq_fields_2.s := by rfl
theorem euphroeref14_Token.g : G.fn 41 = some euphroeref14_Token.s := by rfl
theorem euphroeref14_Trim.g : G.fn 42 = some euphroeref14_Trim.s := by rfl
theorem euphroeref14_Alike.g : G.fn 43 = some euphroeref14_Alike.s := by rfl
theorem euphroeref01_Unhex.g : G.fn 44 = some euphroeref01_Unhex.s := by rfl
theorem stringslite_CutPrefix.g : G.fn 48 = some stringslite_CutPrefix.s := by rfl
theorem stringslite_CutSuffix.g : G.fn 49 = some stringslite_CutSuffix.s := by rfl
theorem octs_digit.g : G.fn 51 = some octs_digit.s := by rfl
theorem words_lower.g : G.fn 59 = some words_lower.s := by rfl
theorem words_Find.g : G.fn 62 = some words_Find.s := by rfl
theorem euphroeref14_small.g : G.fn 63 = some euphroeref14_small.s := by rfl
theorem euphroeref14_blank.g : G.fn 64 = some euphroeref14_blank.s := by rfl
theorem euphroeref14_Lower.g : G.fn 65 = some euphroeref14_Lower.s := by rfl
theorem euphroeref01_Digit.g : G.fn 66 = some euphroeref01_Digit.s := by rfl
theorem stringslite_HasPrefix.g : G.fn 69 = some stringslite_HasPrefix.s := by rfl
theorem stringslite_HasSuffix.g : G.fn 70 = some stringslite_HasSuffix.s := by rfl
theorem words_Alike.g : G.fn 88 = some words_Alike.s := by rfl
theorem words_Lower.g : G.fn 100 = some words_Lower.s := by rfl
instance : Iters := ⟨[(0, 77)]⟩
end Go.Q
