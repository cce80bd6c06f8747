/- The slim code of the functions, written by a program of ours. No condition. -/
import Derived.Test.YthldpjhmhjhpeaaEvB
set_option maxRecDepth 100000
namespace Go.Q
open SOp SCode
/-- euphroe/euphroelaw25.LcpoWants · 0:w/0 1:l/1 2:fresh/2 3:w/3 4:/6 5:x/7 6:p/8 7:ok/9 8:q/10 9:is/11 -/
def euphroelaw25_LcpoWants.s : SFunc := { np := 3, nv := 10, res := [.var 4], code := (.seq (.ops [W 3 (.box false (.x 0)), W 4 (.take (kb false))])
(.seq (.ifs [T (.mov (.x 1)), T (.call false 6 [(.t 0)])] (.t 0) (.seq (.ops [T (.call false 7 []), W 4 (.take (.t 0))])
.ret) .skip)
(.seq (.ops [T (.load (some 3) (.x 3)), W 5 (.alloc false (.v (.agg [(.int .u16 0), (.int .u32 0), (.bool false)]))), N (.store 3 (.x 5) (.t 1))])
(.seq (.ops [T (.load (some 3) (.x 5)), T (.mov (.x 1)), T (.call false 9 [(.t 0)]), T (.call false 8 [(.t 2), (.t 0)]), T (.take (.t 0)), T (.ext 0 (.t 0)), T (.ext 1 (.t 1)), W 6 (.alloc false (.v (.agg [(.int .u16 0), (.int .u32 0), (.bool false)]))), N (.store 3 (.x 6) (.t 2)), W 7 (.take (.t 2))])
(.seq (.ops [T (.load (some 3) (.x 3)), T (.mov (.x 1)), T (.call false 10 [(.t 1), (.t 0)]), T (.take (.t 0)), T (.ext 0 (.t 0)), T (.ext 1 (.t 1)), W 8 (.alloc false (.v (.agg [(.int .u16 0), (.int .u32 0), (.bool false)]))), N (.store 3 (.x 8) (.t 2)), W 9 (.take (.t 2))])
(.seq (.ops [T (.load (some 3) (.x 5)), T (.call false 12 [(.t 0)]), T (.load (some 3) (.x 3)), T (.call false 13 [(.t 0)]), T (.call false 9 [(.t 0)]), T (.call false 11 [(.t 3), (.t 0)]), T (.mov (.t 0)), GT 0 true (.mov (.x 1)), GT 1 true (.call false 9 [(.t 0)]), GT 2 true (.call false 14 [(.t 0)]), GT 3 true (.mov (.x 1)), GT 4 true (.call false 15 [(.t 0)]), GT 5 true (.eq (.g [1, 1, 0, 0, 0]) false (.t 2) (.t 0)), T (.pick (.t 6) (.t 0) (kb false)), T (.mov (.t 0)), GT 0 true (.load (some 3) (.x 5)), GT 1 true (.mov (.x 1)), GT 2 true (.call false 9 [(.t 0)]), GT 3 true (.mov (.x 2)), GT 4 true (.call false 16 [(.t 3), (.t 1), (.t 0)]), GT 5 true (.load (some 3) (.x 3)), GT 6 true (.mov (.x 1)), GT 7 true (.mov (.x 2)), GT 8 true (.call false 17 [(.t 2), (.t 1), (.t 0)]), GT 9 true (.eq (.g [1, 1, 0]) false (.t 4) (.t 0)), T (.pick (.t 10) (.t 0) (kb false)), T (.mov (.t 0)), GT 0 true (.load (some 3) (.x 6)), GT 1 true (.load (some 3) (.x 8)), GT 2 true (.eq (.g [1, 1, 0]) false (.t 1) (.t 0)), T (.pick (.t 3) (.t 0) (kb false)), T (.mov (.t 0)), GT 0 true (.mov (.x 7)), GT 1 true (.mov (.x 9)), GT 2 true (.eq .b false (.t 1) (.t 0)), T (.pick (.t 3) (.t 0) (kb false)), T (.mov (.t 0)), GT 0 true (.call false 7 []), T (.pick (.t 1) (.t 0) (kb false)), W 4 (.take (.t 0))])
.ret)))))) }
def euphroelaw25_LcpoWants.m : List Nat := [0, 1, 2, 3, 6, 7, 8, 9, 10, 11]
/-- euphroe/euphroelaw25.far · 0:l/0 1:/2 2:/9 3:/10 4:/11 5:o/4 -/
def euphroelaw25_far.l0 : SCode := (.seq (.ifs [T (.bin .lss (.x 4) (.x 3))] (.t 0) .skip (.exit 0))
(.seq (.block 1 (.seq (.ops [T (.ia 2 (.x 2) (.x 4)), T (.load (some 2) (.t 0)), W 5 (.alloc false (.agg [.v (.int .u8 0), .nils 1])), N (.store 2 (.x 5) (.t 1))])
(.ifs [T (.fa 1 (.x 5)), T (.load none (.t 0)), T (.len (.t 0)), T (.bin .gtr (.t 0) (ki 300))] (.t 0) (.seq (.ops [W 1 (.take (kb true))])
.ret) .skip)))
(.ops [T (.bin .add (.x 4) (ki 1)), W 4 (.mov (.t 0))])))
def euphroelaw25_far.s : SFunc := { np := 1, nv := 6, res := [.var 1], code := (.seq (.ops [W 1 (.take (kb false))])
(.seq (.seq (.ops [T (.mov (.x 0)), T (.mov (.x 0)), T (.len (.t 0)), T (.mn (.t 0) (ki 40)), W 2 (.sub 2 (.t 3) none (some (.t 0)) none), W 3 (.len (.x 2)), W 4 (.mov (ki 0))])
(.block 0 (.loop [5] euphroelaw25_far.l0)))
(.seq (.ops [T (.mov (.x 0)), T (.len (.t 0)), T (.bin .gtr (.t 0) (ki 40)), W 1 (.take (.t 0))])
.ret))) }
def euphroelaw25_far.m : List Nat := [0, 2, 9, 10, 11, 4]
/-- euphroe/euphroelaw25.alive · 0:/0 1:c/1 2:l/2 3:w/3 -/
def euphroelaw25_alive.s : SFunc := { np := 0, nv := 4, res := [.var 0], code := (.seq (.ops [W 0 (.take (kb false))])
(.seq (.ops [T (.build [.v (.int .u8 0), .nils 1] [(0, 1, (kk .u8 9))]), T (.lit 2 [(.t 0)]), T (.call false 34 [(.t 0), (kb true), (kk .u32 1), (kk .u32 2)]), T (.take (.t 0)), T (.ext 0 (.t 0)), T (.ext 1 (.t 1)), W 1 (.take (.t 1)), W 2 (.take (.t 1))])
(.seq (.ops [T (.build [.v (.int .u16 0), .v (.int .u32 0), .v (.bool false)] [(0, 1, (kk .u16 1400)), (2, 1, (kb true)), (1, 1, (kk .u32 7))]), T (.call false 12 [(.t 0)]), W 3 (.take (.t 0))])
(.seq (.ops [T (.mov (.x 1)), T (.bin .eql (.t 0) (kk .u8 4)), T (.mov (.t 0)), GT 0 true (.mov (.x 2)), GT 1 true (.len (.t 0)), GT 2 true (.bin .eql (.t 0) (ki 1)), T (.pick (.t 3) (.t 0) (kb false)), T (.mov (.t 0)), GT 0 true (.mov (.x 2)), GT 1 true (.ia 2 (.t 0) (ki 0)), GT 2 true (.fa 0 (.t 0)), GT 3 true (.load none (.t 0)), GT 4 true (.bin .eql (.t 0) (kk .u8 9)), T (.pick (.t 5) (.t 0) (kb false)), T (.mov (.t 0)), GT 0 true (.mov (.x 3)), GT 1 true (.len (.t 0)), GT 2 true (.bin .eql (.t 0) (ki 3)), T (.pick (.t 3) (.t 0) (kb false)), T (.mov (.t 0)), GT 0 true (.mov (.x 3)), GT 1 true (.ia 2 (.t 0) (ki 1)), GT 2 true (.fa 1 (.t 0)), GT 3 true (.load none (.t 0)), GT 4 true (.len (.t 0)), GT 5 true (.bin .eql (.t 0) (ki 3)), T (.pick (.t 6) (.t 0) (kb false)), T (.mov (.t 0)), GT 0 true (.mov (.x 3)), GT 1 true (.call false 14 [(.t 0)]), GT 2 true (.fld 0 none (.t 0)), GT 3 true (.bin .eql (.t 0) (kk .u16 1400)), T (.pick (.t 4) (.t 0) (kb false)), T (.mov (.t 0)), GT 0 true (.call false 35 []), GT 1 true (.len (.t 0)), GT 2 true (.bin .eql (.t 0) (ki 3)), T (.pick (.t 3) (.t 0) (kb false)), W 0 (.take (.t 0))])
.ret)))) }
def euphroelaw25_alive.m : List Nat := [0, 1, 2, 3]
/-- euphroe/lcpo.Rejected · 0:w/0 1:l/1 2:w/2 3:/4 4:/5 5:/10 6:/11 7:/12 8:o/7 9:/17 10:bad/9 -/
def lcpo_Rejected.l0 : SCode := (.seq (.ifs [T (.bin .lss (.x 7) (.x 6))] (.t 0) .skip (.exit 0))
(.seq (.block 1 (.seq (.ops [T (.ia 2 (.x 5) (.x 7)), T (.load (some 2) (.t 0)), W 8 (.alloc false (.agg [.v (.int .u8 0), .nils 1])), N (.store 2 (.x 8) (.t 1))])
(.seq (.ops [T (.fa 0 (.x 8)), W 9 (.load none (.t 0))])
(.block 2 (.ifs [T (.bin .eql (.x 9) (kk .u8 1)), T (.take (.t 0))] (.t 0) (.ops [T (.fa 0 (.x 2)), N (.store 1 (.t 0) (kk .u16 0))]) (.ifs [T (.bin .eql (.x 9) (kk .u8 5)), T (.take (.t 0))] (.t 0) (.ops [T (.fa 1 (.x 2)), N (.store 1 (.t 0) (kk .u32 0))]) .skip))))))
(.ops [T (.bin .add (.x 7) (ki 1)), W 7 (.mov (.t 0))])))
def lcpo_Rejected.s : SFunc := { np := 2, nv := 11, res := [.cell (some 3) 3, .var 4], code := (.seq (.ops [W 2 (.box false (.x 0)), W 3 (.alloc false (.v (.agg [(.int .u16 0), (.int .u32 0), (.bool false)]))), W 4 (.take (kb false))])
(.seq (.seq (.ops [W 5 (.mov (.x 1)), W 6 (.len (.x 5)), W 7 (.mov (ki 0))])
(.block 0 (.loop [8, 9] lcpo_Rejected.l0)))
(.seq (.ops [T (.mov (.x 1)), T (.call false 36 [(.t 0), (kk .u8 3)]), T (.take (.t 0)), T (.ext 0 (.t 0)), T (.ext 1 (.t 1)), T (.alloc false (.agg [.v (.int .u8 0), .nils 1])), N (.store 2 (.t 0) (.t 2)), W 10 (.take (.t 2))])
(.seq (.ops [T (.load (some 3) (.x 2)), T (.mov (.x 10)), T (.un .not (.t 0)), N (.store 3 (.x 3) (.t 2)), W 4 (.take (.t 1))])
.ret)))) }
def lcpo_Rejected.m : List Nat := [0, 1, 2, 4, 5, 10, 11, 12, 7, 17, 9]
/-- euphroe/euphroelaw25.theirs · 0:l/0 1:/2 2:out/3 3:/6 4:/7 5:/8 6:o/5 -/
def euphroelaw25_theirs.l0 : SCode := (.seq (.ifs [T (.bin .lss (.x 5) (.x 4))] (.t 0) .skip (.exit 0))
(.seq (.block 1 (.seq (.ops [T (.ia 2 (.x 3) (.x 5)), T (.load (some 2) (.t 0)), W 6 (.alloc false (.agg [.v (.int .u8 0), .nils 1])), N (.store 2 (.x 6) (.t 1))])
(.ops [T (.take (.x 2)), T (.fa 0 (.x 6)), T (.load none (.t 0)), T (.fa 1 (.x 6)), T (.load none (.t 0)), T (.build [.v (.int .u8 0), .nils 1] [(0, 1, (.t 2)), (1, 1, (.t 0))]), T (.lit 2 [(.t 0)]), T (.app 2 32 (.t 6) (.t 0)), W 2 (.take (.t 0))])))
(.ops [T (.bin .add (.x 5) (ki 1)), W 5 (.mov (.t 0))])))
def euphroelaw25_theirs.s : SFunc := { np := 1, nv := 7, res := [.var 1], code := (.seq (.ops [W 1 (.take (kn 2))])
(.seq (.ops [W 2 (.take (kn 2))])
(.seq (.seq (.ops [W 3 (.mov (.x 0)), W 4 (.len (.x 3)), W 5 (.mov (ki 0))])
(.block 0 (.loop [6] euphroelaw25_theirs.l0)))
(.seq (.ops [T (.take (.x 2)), W 1 (.take (.t 0))])
.ret)))) }
def euphroelaw25_theirs.m : List Nat := [0, 2, 3, 6, 7, 8, 5]
/-- euphroe/euphroeref25.Rejected · 0:w/0 1:l/1 2:w/2 3:/4 4:/5 5:ok/7 6:ok/9 7:bad/11 -/
def euphroeref25_Rejected.s : SFunc := { np := 2, nv := 8, res := [.cell (some 3) 3, .var 4], code := (.seq (.ops [W 2 (.box false (.x 0)), W 3 (.alloc false (.v (.agg [(.int .u16 0), (.int .u32 0), (.bool false)]))), W 4 (.take (kb false))])
(.seq (.seq (.ops [T (.mov (.x 1)), T (.call false 37 [(.t 0), (kk .u8 1)]), T (.take (.t 0)), T (.ext 0 (.t 0)), T (.ext 1 (.t 1)), T (.alloc false (.agg [.v (.int .u8 0), .nils 1])), N (.store 2 (.t 0) (.t 2)), W 5 (.take (.t 2))])
(.ifs [T (.mov (.x 5))] (.t 0) (.ops [T (.fa 0 (.x 2)), N (.store 1 (.t 0) (kk .u16 0))]) .skip))
(.seq (.seq (.ops [T (.mov (.x 1)), T (.call false 37 [(.t 0), (kk .u8 5)]), T (.take (.t 0)), T (.ext 0 (.t 0)), T (.ext 1 (.t 1)), T (.alloc false (.agg [.v (.int .u8 0), .nils 1])), N (.store 2 (.t 0) (.t 2)), W 6 (.take (.t 2))])
(.ifs [T (.mov (.x 6))] (.t 0) (.ops [T (.fa 1 (.x 2)), N (.store 1 (.t 0) (kk .u32 0))]) .skip))
(.seq (.ops [T (.mov (.x 1)), T (.call false 37 [(.t 0), (kk .u8 3)]), T (.take (.t 0)), T (.ext 0 (.t 0)), T (.ext 1 (.t 1)), T (.alloc false (.agg [.v (.int .u8 0), .nils 1])), N (.store 2 (.t 0) (.t 2)), W 7 (.take (.t 2))])
(.seq (.ops [T (.load (some 3) (.x 2)), T (.mov (.x 7)), T (.un .not (.t 0)), N (.store 3 (.x 3) (.t 2)), W 4 (.take (.t 1))])
.ret))))) }
def euphroeref25_Rejected.m : List Nat := [0, 1, 2, 4, 5, 7, 9, 11]
/-- euphroe/opts.Same · 0:a/0 1:b/1 2:/4 -/
def opts_Same.s : SFunc := { np := 2, nv := 3, res := [.var 2], code := (.seq (.ops [W 2 (.take (kb false))])
(.seq (.ops [T (.mov (.x 0)), T (.mov (.x 1)), T (.call true 38 [(.t 1), (.t 0), (.c (.v (.fn 39)))]), W 2 (.take (.t 0))])
.ret)) }
def opts_Same.m : List Nat := [0, 1, 4]
/-- euphroe/lcpo.Options · 0:w/0 1:w/1 2:/2 3:l/3 -/
def lcpo_Options.s : SFunc := { np := 1, nv := 4, res := [.var 2], code := (.seq (.ops [W 1 (.box false (.x 0)), W 2 (.take (kn 2))])
(.seq (.ops [W 3 (.take (kn 2))])
(.seq (.ifs [T (.fa 0 (.x 1)), T (.load none (.t 0)), T (.bin .neq (.t 0) (kk .u16 0))] (.t 0) (.ops [T (.take (.x 3)), T (.fa 0 (.x 1)), T (.load none (.t 0)), T (.cvi .u64 (.t 0)), T (.call false 40 [(kk .u8 1), (.t 0), (ki 2)]), T (.lit 2 [(.t 0)]), T (.app 2 32 (.t 5) (.t 0)), W 3 (.take (.t 0))]) .skip)
(.seq (.ifs [T (.fa 2 (.x 1)), T (.load none (.t 0))] (.t 0) (.ops [T (.take (.x 3)), T (.call false 35 []), T (.build [.v (.int .u8 0), .nils 1] [(0, 1, (kk .u8 3)), (1, 1, (.t 0))]), T (.lit 2 [(.t 0)]), T (.app 2 32 (.t 3) (.t 0)), W 3 (.take (.t 0))]) .skip)
(.seq (.ifs [T (.fa 1 (.x 1)), T (.load none (.t 0)), T (.bin .neq (.t 0) (kk .u32 0))] (.t 0) (.ops [T (.take (.x 3)), T (.fa 1 (.x 1)), T (.load none (.t 0)), T (.cvi .u64 (.t 0)), T (.call false 40 [(kk .u8 5), (.t 0), (ki 4)]), T (.lit 2 [(.t 0)]), T (.app 2 32 (.t 5) (.t 0)), W 3 (.take (.t 0))]) .skip)
(.seq (.ops [T (.take (.x 3)), W 2 (.take (.t 0))])
.ret)))))) }
def lcpo_Options.m : List Nat := [0, 1, 2, 3]
/-- euphroe/euphroeref25.Options · 0:w/0 1:w/1 2:/2 3:out/3 -/
def euphroeref25_Options.s : SFunc := { np := 1, nv := 4, res := [.var 2], code := (.seq (.ops [W 1 (.box false (.x 0)), W 2 (.take (kn 2))])
(.seq (.ops [W 3 (.take (kn 2))])
(.seq (.ifs [T (.fa 0 (.x 1)), T (.load none (.t 0)), T (.bin .neq (.t 0) (kk .u16 0))] (.t 0) (.ops [T (.take (.x 3)), T (.fa 0 (.x 1)), T (.load none (.t 0)), T (.cvi .u64 (.t 0)), T (.call false 41 [(.t 0), (ki 2)]), T (.build [.v (.int .u8 0), .nils 1] [(0, 1, (kk .u8 1)), (1, 1, (.t 0))]), T (.lit 2 [(.t 0)]), T (.app 2 32 (.t 6) (.t 0)), W 3 (.take (.t 0))]) .skip)
(.seq (.ifs [T (.fa 2 (.x 1)), T (.load none (.t 0))] (.t 0) (.ops [T (.take (.x 3)), T (.call false 42 []), T (.build [.v (.int .u8 0), .nils 1] [(0, 1, (kk .u8 3)), (1, 1, (.t 0))]), T (.lit 2 [(.t 0)]), T (.app 2 32 (.t 3) (.t 0)), W 3 (.take (.t 0))]) .skip)
(.seq (.ifs [T (.fa 1 (.x 1)), T (.load none (.t 0)), T (.bin .neq (.t 0) (kk .u32 0))] (.t 0) (.ops [T (.take (.x 3)), T (.fa 1 (.x 1)), T (.load none (.t 0)), T (.cvi .u64 (.t 0)), T (.call false 41 [(.t 0), (ki 4)]), T (.build [.v (.int .u8 0), .nils 1] [(0, 1, (kk .u8 5)), (1, 1, (.t 0))]), T (.lit 2 [(.t 0)]), T (.app 2 32 (.t 6) (.t 0)), W 3 (.take (.t 0))]) .skip)
(.seq (.ops [T (.take (.x 3)), W 2 (.take (.t 0))])
.ret)))))) }
def euphroeref25_Options.m : List Nat := [0, 1, 2, 3]
/-- euphroe/lcpo.Of · 0:l/0 1:/2 2:g/3 3:o/4 4:ok/5 5:o/6 6:ok/7 7:o/8 -/
def lcpo_Of.s : SFunc := { np := 1, nv := 8, res := [.cell (some 5) 1], code := (.seq (.ops [W 1 (.alloc false (.v (.agg [(.int .u16 0), (.int .u32 0), (.bool false), (.bool false), (.bool false)])))])
(.seq (.ops [T (.build [.v (.int .u16 0), .v (.int .u32 0), .v (.bool false), .v (.bool false), .v (.bool false)] [(0, 1, (kk .u16 1500))]), W 2 (.alloc false (.v (.agg [(.int .u16 0), (.int .u32 0), (.bool false), (.bool false), (.bool false)]))), N (.store 5 (.x 2) (.t 1))])
(.seq (.seq (.ops [T (.mov (.x 0)), T (.call false 43 [(.t 0), (kk .u8 1)]), T (.take (.t 0)), T (.ext 0 (.t 0)), T (.ext 1 (.t 1)), W 3 (.alloc false (.agg [.v (.int .u8 0), .nils 1])), N (.store 2 (.x 3) (.t 2)), W 4 (.take (.t 2))])
(.ifs [T (.mov (.x 4))] (.t 0) (.ops [T (.load (some 2) (.x 3)), T (.call false 44 [(.t 0)]), T (.cvi .u16 (.t 0)), T (.fa 0 (.x 2)), N (.store 1 (.t 0) (.t 1))]) .skip))
(.seq (.seq (.ops [T (.mov (.x 0)), T (.call false 43 [(.t 0), (kk .u8 5)]), T (.take (.t 0)), T (.ext 0 (.t 0)), T (.ext 1 (.t 1)), W 5 (.alloc false (.agg [.v (.int .u8 0), .nils 1])), N (.store 2 (.x 5) (.t 2)), W 6 (.take (.t 2))])
(.ifs [T (.mov (.x 6))] (.t 0) (.ops [T (.load (some 2) (.x 5)), T (.call false 44 [(.t 0)]), T (.cvi .u32 (.t 0)), T (.fa 1 (.x 2)), N (.store 1 (.t 0) (.t 1))]) .skip))
(.seq (.ops [T (.mov (.x 0)), T (.call false 43 [(.t 0), (kk .u8 3)]), T (.take (.t 0)), T (.ext 0 (.t 0)), T (.ext 1 (.t 1)), W 7 (.alloc false (.agg [.v (.int .u8 0), .nils 1])), N (.store 2 (.x 7) (.t 2)), T (.take (.t 2))])
(.seq (.ops [T (.fa 1 (.x 7)), T (.load none (.t 0)), T (.call false 35 []), T (.call false 45 [(.t 1), (.t 0)]), T (.fa 2 (.x 2)), N (.store 1 (.t 0) (.t 1))])
(.seq (.ops [T (.mov (.x 0)), T (.call false 43 [(.t 0), (kk .u8 7)]), T (.take (.t 0)), T (.ext 0 (.t 0)), T (.ext 1 (.t 1)), T (.fa 3 (.x 2)), N (.store 1 (.t 0) (.t 1))])
(.seq (.ops [T (.mov (.x 0)), T (.call false 43 [(.t 0), (kk .u8 8)]), T (.take (.t 0)), T (.ext 0 (.t 0)), T (.ext 1 (.t 1)), T (.fa 4 (.x 2)), N (.store 1 (.t 0) (.t 1))])
(.seq (.ops [T (.load (some 5) (.x 2)), N (.store 5 (.x 1) (.t 0))])
.ret))))))))) }
def lcpo_Of.m : List Nat := [0, 2, 3, 4, 5, 6, 7, 8]
/-- euphroe/euphroeref25.Of · 0:l/0 1:/2 2:g/3 3:o/4 4:ok/5 5:o/6 6:ok/7 7:o/8 8:ok/9 -/
def euphroeref25_Of.s : SFunc := { np := 1, nv := 9, res := [.cell (some 5) 1], code := (.seq (.ops [W 1 (.alloc false (.v (.agg [(.int .u16 0), (.int .u32 0), (.bool false), (.bool false), (.bool false)])))])
(.seq (.ops [T (.build [.v (.int .u16 0), .v (.int .u32 0), .v (.bool false), .v (.bool false), .v (.bool false)] [(0, 1, (kk .u16 1500))]), W 2 (.alloc false (.v (.agg [(.int .u16 0), (.int .u32 0), (.bool false), (.bool false), (.bool false)]))), N (.store 5 (.x 2) (.t 1))])
(.seq (.seq (.ops [T (.mov (.x 0)), T (.call false 46 [(.t 0), (kk .u8 1)]), T (.take (.t 0)), T (.ext 0 (.t 0)), T (.ext 1 (.t 1)), W 3 (.alloc false (.agg [.v (.int .u8 0), .nils 1])), N (.store 2 (.x 3) (.t 2)), W 4 (.take (.t 2))])
(.ifs [T (.mov (.x 4))] (.t 0) (.ops [T (.fa 1 (.x 3)), T (.load none (.t 0)), T (.call false 47 [(.t 0)]), T (.cvi .u16 (.t 0)), T (.fa 0 (.x 2)), N (.store 1 (.t 0) (.t 1))]) .skip))
(.seq (.seq (.ops [T (.mov (.x 0)), T (.call false 46 [(.t 0), (kk .u8 3)]), T (.take (.t 0)), T (.ext 0 (.t 0)), T (.ext 1 (.t 1)), W 5 (.alloc false (.agg [.v (.int .u8 0), .nils 1])), N (.store 2 (.x 5) (.t 2)), W 6 (.take (.t 2))])
(.ifs [T (.mov (.x 6))] (.t 0) (.ops [T (.fa 1 (.x 5)), T (.load none (.t 0)), T (.call false 42 []), T (.call false 48 [(.t 1), (.t 0)]), T (.fa 2 (.x 2)), N (.store 1 (.t 0) (.t 1))]) .skip))
(.seq (.seq (.ops [T (.mov (.x 0)), T (.call false 46 [(.t 0), (kk .u8 5)]), T (.take (.t 0)), T (.ext 0 (.t 0)), T (.ext 1 (.t 1)), W 7 (.alloc false (.agg [.v (.int .u8 0), .nils 1])), N (.store 2 (.x 7) (.t 2)), W 8 (.take (.t 2))])
(.ifs [T (.mov (.x 8))] (.t 0) (.ops [T (.fa 1 (.x 7)), T (.load none (.t 0)), T (.call false 47 [(.t 0)]), T (.cvi .u32 (.t 0)), T (.fa 1 (.x 2)), N (.store 1 (.t 0) (.t 1))]) .skip))
(.seq (.ops [T (.mov (.x 0)), T (.call false 46 [(.t 0), (kk .u8 7)]), T (.take (.t 0)), T (.ext 0 (.t 0)), T (.ext 1 (.t 1)), T (.fa 3 (.x 2)), N (.store 1 (.t 0) (.t 1))])
(.seq (.ops [T (.mov (.x 0)), T (.call false 46 [(.t 0), (kk .u8 8)]), T (.take (.t 0)), T (.ext 0 (.t 0)), T (.ext 1 (.t 1)), T (.fa 4 (.x 2)), N (.store 1 (.t 0) (.t 1))])
(.seq (.ops [T (.load (some 5) (.x 2)), N (.store 5 (.x 1) (.t 0))])
.ret)))))))) }
def euphroeref25_Of.m : List Nat := [0, 2, 3, 4, 5, 6, 7, 8, 9]
/-- euphroe/lcpo.Naked · 0:w/0 1:l/1 2:fresh/2 3:w/3 4:/6 5:o/7 6:ok/8 7:n/9 8:ok/11 -/
def lcpo_Naked.s : SFunc := { np := 3, nv := 9, res := [.cell (some 3) 4], code := (.seq (.ops [W 3 (.box false (.x 0)), W 4 (.alloc false (.v (.agg [(.int .u16 0), (.int .u32 0), (.bool false)])))])
(.seq (.seq (.ops [T (.mov (.x 1)), T (.call false 43 [(.t 0), (kk .u8 1)]), T (.take (.t 0)), T (.ext 0 (.t 0)), T (.ext 1 (.t 1)), W 5 (.alloc false (.agg [.v (.int .u8 0), .nils 1])), N (.store 2 (.x 5) (.t 2)), W 6 (.take (.t 2))])
(.ifs [T (.mov (.x 6))] (.t 0) (.seq (.ops [T (.load (some 2) (.x 5)), T (.call false 44 [(.t 0)]), T (.cvi .u16 (.t 0)), W 7 (.take (.t 0))])
(.ifs [T (.mov (.x 7)), T (.bin .geq (.t 0) (kk .u16 128)), T (.mov (.t 0)), GT 0 true (.fa 0 (.x 3)), GT 1 true (.load none (.t 0)), GT 2 true (.bin .eql (.t 0) (kk .u16 0)), GT 3 true (.mov (.t 0)), GT 0 false (.mov (.x 7)), GT 1 false (.fa 0 (.x 3)), GT 2 false (.load none (.t 0)), GT 3 false (.bin .leq (.t 2) (.t 0)), GT 8 true (.pick (.t 4) (kb true) (.t 0)), T (.pick (.t 9) (.t 0) (kb false))] (.t 0) (.ops [T (.mov (.x 7)), T (.fa 0 (.x 3)), N (.store 1 (.t 0) (.t 1))]) .skip)) .skip))
(.seq (.seq (.ops [T (.mov (.x 1)), T (.call false 36 [(.t 0), (kk .u8 5)]), T (.take (.t 0)), T (.ext 0 (.t 0)), T (.ext 1 (.t 1)), T (.alloc false (.agg [.v (.int .u8 0), .nils 1])), N (.store 2 (.t 0) (.t 2)), W 8 (.take (.t 2))])
(.ifs [T (.mov (.x 8))] (.t 0) (.ops [T (.mov (.x 2)), T (.fa 1 (.x 3)), N (.store 1 (.t 0) (.t 1))]) .skip))
(.seq (.ops [T (.load (some 3) (.x 3)), N (.store 3 (.x 4) (.t 0))])
.ret)))) }
def lcpo_Naked.m : List Nat := [0, 1, 2, 3, 6, 7, 8, 9, 11]
/-- euphroe/euphroeref25.Naked · 0:w/0 1:l/1 2:fresh/2 3:w/3 4:/6 5:o/7 6:ok/8 7:n/9 8:ok/11 -/
def euphroeref25_Naked.s : SFunc := { np := 3, nv := 9, res := [.cell (some 3) 4], code := (.seq (.ops [W 3 (.box false (.x 0)), W 4 (.alloc false (.v (.agg [(.int .u16 0), (.int .u32 0), (.bool false)])))])
(.seq (.seq (.ops [T (.mov (.x 1)), T (.call false 46 [(.t 0), (kk .u8 1)]), T (.take (.t 0)), T (.ext 0 (.t 0)), T (.ext 1 (.t 1)), W 5 (.alloc false (.agg [.v (.int .u8 0), .nils 1])), N (.store 2 (.x 5) (.t 2)), W 6 (.take (.t 2))])
(.ifs [T (.mov (.x 6))] (.t 0) (.seq (.ops [T (.fa 1 (.x 5)), T (.load none (.t 0)), T (.call false 47 [(.t 0)]), T (.cvi .u16 (.t 0)), W 7 (.take (.t 0))])
(.ifs [T (.mov (.x 7)), T (.bin .geq (.t 0) (kk .u16 128)), T (.mov (.t 0)), GT 0 true (.fa 0 (.x 3)), GT 1 true (.load none (.t 0)), GT 2 true (.bin .eql (.t 0) (kk .u16 0)), GT 3 true (.mov (.t 0)), GT 0 false (.mov (.x 7)), GT 1 false (.fa 0 (.x 3)), GT 2 false (.load none (.t 0)), GT 3 false (.bin .leq (.t 2) (.t 0)), GT 8 true (.pick (.t 4) (kb true) (.t 0)), T (.pick (.t 9) (.t 0) (kb false))] (.t 0) (.ops [T (.mov (.x 7)), T (.fa 0 (.x 3)), N (.store 1 (.t 0) (.t 1))]) .skip)) .skip))
(.seq (.seq (.ops [T (.mov (.x 1)), T (.call false 37 [(.t 0), (kk .u8 5)]), T (.take (.t 0)), T (.ext 0 (.t 0)), T (.ext 1 (.t 1)), T (.alloc false (.agg [.v (.int .u8 0), .nils 1])), N (.store 2 (.t 0) (.t 2)), W 8 (.take (.t 2))])
(.ifs [T (.mov (.x 8))] (.t 0) (.ops [T (.mov (.x 2)), T (.fa 1 (.x 3)), N (.store 1 (.t 0) (.t 1))]) .skip))
(.seq (.ops [T (.load (some 3) (.x 3)), N (.store 3 (.x 4) (.t 0))])
.ret)))) }
def euphroeref25_Naked.m : List Nat := [0, 1, 2, 3, 6, 7, 8, 9, 11]
/-- euphroe/lcpo.Judge · 0:l/0 1:proves/1 2:own/2 3:fresh/3 4:/8 5:/9 6:rejected/10 7:naked/11 8:met/12 9:/18 10:/19 11:/20 12:o/14 13:x/15 14:worse/16 -/
def lcpo_Judge.l0 : SCode := (.seq (.ifs [T (.bin .lss (.x 11) (.x 10))] (.t 0) .skip (.exit 0))
(.seq (.block 1 (.seq (.ops [T (.ia 2 (.x 9) (.x 11)), T (.load (some 2) (.t 0)), W 12 (.alloc false (.agg [.v (.int .u8 0), .nils 1])), N (.store 2 (.x 12) (.t 1))])
(.seq (.seq (.ops [T (.load (some 2) (.x 12)), T (.mov (.x 2)), T (.mov (.x 3)), T (.call false 59 [(.t 2), (.t 1), (.t 0)]), T (.take (.t 0)), T (.ext 0 (.t 0)), T (.ext 1 (.t 1)), W 13 (.alloc false (.agg [.v (.int .u8 0), .nils 1])), N (.store 2 (.x 13) (.t 2)), W 14 (.take (.t 2))])
(.ifs [T (.load (some 2) (.x 12)), T (.call false 60 [(.t 0)]), T (.un .not (.t 0)), T (.mov (.t 0)), GT 0 false (.mov (.x 8)), GT 1 false (.fa 0 (.x 12)), GT 2 false (.load none (.t 0)), GT 3 false (.look 1 false (.v (.bool false)) (.t 2) (.t 0)), T (.pick (.t 4) (kb true) (.t 0)), T (.mov (.t 0)), GT 0 false (.fa 0 (.x 12)), GT 1 false (.load none (.t 0)), GT 2 false (.bin .eql (.t 0) (kk .u8 3)), GT 3 false (.mov (.t 0)), GT 0 true (.mov (.x 1)), GT 1 true (.un .not (.t 0)), GT 6 false (.pick (.t 2) (.t 0) (kb false)), T (.pick (.t 7) (kb true) (.t 0))] (.t 0) (.ops [T (.take (.x 6)), T (.load (some 2) (.x 12)), T (.lit 2 [(.t 0)]), T (.app 2 32 (.t 2) (.t 0)), W 6 (.take (.t 0))]) (.ifs [T (.mov (.x 14))] (.t 0) (.ops [T (.take (.x 7)), T (.load (some 2) (.x 13)), T (.lit 2 [(.t 0)]), T (.app 2 32 (.t 2) (.t 0)), W 7 (.take (.t 0))]) .skip)))
(.ops [T (.mov (.x 8)), T (.fa 0 (.x 12)), T (.load none (.t 0)), N (.mupd 1 (.t 2) (.t 0) (kb true))]))))
(.ops [T (.bin .add (.x 11) (ki 1)), W 11 (.mov (.t 0))])))
def lcpo_Judge.s : SFunc := { np := 4, nv := 15, res := [.var 4, .var 5], code := (.seq (.ops [W 4 (.take (kk .u8 0)), W 5 (.take (kn 2))])
(.seq (.ops [W 6 (.take (kn 2)), W 7 (.take (kn 2))])
(.seq (.ops [T (.mkmap false), W 8 (.take (.t 0))])
(.seq (.seq (.ops [W 9 (.mov (.x 0)), W 10 (.len (.x 9)), W 11 (.mov (ki 0))])
(.block 0 (.loop [12, 13, 14] lcpo_Judge.l0)))
(.seq (.block 2 (.ifs [T (.mov (.x 6)), T (.len (.t 0)), T (.bin .gtr (.t 0) (ki 0)), T (.take (.t 0))] (.t 0) (.seq (.ops [T (.take (.x 6)), W 4 (.take (kk .u8 4)), W 5 (.take (.t 1))])
.ret) (.ifs [T (.mov (.x 7)), T (.len (.t 0)), T (.bin .gtr (.t 0) (ki 0)), T (.take (.t 0))] (.t 0) (.seq (.ops [T (.take (.x 7)), W 4 (.take (kk .u8 3)), W 5 (.take (.t 1))])
.ret) .skip)))
(.seq (.ops [T (.mov (.x 0)), T (.call true 61 [(.t 0)]), W 4 (.take (kk .u8 2)), W 5 (.take (.t 1))])
.ret)))))) }
def lcpo_Judge.m : List Nat := [0, 1, 2, 3, 8, 9, 10, 11, 12, 18, 19, 20, 14, 15, 16]
/-- euphroe/lcpo.Chap · 0:/0 -/
def lcpo_Chap.s : SFunc := { np := 0, nv := 1, res := [.var 0], code := (.seq (.ops [W 0 (.take (kn 1))])
(.seq (.ops [T (.lit 1 [(kk .u8 194), (kk .u8 35), (kk .u8 129)]), W 0 (.take (.t 0))])
.ret)) }
def lcpo_Chap.m : List Nat := [0]
/-- euphroe/opts.Find · 0:l/0 1:kind/1 2:kind/3 3:/4 4:/5 5:i/6 -/
def opts_Find.s : SFunc := { np := 2, nv := 6, res := [.cell (some 2) 3, .var 4], code := (.seq (.ops [W 2 (.box false (.x 1)), W 3 (.alloc false (.agg [.v (.int .u8 0), .nils 1])), W 4 (.take (kb false))])
(.seq (.ops [T (.mov (.x 0)), T (.mkf 63 [] [(.x 2)]), T (.call true 62 [(.t 1), (.t 0)]), W 5 (.take (.t 0))])
(.seq (.ifs [T (.mov (.x 5)), T (.bin .lss (.t 0) (ki 0))] (.t 0) (.seq (.ops [T (.build [.v (.int .u8 0), .nils 1] []), N (.store 2 (.x 3) (.t 0)), W 4 (.take (kb false))])
.ret) .skip)
(.seq (.ops [T (.mov (.x 0)), T (.mov (.x 5)), T (.ia 2 (.t 1) (.t 0)), T (.load (some 2) (.t 0)), N (.store 2 (.x 3) (.t 0)), W 4 (.take (kb true))])
.ret)))) }
def opts_Find.m : List Nat := [0, 1, 3, 4, 5, 6]
/-- euphroe/euphroeref21.Find · 0:l/0 1:kind/1 2:/4 3:/5 4:i/6 -/
def euphroeref21_Find.l0 : SCode := (.seq (.ifs [T (.mov (.x 4)), T (.mov (.x 0)), T (.len (.t 0)), T (.bin .lss (.t 2) (.t 0))] (.t 0) .skip (.exit 0))
(.seq (.block 1 (.ifs [T (.mov (.x 0)), T (.mov (.x 4)), T (.ia 2 (.t 1) (.t 0)), T (.fa 0 (.t 0)), T (.load none (.t 0)), T (.mov (.x 1)), T (.bin .eql (.t 1) (.t 0))] (.t 0) (.seq (.ops [T (.mov (.x 0)), T (.mov (.x 4)), T (.ia 2 (.t 1) (.t 0)), T (.load (some 2) (.t 0)), N (.store 2 (.x 2) (.t 0)), W 3 (.take (kb true))])
.ret) .skip))
(.ops [T (.mov (.x 4)), T (.bin .add (.t 0) (ki 1)), W 4 (.take (.t 0))])))
def euphroeref21_Find.s : SFunc := { np := 2, nv := 5, res := [.cell (some 2) 2, .var 3], code := (.seq (.ops [W 2 (.alloc false (.agg [.v (.int .u8 0), .nils 1])), W 3 (.take (kb false))])
(.seq (.seq (.ops [W 4 (.take (ki 0))])
(.block 0 (.loop [] euphroeref21_Find.l0)))
(.seq (.ops [T (.build [.v (.int .u8 0), .nils 1] []), N (.store 2 (.x 2) (.t 0)), W 3 (.take (kb false))])
.ret))) }
def euphroeref21_Find.m : List Nat := [0, 1, 4, 5, 6]
/-- slices.EqualFunc[[]euphroe/api.Option,[]euphroe/api.Option,euphroe/api.Option,euphroe/api.Option] · 0:s1/0 1:s2/1 2:eq/2 3:/6 4:/15 5:/16 6:/17 7:v1/8 8:i/7 9:v2/9 -/
def slices_EqualFunc_api_Option.l0 : SCode := (.seq (.ifs [T (.bin .lss (.x 6) (.x 5))] (.t 0) .skip (.exit 0))
(.seq (.block 1 (.seq (.ops [T (.mov (.x 6)), T (.ia 2 (.x 4) (.x 6)), T (.load (some 2) (.t 0)), W 7 (.alloc false (.agg [.v (.int .u8 0), .nils 1])), W 8 (.take (.t 3)), N (.store 2 (.x 7) (.t 2))])
(.seq (.ops [T (.mov (.x 1)), T (.mov (.x 8)), T (.ia 2 (.t 1) (.t 0)), T (.load (some 2) (.t 0)), W 9 (.alloc false (.agg [.v (.int .u8 0), .nils 1])), N (.store 2 (.x 9) (.t 1))])
(.ifs [T (.mov (.x 2)), T (.load (some 2) (.x 7)), T (.load (some 2) (.x 9)), T (.callv (.t 2) [(.t 1), (.t 0)]), T (.un .not (.t 0))] (.t 0) (.seq (.ops [W 3 (.take (kb false))])
.ret) .skip))))
(.ops [T (.bin .add (.x 6) (ki 1)), W 6 (.mov (.t 0))])))
def slices_EqualFunc_api_Option.s : SFunc := { np := 3, nv := 10, res := [.var 3], code := (.seq (.ops [W 3 (.take (kb false))])
(.seq (.ifs [T (.mov (.x 0)), T (.len (.t 0)), T (.mov (.x 1)), T (.len (.t 0)), T (.bin .neq (.t 2) (.t 0))] (.t 0) (.seq (.ops [W 3 (.take (kb false))])
.ret) .skip)
(.seq (.seq (.ops [W 4 (.mov (.x 0)), W 5 (.len (.x 4)), W 6 (.mov (ki 0))])
(.block 0 (.loop [7, 8, 9] slices_EqualFunc_api_Option.l0)))
(.seq (.ops [W 3 (.take (kb true))])
.ret)))) }
def slices_EqualFunc_api_Option.m : List Nat := [0, 1, 2, 6, 15, 16, 17, 8, 7, 9]
/-- euphroe/opts.same · 0:a/0 1:b/1 2:a/2 3:b/3 4:/4 -/
def opts_same.s : SFunc := { np := 2, nv := 5, res := [.var 4], code := (.seq (.ops [W 2 (.box false (.x 0)), W 3 (.box false (.x 1)), W 4 (.take (kb false))])
(.seq (.ops [T (.fa 0 (.x 2)), T (.load none (.t 0)), T (.fa 0 (.x 3)), T (.load none (.t 0)), T (.bin .eql (.t 2) (.t 0)), T (.mov (.t 0)), GT 0 true (.fa 1 (.x 2)), GT 1 true (.load none (.t 0)), GT 2 true (.fa 1 (.x 3)), GT 3 true (.load none (.t 0)), GT 4 true (.call false 45 [(.t 2), (.t 0)]), T (.pick (.t 5) (.t 0) (kb false)), W 4 (.take (.t 0))])
.ret)) }
def opts_same.m : List Nat := [0, 1, 2, 3, 4]
/-- euphroe/lcpo.option · 0:kind/0 1:n/1 2:width/2 3:/6 4:b/7 -/
def lcpo_option.s : SFunc := { np := 3, nv := 5, res := [.cell (some 2) 3], code := (.seq (.ops [W 3 (.alloc false (.agg [.v (.int .u8 0), .nils 1]))])
(.seq (.ops [T (.mov (.x 1)), T (.mov (.x 2)), T (.call false 64 [(.t 1), (.t 0), (kb false)]), T (.take (.t 0)), T (.ext 0 (.t 0)), T (.ext 1 (.t 1)), W 4 (.take (.t 1)), T (.take (.t 1))])
(.seq (.ops [T (.mov (.x 0)), T (.mov (.x 4)), T (.build [.v (.int .u8 0), .nils 1] [(0, 1, (.t 1)), (1, 1, (.t 0))]), N (.store 2 (.x 3) (.t 0))])
.ret))) }
def lcpo_option.m : List Nat := [0, 1, 2, 6, 7]
/-- euphroe/euphroeref01.Big · 0:n/0 1:width/1 2:/4 3:out/5 4:i/6 -/
def euphroeref01_Big.l0 : SCode := (.seq (.ifs [T (.mov (.x 4)), T (.bin .geq (.t 0) (ki 0))] (.t 0) .skip (.exit 0))
(.seq (.block 1 (.seq (.ops [T (.mov (.x 3)), T (.mov (.x 4)), T (.mov (.x 0)), T (.bin .rem (.t 0) (kk .u64 256)), T (.cvi .u8 (.t 0)), T (.ia 1 (.t 4) (.t 3)), N (.store 1 (.t 0) (.t 1))])
(.ops [T (.mov (.x 0)), T (.bin .quo (.t 0) (kk .u64 256)), W 0 (.take (.t 0))])))
(.ops [T (.mov (.x 4)), T (.bin .sub (.t 0) (ki 1)), W 4 (.take (.t 0))])))
def euphroeref01_Big.s : SFunc := { np := 2, nv := 5, res := [.var 2], code := (.seq (.ops [W 2 (.take (kn 1))])
(.seq (.ops [T (.mov (.x 1)), T (.make 1 1 (.v (.int .u8 0)) (.t 0) (.t 0)), W 3 (.take (.t 0))])
(.seq (.seq (.ops [T (.mov (.x 1)), T (.bin .sub (.t 0) (ki 1)), W 4 (.take (.t 0))])
(.block 0 (.loop [] euphroeref01_Big.l0)))
(.seq (.ops [T (.take (.x 3)), W 2 (.take (.t 0))])
.ret)))) }
def euphroeref01_Big.m : List Nat := [0, 1, 4, 5, 6]
/-- euphroe/euphroeref25.chap · 0:/0 -/
def euphroeref25_chap.s : SFunc := { np := 0, nv := 1, res := [.var 0], code := (.seq (.ops [W 0 (.take (kn 1))])
(.seq (.ops [T (.lit 1 [(kk .u8 194), (kk .u8 35), (kk .u8 129)]), W 0 (.take (.t 0))])
.ret)) }
def euphroeref25_chap.m : List Nat := [0]
/-- euphroe/lcpo.first · 0:l/0 1:kind/1 2:/4 3:/5 4:/8 5:/9 6:/10 7:o/7 -/
def lcpo_first.l0 : SCode := (.seq (.ifs [T (.bin .lss (.x 6) (.x 5))] (.t 0) .skip (.exit 0))
(.seq (.block 1 (.seq (.ops [T (.ia 2 (.x 4) (.x 6)), T (.load (some 2) (.t 0)), W 7 (.alloc false (.agg [.v (.int .u8 0), .nils 1])), N (.store 2 (.x 7) (.t 1))])
(.ifs [T (.fa 0 (.x 7)), T (.load none (.t 0)), T (.mov (.x 1)), T (.bin .eql (.t 1) (.t 0)), T (.mov (.t 0)), GT 0 true (.load (some 2) (.x 7)), GT 1 true (.call false 60 [(.t 0)]), T (.pick (.t 2) (.t 0) (kb false))] (.t 0) (.seq (.ops [T (.load (some 2) (.x 7)), N (.store 2 (.x 2) (.t 0)), W 3 (.take (kb true))])
.ret) .skip)))
(.ops [T (.bin .add (.x 6) (ki 1)), W 6 (.mov (.t 0))])))
def lcpo_first.s : SFunc := { np := 2, nv := 8, res := [.cell (some 2) 2, .var 3], code := (.seq (.ops [W 2 (.alloc false (.agg [.v (.int .u8 0), .nils 1])), W 3 (.take (kb false))])
(.seq (.seq (.ops [W 4 (.mov (.x 0)), W 5 (.len (.x 4)), W 6 (.mov (ki 0))])
(.block 0 (.loop [7] lcpo_first.l0)))
(.seq (.ops [T (.build [.v (.int .u8 0), .nils 1] []), N (.store 2 (.x 2) (.t 0)), W 3 (.take (kb false))])
.ret))) }
def lcpo_first.m : List Nat := [0, 1, 4, 5, 8, 9, 10, 7]
/-- euphroe/lcpo.number · 0:o/0 1:o/1 2:/2 3:n/3 -/
def lcpo_number.s : SFunc := { np := 1, nv := 4, res := [.var 2], code := (.seq (.ops [W 1 (.box false (.x 0)), W 2 (.take (kk .u64 0))])
(.seq (.ops [T (.fa 1 (.x 1)), T (.load none (.t 0)), T (.call false 65 [(.t 0), (kb false)]), T (.take (.t 0)), T (.ext 0 (.t 0)), T (.ext 1 (.t 1)), W 3 (.take (.t 1)), T (.take (.t 1))])
(.seq (.ops [T (.take (.x 3)), W 2 (.take (.t 0))])
.ret))) }
def lcpo_number.m : List Nat := [0, 1, 2, 3]
/-- bytes.Equal · 0:a/0 1:b/1 2:/4 -/
def bytes_Equal.s : SFunc := { np := 2, nv := 3, res := [.var 2], code := (.seq (.ops [W 2 (.take (kb false))])
(.seq (.ops [T (.mov (.x 0)), T (.b2s (.t 0)), T (.mov (.x 1)), T (.b2s (.t 0)), T (.bin .eql (.t 2) (.t 0)), W 2 (.take (.t 0))])
.ret)) }
def bytes_Equal.m : List Nat := [0, 1, 4]
/-- euphroe/euphroeref25.first · 0:l/0 1:kind/1 2:/4 3:/5 4:i/6 -/
def euphroeref25_first.l0 : SCode := (.seq (.ifs [T (.mov (.x 4)), T (.mov (.x 0)), T (.len (.t 0)), T (.bin .lss (.t 2) (.t 0))] (.t 0) .skip (.exit 0))
(.seq (.block 1 (.ifs [T (.mov (.x 0)), T (.mov (.x 4)), T (.ia 2 (.t 1) (.t 0)), T (.fa 0 (.t 0)), T (.load none (.t 0)), T (.mov (.x 1)), T (.bin .eql (.t 1) (.t 0)), T (.mov (.t 0)), GT 0 true (.mov (.x 0)), GT 1 true (.mov (.x 4)), GT 2 true (.ia 2 (.t 1) (.t 0)), GT 3 true (.load (some 2) (.t 0)), GT 4 true (.call false 66 [(.t 0)]), T (.pick (.t 5) (.t 0) (kb false))] (.t 0) (.seq (.ops [T (.mov (.x 0)), T (.mov (.x 4)), T (.ia 2 (.t 1) (.t 0)), T (.load (some 2) (.t 0)), N (.store 2 (.x 2) (.t 0)), W 3 (.take (kb true))])
.ret) .skip))
(.ops [T (.mov (.x 4)), T (.bin .add (.t 0) (ki 1)), W 4 (.take (.t 0))])))
def euphroeref25_first.s : SFunc := { np := 2, nv := 5, res := [.cell (some 2) 2, .var 3], code := (.seq (.ops [W 2 (.alloc false (.agg [.v (.int .u8 0), .nils 1])), W 3 (.take (kb false))])
(.seq (.seq (.ops [W 4 (.take (ki 0))])
(.block 0 (.loop [] euphroeref25_first.l0)))
(.seq (.ops [T (.build [.v (.int .u8 0), .nils 1] []), N (.store 2 (.x 2) (.t 0)), W 3 (.take (kb false))])
.ret))) }
def euphroeref25_first.m : List Nat := [0, 1, 4, 5, 6]
/-- euphroe/euphroeref01.Num · 0:b/0 1:/2 2:n/3 3:i/4 -/
def euphroeref01_Num.l0 : SCode := (.seq (.ifs [T (.mov (.x 3)), T (.mov (.x 0)), T (.len (.t 0)), T (.bin .lss (.t 2) (.t 0))] (.t 0) .skip (.exit 0))
(.seq (.block 1 (.ops [T (.mov (.x 2)), T (.bin .mul (.t 0) (kk .u64 256)), T (.mov (.x 0)), T (.mov (.x 3)), T (.ia 1 (.t 1) (.t 0)), T (.load none (.t 0)), T (.cvi .u64 (.t 0)), T (.bin .add (.t 5) (.t 0)), W 2 (.take (.t 0))]))
(.ops [T (.mov (.x 3)), T (.bin .add (.t 0) (ki 1)), W 3 (.take (.t 0))])))
def euphroeref01_Num.s : SFunc := { np := 1, nv := 4, res := [.var 1], code := (.seq (.ops [W 1 (.take (kk .u64 0))])
(.seq (.ops [W 2 (.take (kk .u64 0))])
(.seq (.seq (.ops [W 3 (.take (ki 0))])
(.block 0 (.loop [] euphroeref01_Num.l0)))
(.seq (.ops [T (.take (.x 2)), W 1 (.take (.t 0))])
.ret)))) }
def euphroeref01_Num.m : List Nat := [0, 2, 3, 4]
/-- euphroe/euphroeref01.Same · 0:a/0 1:b/1 2:/4 3:i/5 -/
def euphroeref01_Same.l0 : SCode := (.seq (.ifs [T (.mov (.x 3)), T (.mov (.x 0)), T (.len (.t 0)), T (.bin .lss (.t 2) (.t 0))] (.t 0) .skip (.exit 0))
(.seq (.block 1 (.ifs [T (.mov (.x 0)), T (.mov (.x 3)), T (.ia 1 (.t 1) (.t 0)), T (.load none (.t 0)), T (.mov (.x 1)), T (.mov (.x 3)), T (.ia 1 (.t 1) (.t 0)), T (.load none (.t 0)), T (.bin .neq (.t 4) (.t 0))] (.t 0) (.seq (.ops [W 2 (.take (kb false))])
.ret) .skip))
(.ops [T (.mov (.x 3)), T (.bin .add (.t 0) (ki 1)), W 3 (.take (.t 0))])))
def euphroeref01_Same.s : SFunc := { np := 2, nv := 4, res := [.var 2], code := (.seq (.ops [W 2 (.take (kb false))])
(.seq (.ifs [T (.mov (.x 0)), T (.len (.t 0)), T (.mov (.x 1)), T (.len (.t 0)), T (.bin .neq (.t 2) (.t 0))] (.t 0) (.seq (.ops [W 2 (.take (kb false))])
.ret) .skip)
(.seq (.seq (.ops [W 3 (.take (ki 0))])
(.block 0 (.loop [] euphroeref01_Same.l0)))
(.seq (.ops [W 2 (.take (kb true))])
.ret)))) }
def euphroeref01_Same.m : List Nat := [0, 1, 4, 5]
/-- euphroe/lcpo.better · 0:o/0 1:own/1 2:fresh/2 3:o/3 4:/6 5:/7 6:/9 -/
def lcpo_better.s : SFunc := { np := 3, nv := 7, res := [.cell (some 2) 4, .var 5], code := (.seq (.ops [W 3 (.box false (.x 0)), W 4 (.alloc false (.agg [.v (.int .u8 0), .nils 1])), W 5 (.take (kb false))])
(.seq (.seq (.ops [T (.fa 0 (.x 3)), W 6 (.load none (.t 0))])
(.block 0 (.ifs [T (.bin .eql (.x 6) (kk .u8 1)), T (.take (.t 0))] (.t 0) (.seq (.ops [T (.call false 40 [(kk .u8 1), (kk .u64 1400), (ki 2)]), T (.load (some 2) (.x 3)), T (.call false 44 [(.t 0)]), T (.bin .lss (.t 0) (kk .u64 128)), N (.store 2 (.x 4) (.t 3)), W 5 (.take (.t 1))])
.ret) (.ifs [T (.bin .eql (.x 6) (kk .u8 3)), T (.take (.t 0))] (.t 0) (.seq (.ops [T (.call false 35 []), T (.build [.v (.int .u8 0), .nils 1] [(0, 1, (kk .u8 3)), (1, 1, (.t 0))]), T (.fa 1 (.x 3)), T (.load none (.t 0)), T (.call false 35 []), T (.call false 45 [(.t 1), (.t 0)]), T (.un .not (.t 0)), N (.store 2 (.x 4) (.t 5)), W 5 (.take (.t 1))])
.ret) (.ifs [T (.bin .eql (.x 6) (kk .u8 5)), T (.take (.t 0))] (.t 0) (.seq (.ops [T (.mov (.x 2)), T (.cvi .u64 (.t 0)), T (.call false 40 [(kk .u8 5), (.t 0), (ki 4)]), T (.load (some 2) (.x 3)), T (.call false 44 [(.t 0)]), T (.bin .eql (.t 0) (kk .u64 0)), T (.mov (.t 0)), GT 0 false (.load (some 2) (.x 3)), GT 1 false (.call false 44 [(.t 0)]), GT 2 false (.mov (.x 1)), GT 3 false (.cvi .u64 (.t 0)), GT 4 false (.bin .eql (.t 2) (.t 0)), T (.pick (.t 5) (kb true) (.t 0)), N (.store 2 (.x 4) (.t 10)), W 5 (.take (.t 1))])
.ret) .skip)))))
(.seq (.ops [T (.build [.v (.int .u8 0), .nils 1] []), N (.store 2 (.x 4) (.t 0)), W 5 (.take (kb false))])
.ret))) }
def lcpo_better.m : List Nat := [0, 1, 2, 3, 6, 7, 9]
/-- euphroe/lcpo.right · 0:o/0 1:o/1 2:/2 -/
def lcpo_right.s : SFunc := { np := 1, nv := 3, res := [.var 2], code := (.seq (.ops [W 1 (.box false (.x 0)), W 2 (.take (kb false))])
(.seq (.ops [T (.fa 1 (.x 1)), T (.load none (.t 0)), T (.len (.t 0)), T (.fa 0 (.x 1)), T (.load none (.t 0)), T (.call false 73 [(.t 0)]), T (.bin .eql (.t 3) (.t 0)), W 2 (.take (.t 0))])
.ret)) }
def lcpo_right.m : List Nat := [0, 1, 2]
/-- slices.Clone[[]euphroe/api.Option,euphroe/api.Option] · 0:s/0 1:/2 -/
def slices_Clone_api_Option.s : SFunc := { np := 1, nv := 2, res := [.var 1], code := (.nilc 1 0 2 32 (.seq (.ops [W 1 (.take (kn 2))])
(.seq (.ifs [T (.mov (.x 0)), T (.eq .s false (.t 0) (kn 2))] (.t 0) (.seq (.ops [W 1 (.take (kn 2))])
.ret) .skip)
(.seq (.clone 1 0 2 32)
.ret)))) }
def slices_Clone_api_Option.m : List Nat := [0, 2]
/-- slices.IndexFunc[[]euphroe/api.Option,euphroe/api.Option] · 0:s/0 1:f/1 2:/4 3:/7 4:/8 5:i/5 -/
def slices_IndexFunc_api_Option.l0 : SCode := (.seq (.ifs [T (.bin .lss (.x 4) (.x 3))] (.t 0) .skip (.exit 0))
(.seq (.block 1 (.seq (.ops [T (.mov (.x 4)), W 5 (.take (.t 0))])
(.ifs [T (.mov (.x 1)), T (.mov (.x 0)), T (.mov (.x 5)), T (.ia 2 (.t 1) (.t 0)), T (.load (some 2) (.t 0)), T (.callv (.t 4) [(.t 0)])] (.t 0) (.seq (.ops [T (.take (.x 5)), W 2 (.take (.t 0))])
.ret) .skip)))
(.ops [T (.bin .add (.x 4) (ki 1)), W 4 (.mov (.t 0))])))
def slices_IndexFunc_api_Option.s : SFunc := { np := 2, nv := 6, res := [.var 2], code := (.seq (.ops [W 2 (.take (ki 0))])
(.seq (.seq (.ops [T (.mov (.x 0)), W 3 (.len (.t 0)), W 4 (.mov (ki 0))])
(.block 0 (.loop [5] slices_IndexFunc_api_Option.l0)))
(.seq (.ops [W 2 (.take (ki (-1)))])
.ret))) }
def slices_IndexFunc_api_Option.m : List Nat := [0, 1, 4, 7, 8, 5]
/-- euphroe/opts.Find$1 · 0:o/0 1:/1 2:o/2 3:/3 -/
def opts_Find_1.s : SFunc := { np := 2, nv := 4, res := [.var 3], code := (.seq (.ops [W 2 (.box false (.x 0)), W 3 (.take (kb false))])
(.seq (.ops [T (.fa 0 (.x 2)), T (.load none (.t 0)), T (.load none (.x 1)), T (.bin .eql (.t 1) (.t 0)), W 3 (.take (.t 0))])
.ret)) }
def opts_Find_1.m : List Nat := [0, 1, 2, 3]
/-- euphroe/octs.Put · 0:n/0 1:width/1 2:little/2 3:/6 4:/7 5:b/8 6:/19 7:/20 8:i/9 -/
def octs_Put.l0 : SCode := (.seq (.ifs [T (.bin .lss (.x 7) (.x 6))] (.t 0) .skip (.exit 0))
(.seq (.block 1 (.seq (.ops [T (.mov (.x 7)), W 8 (.take (.t 0))])
(.ops [T (.mov (.x 5)), T (.mov (.x 8)), T (.mov (.x 0)), T (.mov (.x 8)), T (.bin .mul (ki 8) (.t 0)), T (.bin .shr (.t 2) (.t 0)), T (.cvi .u8 (.t 0)), T (.ia 1 (.t 6) (.t 5)), N (.store 1 (.t 0) (.t 1))])))
(.ops [T (.bin .add (.x 7) (ki 1)), W 7 (.mov (.t 0))])))
def octs_Put.s : SFunc := { np := 3, nv := 9, res := [.var 3, .var 4], code := (.seq (.ops [W 3 (.take (kn 1)), W 4 (.take (ki 0))])
(.seq (.ifs [T (.mov (.x 1)), T (.bin .lss (.t 0) (ki 1)), T (.mov (.t 0)), GT 0 false (.mov (.x 1)), GT 1 false (.bin .gtr (.t 0) (ki 8)), T (.pick (.t 2) (kb true) (.t 0))] (.t 0) (.seq (.ops [W 3 (.take (kn 1)), W 4 (.take (ki 1))])
.ret) .skip)
(.seq (.ops [T (.mov (.x 1)), T (.make 1 1 (.v (.int .u8 0)) (.t 0) (.t 0)), W 5 (.take (.t 0))])
(.seq (.seq (.ops [T (.mov (.x 5)), W 6 (.len (.t 0)), W 7 (.mov (ki 0))])
(.block 0 (.loop [8] octs_Put.l0)))
(.seq (.ifs [T (.mov (.x 2)), T (.un .not (.t 0))] (.t 0) (.ops [T (.mov (.x 5)), T (.call true 74 [(.t 0)])]) .skip)
(.seq (.ops [T (.take (.x 5)), W 3 (.take (.t 0)), W 4 (.take (ki 0))])
.ret)))))) }
def octs_Put.m : List Nat := [0, 1, 2, 6, 7, 8, 19, 20, 9]
/-- euphroe/octs.Get · 0:b/0 1:little/1 2:/4 3:/5 4:n/6 5:/17 6:/18 7:/19 8:i/7 9:c/8 -/
def octs_Get.l0 : SCode := (.seq (.ifs [T (.bin .lss (.x 7) (.x 6))] (.t 0) .skip (.exit 0))
(.seq (.block 1 (.seq (.ops [T (.mov (.x 7)), T (.ia 1 (.x 5) (.x 7)), T (.load none (.t 0)), W 8 (.take (.t 2)), W 9 (.take (.t 1))])
(.ifs [T (.mov (.x 1))] (.t 0) (.ops [T (.mov (.x 4)), T (.mov (.x 9)), T (.cvi .u64 (.t 0)), T (.mov (.x 8)), T (.bin .mul (ki 8) (.t 0)), T (.bin .shl (.t 2) (.t 0)), T (.bin .or (.t 5) (.t 0)), W 4 (.take (.t 0))]) (.ops [T (.mov (.x 4)), T (.bin .shl (.t 0) (kk .u64 8)), T (.mov (.x 9)), T (.cvi .u64 (.t 0)), T (.bin .or (.t 2) (.t 0)), W 4 (.take (.t 0))]))))
(.ops [T (.bin .add (.x 7) (ki 1)), W 7 (.mov (.t 0))])))
def octs_Get.s : SFunc := { np := 2, nv := 10, res := [.var 2, .var 3], code := (.seq (.ops [W 2 (.take (kk .u64 0)), W 3 (.take (ki 0))])
(.seq (.ifs [T (.mov (.x 0)), T (.len (.t 0)), T (.bin .lss (.t 0) (ki 1)), T (.mov (.t 0)), GT 0 false (.mov (.x 0)), GT 1 false (.len (.t 0)), GT 2 false (.bin .gtr (.t 0) (ki 8)), T (.pick (.t 3) (kb true) (.t 0))] (.t 0) (.seq (.ops [W 2 (.take (kk .u64 0)), W 3 (.take (ki 1))])
.ret) .skip)
(.seq (.ops [W 4 (.take (kk .u64 0))])
(.seq (.seq (.ops [W 5 (.mov (.x 0)), W 6 (.len (.x 5)), W 7 (.mov (ki 0))])
(.block 0 (.loop [8, 9] octs_Get.l0)))
(.seq (.ops [T (.take (.x 4)), W 2 (.take (.t 0)), W 3 (.take (ki 0))])
.ret))))) }
def octs_Get.m : List Nat := [0, 1, 4, 5, 6, 17, 18, 19, 7, 8]
/-- euphroe/euphroeref25.right · 0:o/0 1:o/1 2:/2 -/
def euphroeref25_right.s : SFunc := { np := 1, nv := 3, res := [.var 2], code := (.seq (.ops [W 1 (.box false (.x 0)), W 2 (.take (kb false))])
(.seq (.ops [T (.fa 0 (.x 1)), T (.load none (.t 0)), T (.call false 75 [(.t 0)]), T (.fa 1 (.x 1)), T (.load none (.t 0)), T (.len (.t 0)), T (.bin .eql (.t 3) (.t 0)), W 2 (.take (.t 0))])
.ret)) }
def euphroeref25_right.m : List Nat := [0, 1, 2]
/-- euphroe/lcpo.long · 0:kind/0 1:/2 2:/3 -/
def lcpo_long.s : SFunc := { np := 1, nv := 3, res := [.var 1], code := (.seq (.ops [W 1 (.take (ki 0))])
(.seq (.seq (.ops [W 2 (.mov (.x 0))])
(.block 0 (.seq (.block 5 (.block 4 (.seq (.block 3 (.seq (.block 2 (.seq (.block 1 (.seq (.seq (.ifs [T (.bin .eql (.x 2) (kk .u8 1)), T (.take (.t 0))] (.t 0) (.exit 1) .skip)
(.seq (.ifs [T (.bin .eql (.x 2) (kk .u8 3)), T (.take (.t 0))] (.t 0) (.exit 2) .skip)
(.seq (.ifs [T (.bin .eql (.x 2) (kk .u8 5)), T (.take (.t 0))] (.t 0) (.exit 3) .skip)
(.seq (.ifs [T (.bin .eql (.x 2) (kk .u8 7)), T (.take (.t 0))] (.t 0) (.exit 4) .skip)
(.ifs [T (.bin .eql (.x 2) (kk .u8 8)), T (.take (.t 0))] (.t 0) (.exit 5) .skip)))))
(.exit 0)))
(.seq (.seq (.ops [W 1 (.take (ki 2))])
.ret)
(.exit 0))))
(.seq (.seq (.ops [T (.call false 35 []), T (.len (.t 0)), W 1 (.take (.t 0))])
.ret)
(.exit 0))))
(.seq (.seq (.ops [W 1 (.take (ki 4))])
.ret)
(.exit 0)))))
(.seq (.seq (.ops [W 1 (.take (ki 0))])
.ret)
(.exit 0)))))
(.seq (.ops [W 1 (.take (ki (-1)))])
.ret))) }
def lcpo_long.m : List Nat := [0, 2, 3]
/-- slices.Reverse[[]byte,byte] · 0:s/0 1:i/2 2:j/3 -/
def slices_Reverse_byte.l0 : SCode := (.seq (.ifs [T (.mov (.x 1)), T (.mov (.x 2)), T (.bin .lss (.t 1) (.t 0))] (.t 0) .skip (.exit 0))
(.seq (.block 1 (.ops [T (.mov (.x 0)), T (.mov (.x 1)), T (.mov (.x 0)), T (.mov (.x 2)), T (.mov (.x 0)), T (.mov (.x 2)), T (.ia 1 (.t 1) (.t 0)), T (.load none (.t 0)), T (.mov (.x 0)), T (.mov (.x 1)), T (.ia 1 (.t 1) (.t 0)), T (.load none (.t 0)), T (.ia 1 (.t 11) (.t 10)), N (.store 1 (.t 0) (.t 5)), T (.ia 1 (.t 11) (.t 10)), N (.store 1 (.t 0) (.t 3))]))
(.ops [T (.mov (.x 1)), T (.bin .add (.t 0) (ki 1)), T (.mov (.x 2)), T (.bin .sub (.t 0) (ki 1)), W 1 (.take (.t 2)), W 2 (.take (.t 1))])))
def slices_Reverse_byte.s : SFunc := { np := 1, nv := 3, res := [], code := (.seq (.ops [T (.mov (.x 0)), T (.len (.t 0)), T (.bin .sub (.t 0) (ki 1)), W 1 (.take (ki 0)), W 2 (.take (.t 1))])
(.block 0 (.loop [] slices_Reverse_byte.l0))) }
def slices_Reverse_byte.m : List Nat := [0, 2, 3]
/-- euphroe/euphroeref25.long · 0:kind/0 1:/2 2:/3 3:/10 -/
def euphroeref25_long.s : SFunc := { np := 1, nv := 4, res := [.var 1], code := (.seq (.ops [W 1 (.take (ki 0))])
(.seq (.seq (.ops [W 2 (.mov (.x 0))])
(.block 0 (.ifs [T (.bin .eql (.x 2) (kk .u8 1)), T (.take (.t 0))] (.t 0) (.seq (.ops [W 1 (.take (ki 2))])
.ret) (.ifs [T (.bin .eql (.x 2) (kk .u8 3)), T (.take (.t 0))] (.t 0) (.seq (.ops [W 1 (.take (ki 3))])
.ret) (.ifs [T (.bin .eql (.x 2) (kk .u8 5)), T (.take (.t 0))] (.t 0) (.seq (.ops [W 1 (.take (ki 4))])
.ret) (.seq (.seq (.ops [T (.bin .eql (.x 2) (kk .u8 7)), W 3 (.take (.t 0))])
(.ifs [] (.x 3) .skip (.ops [T (.bin .eql (.x 2) (kk .u8 8)), W 3 (.take (.t 0))])))
(.ifs [] (.x 3) (.seq (.ops [W 1 (.take (ki 0))])
.ret) .skip)))))))
(.seq (.ops [W 1 (.take (ki (-1)))])
.ret))) }
def euphroeref25_long.m : List Nat := [0, 2, 3, 10]
def fns : List (Nat × SFunc × List Nat) := [(3, euphroelaw25_LcpoWants.s, euphroelaw25_LcpoWants.m), (6, euphroelaw25_far.s, euphroelaw25_far.m), (7, euphroelaw25_alive.s, euphroelaw25_alive.m), (8, lcpo_Rejected.s, lcpo_Rejected.m), (9, euphroelaw25_theirs.s, euphroelaw25_theirs.m), (10, euphroeref25_Rejected.s, euphroeref25_Rejected.m), (11, opts_Same.s, opts_Same.m), (12, lcpo_Options.s, lcpo_Options.m), (13, euphroeref25_Options.s, euphroeref25_Options.m), (14, lcpo_Of.s, lcpo_Of.m), (15, euphroeref25_Of.s, euphroeref25_Of.m), (16, lcpo_Naked.s, lcpo_Naked.m), (17, euphroeref25_Naked.s, euphroeref25_Naked.m), (34, lcpo_Judge.s, lcpo_Judge.m), (35, lcpo_Chap.s, lcpo_Chap.m), (36, opts_Find.s, opts_Find.m), (37, euphroeref21_Find.s, euphroeref21_Find.m), (38, slices_EqualFunc_api_Option.s, slices_EqualFunc_api_Option.m), (39, opts_same.s, opts_same.m), (40, lcpo_option.s, lcpo_option.m), (41, euphroeref01_Big.s, euphroeref01_Big.m), (42, euphroeref25_chap.s, euphroeref25_chap.m), (43, lcpo_first.s, lcpo_first.m), (44, lcpo_number.s, lcpo_number.m), (45, bytes_Equal.s, bytes_Equal.m), (46, euphroeref25_first.s, euphroeref25_first.m), (47, euphroeref01_Num.s, euphroeref01_Num.m), (48, euphroeref01_Same.s, euphroeref01_Same.m), (59, lcpo_better.s, lcpo_better.m), (60, lcpo_right.s, lcpo_right.m), (61, slices_Clone_api_Option.s, slices_Clone_api_Option.m), (62, slices_IndexFunc_api_Option.s, slices_IndexFunc_api_Option.m), (63, opts_Find_1.s, opts_Find_1.m), (64, octs_Put.s, octs_Put.m), (65, octs_Get.s, octs_Get.m), (66, euphroeref25_right.s, euphroeref25_right.m), (73, lcpo_long.s, lcpo_long.m), (74, slices_Reverse_byte.s, slices_Reverse_byte.m), (75, euphroeref25_long.s, euphroeref25_long.m)]
abbrev euphroelaw25_LcpoWants.n : Nat := 3
abbrev euphroelaw25_far.n : Nat := 6
abbrev euphroelaw25_alive.n : Nat := 7
abbrev lcpo_Rejected.n : Nat := 8
abbrev euphroelaw25_theirs.n : Nat := 9
abbrev euphroeref25_Rejected.n : Nat := 10
abbrev opts_Same.n : Nat := 11
abbrev lcpo_Options.n : Nat := 12
abbrev euphroeref25_Options.n : Nat := 13
abbrev lcpo_Of.n : Nat := 14
abbrev euphroeref25_Of.n : Nat := 15
abbrev lcpo_Naked.n : Nat := 16
abbrev euphroeref25_Naked.n : Nat := 17
abbrev lcpo_Judge.n : Nat := 34
abbrev lcpo_Chap.n : Nat := 35
abbrev opts_Find.n : Nat := 36
abbrev euphroeref21_Find.n : Nat := 37
abbrev slices_EqualFunc_api_Option.n : Nat := 38
abbrev opts_same.n : Nat := 39
abbrev lcpo_option.n : Nat := 40
abbrev euphroeref01_Big.n : Nat := 41
abbrev euphroeref25_chap.n : Nat := 42
abbrev lcpo_first.n : Nat := 43
abbrev lcpo_number.n : Nat := 44
abbrev bytes_Equal.n : Nat := 45
abbrev euphroeref25_first.n : Nat := 46
abbrev euphroeref01_Num.n : Nat := 47
abbrev euphroeref01_Same.n : Nat := 48
abbrev lcpo_better.n : Nat := 59
abbrev lcpo_right.n : Nat := 60
abbrev slices_Clone_api_Option.n : Nat := 61
abbrev slices_IndexFunc_api_Option.n : Nat := 62
abbrev opts_Find_1.n : Nat := 63
abbrev octs_Put.n : Nat := 64
abbrev octs_Get.n : Nat := 65
abbrev euphroeref25_right.n : Nat := 66
abbrev lcpo_long.n : Nat := 73
abbrev slices_Reverse_byte.n : Nat := 74
abbrev euphroeref25_long.n : Nat := 75
def fnOf (n : Nat) : Option SFunc := (fns.find? (·.1 == n)).map (·.2.1)
def G : Prg := { fn := fnOf, prim := fun _ => none }
theorem euphroelaw25_LcpoWants.g : G.fn 3 = some euphroelaw25_LcpoWants.s := by rfl
theorem euphroelaw25_far.g : G.fn 6 = some euphroelaw25_far.s := by rfl
theorem euphroelaw25_alive.g : G.fn 7 = some euphroelaw25_alive.s := by rfl
theorem lcpo_Rejected.g : G.fn 8 = some lcpo_Rejected.s := by rfl
theorem euphroelaw25_theirs.g : G.fn 9 = some euphroelaw25_theirs.s := by rfl
theorem euphroeref25_Rejected.g : G.fn 10 = some euphroeref25_Rejected.s := by rfl
theorem opts_Same.g : G.fn 11 = some opts_Same.s := by rfl
theorem lcpo_Options.g : G.fn 12 = some lcpo_Options.s := by rfl
theorem euphroeref25_Options.g : G.fn 13 = some euphroeref25_Options.s := by rfl
theorem lcpo_Of.g : G.fn 14 = some lcpo_Of.s := by rfl
theorem euphroeref25_Of.g : G.fn 15 = some euphroeref25_Of.s := by rfl
theorem lcpo_Naked.g : G.fn 16 = some lcpo_Naked.s := by rfl
theorem euphroeref25_Naked.g : G.fn 17 = some euphroeref25_Naked.s := by rfl
theorem lcpo_Judge.g : G.fn 34 = some lcpo_Judge.s := by rfl
theorem lcpo_Chap.g : G.fn 35 = some lcpo_Chap.s := by rfl
theorem opts_Find.g : G.fn 36 = some opts_Find.s := by rfl
theorem euphroeref21_Find.g : G.fn 37 = some euphroeref21_Find.s := by rfl
theorem slices_EqualFunc_api_Option.g : G.fn 38 = some slices_EqualFunc_api_Option.s := by rfl
theorem opts_same.g : G.fn 39 = some opts_same.s := by rfl
theorem lcpo_option.g : G.fn 40 = some lcpo_option.s := by rfl
theorem euphroeref01_Big.g : G.fn 41 = some euphroeref01_Big.s := by rfl
theorem euphroeref25_chap.g : G.fn 42 = some euphroeref25_chap.s := by rfl
theorem lcpo_first.g : G.fn 43 = some lcpo_first.s := by rfl
theorem lcpo_number.g : G.fn 44 = some lcpo_number.s := by rfl
theorem bytes_Equal.g : G.fn 45 = some bytes_Equal.s := by rfl
theorem euphroeref25_first.g : G.fn 46 = some euphroeref25_first.s := by rfl
theorem euphroeref01_Num.g : G.fn 47 = some euphroeref01_Num.s := by rfl
theorem euphroeref01_Same.g : G.fn 48 = some euphroeref01_Same.s := by rfl
theorem lcpo_better.g : G.fn 59 = some lcpo_better.s := by rfl
theorem lcpo_right.g : G.fn 60 = some lcpo_right.s := by rfl
theorem slices_Clone_api_Option.g : G.fn 61 = some slices_Clone_api_Option.s := by rfl
theorem slices_IndexFunc_api_Option.g : G.fn 62 = some slices_IndexFunc_api_Option.s := by rfl
theorem opts_Find_1.g : G.fn 63 = some opts_Find_1.s := by rfl
theorem octs_Put.g : G.fn 64 = some octs_Put.s := by rfl
theorem octs_Get.g : G.fn 65 = some octs_Get.s := by rfl
theorem euphroeref25_right.g : G.fn 66 = some euphroeref25_right.s := by rfl
theorem lcpo_long.g : G.fn 73 = some lcpo_long.s := by rfl
theorem slices_Reverse_byte.g : G.fn 74 = some slices_Reverse_byte.s := by rfl
theorem euphroeref25_long.g : G.fn 75 = some euphroeref25_long.s := by rfl
end Go.Q
