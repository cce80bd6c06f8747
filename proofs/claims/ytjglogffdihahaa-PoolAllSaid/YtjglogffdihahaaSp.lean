/- The slim code of the functions, written by a program of ours. No condition. -/
import Derived.Test.YtjglogffdihahaaEvB
set_option maxRecDepth 100000
namespace Go.Q
open SOp SCode
/-- euphroe/euphroelaw31.PoolAll · 0:first/0 1:many/1 2:/4 3:n/5 4:p/6 5:e/7 6:/31 7:/32 8:i/8 9:q/9 10:a/10 11:f/11 12:g/14 13:q/15 14:h/16 15:a/18 16:i/19 -/
def euphroelaw31_PoolAll.l0 : SCode := (.seq (.ifs [T (.bin .lss (.x 7) (.x 6))] (.t 0) .skip (.exit 0))
(.seq (.block 1 (.seq (.ops [T (.mov (.x 7)), W 8 (.take (.t 0))])
(.seq (.ops [T (.load (some 2) (.x 4)), T (.mov (.x 8)), T (.bin .add (ki 100) (.t 0)), T (.call false 30 [(.t 2), (.t 0)]), T (.take (.t 0)), T (.ext 0 (.t 0)), T (.ext 1 (.t 1)), T (.ext 2 (.t 2)), W 9 (.alloc false (.agg [.v (.int .u32 0), .nils 2])), N (.store 2 (.x 9) (.t 3)), W 10 (.take (.t 3)), W 11 (.take (.t 3))])
(.seq (.ops [T (.load (some 2) (.x 9)), N (.store 2 (.x 4) (.t 0))])
(.ifs [T (.mov (.x 11)), T (.bin .neq (.t 0) (ki 0)), T (.mov (.t 0)), GT 0 false (.mov (.x 10)), GT 1 false (.mov (.x 0)), GT 2 false (.cvi .u32 (.t 0)), GT 3 false (.bin .add (.t 0) (kk .u32 1)), GT 4 false (.mov (.x 8)), GT 5 false (.cvi .u32 (.t 0)), GT 6 false (.bin .add (.t 2) (.t 0)), GT 7 false (.bin .neq (.t 6) (.t 0)), T (.pick (.t 8) (kb true) (.t 0))] (.t 0) (.seq (.ops [W 2 (.take (kb false))])
.ret) .skip)))))
(.ops [T (.bin .add (.x 7) (ki 1)), W 7 (.mov (.t 0))])))
def euphroelaw31_PoolAll.s : SFunc := { np := 2, nv := 17, res := [.var 2], code := (.seq (.ops [W 2 (.take (kb false))])
(.seq (.ops [T (.mov (.x 1)), T (.cvi .i64 (.t 0)), T (.bin .rem (.t 0) (ki 40)), W 3 (.take (.t 0))])
(.seq (.ops [T (.mov (.x 0)), T (.cvi .u32 (.t 0)), T (.bin .add (.t 0) (kk .u32 1)), T (.mov (.x 3)), T (.call false 29 [(.t 1), (.t 0)]), T (.take (.t 0)), T (.ext 0 (.t 0)), T (.ext 1 (.t 1)), W 4 (.alloc false (.agg [.v (.int .u32 0), .nils 2])), N (.store 2 (.x 4) (.t 2)), W 5 (.take (.t 2))])
(.seq (.seq (.ops [W 6 (.mov (.x 3)), W 7 (.mov (ki 0))])
(.block 0 (.loop [8, 9, 10, 11] euphroelaw31_PoolAll.l0)))
(.seq (.ops [T (.load (some 2) (.x 4)), T (.call false 30 [(.t 0), (ki 7)]), T (.take (.t 0)), T (.ext 0 (.t 0)), T (.ext 1 (.t 1)), T (.ext 2 (.t 2)), T (.alloc false (.agg [.v (.int .u32 0), .nils 2])), N (.store 2 (.t 0) (.t 3)), T (.take (.t 3)), W 12 (.take (.t 3))])
(.seq (.ifs [T (.mov (.x 5)), T (.bin .neq (.t 0) (ki 0)), T (.mov (.t 0)), GT 0 false (.mov (.x 12)), GT 1 false (.bin .neq (.t 0) (ki 12)), T (.pick (.t 2) (kb true) (.t 0)), T (.mov (.t 0)), GT 0 false (.load (some 2) (.x 4)), GT 1 false (.call false 31 [(.t 0)]), GT 2 false (.bin .neq (.t 0) (ki 0)), T (.pick (.t 3) (kb true) (.t 0))] (.t 0) (.seq (.ops [W 2 (.take (kb false))])
.ret) .skip)
(.seq (.ifs [T (.mov (.x 3)), T (.bin .eql (.t 0) (ki 0))] (.t 0) (.seq (.ops [T (.call false 32 []), W 2 (.take (.t 0))])
.ret) .skip)
(.seq (.ops [T (.load (some 2) (.x 4)), T (.mov (.x 3)), T (.bin .quo (.t 0) (ki 2)), T (.bin .add (ki 100) (.t 0)), T (.call false 33 [(.t 3), (.t 0)]), T (.take (.t 0)), T (.ext 0 (.t 0)), T (.ext 1 (.t 1)), W 13 (.alloc false (.agg [.v (.int .u32 0), .nils 2])), N (.store 2 (.x 13) (.t 2)), W 14 (.take (.t 2))])
(.seq (.ops [T (.load (some 2) (.x 13)), T (.call false 30 [(.t 0), (ki 7)]), T (.take (.t 0)), T (.ext 0 (.t 0)), T (.ext 1 (.t 1)), T (.ext 2 (.t 2)), T (.alloc false (.agg [.v (.int .u32 0), .nils 2])), N (.store 2 (.t 0) (.t 3)), W 15 (.take (.t 3)), W 16 (.take (.t 3))])
(.seq (.ops [T (.mov (.x 14)), T (.bin .eql (.t 0) (ki 0)), T (.mov (.t 0)), GT 0 true (.mov (.x 16)), GT 1 true (.bin .eql (.t 0) (ki 0)), T (.pick (.t 2) (.t 0) (kb false)), T (.mov (.t 0)), GT 0 true (.mov (.x 15)), GT 1 true (.mov (.x 0)), GT 2 true (.cvi .u32 (.t 0)), GT 3 true (.bin .add (.t 0) (kk .u32 1)), GT 4 true (.mov (.x 3)), GT 5 true (.bin .quo (.t 0) (ki 2)), GT 6 true (.cvi .u32 (.t 0)), GT 7 true (.bin .add (.t 3) (.t 0)), GT 8 true (.bin .eql (.t 7) (.t 0)), T (.pick (.t 9) (.t 0) (kb false)), T (.mov (.t 0)), GT 0 true (.call false 32 []), T (.pick (.t 1) (.t 0) (kb false)), W 2 (.take (.t 0))])
.ret)))))))))) }
def euphroelaw31_PoolAll.m : List Nat := [0, 1, 4, 5, 6, 7, 31, 32, 8, 9, 10, 11, 14, 15, 16, 18, 19]
/-- euphroe/pool.New · 0:first/0 1:many/1 2:/4 3:/5 -/
def pool_New.s : SFunc := { np := 2, nv := 4, res := [.cell (some 2) 2, .var 3], code := (.seq (.ops [W 2 (.alloc false (.agg [.v (.int .u32 0), .nils 2])), W 3 (.take (ki 0))])
(.seq (.ifs [T (.mov (.x 1)), T (.bin .lss (.t 0) (ki 0)), T (.mov (.t 0)), GT 0 false (.mov (.x 1)), GT 1 false (.bin .gtr (.t 0) (ki 256)), T (.pick (.t 2) (kb true) (.t 0)), T (.mov (.t 0)), GT 0 false (.mov (.x 0)), GT 1 false (.bin .eql (.t 0) (kk .u32 0)), T (.pick (.t 2) (kb true) (.t 0)), T (.mov (.t 0)), GT 0 false (.mov (.x 1)), GT 1 false (.bin .gtr (.t 0) (ki 0)), GT 2 false (.mov (.t 0)), GT 0 true (.mov (.x 0)), GT 1 true (.cvi .u64 (.t 0)), GT 2 true (.mov (.x 1)), GT 3 true (.cvi .u64 (.t 0)), GT 4 true (.bin .add (.t 2) (.t 0)), GT 5 true (.bin .sub (.t 0) (kk .u64 1)), GT 6 true (.bin .gtr (.t 0) (kk .u64 4294967295)), GT 10 false (.pick (.t 7) (.t 0) (kb false)), T (.pick (.t 11) (kb true) (.t 0))] (.t 0) (.seq (.ops [T (.build [.v (.int .u32 0), .nils 2] []), N (.store 2 (.x 2) (.t 0)), W 3 (.take (ki 1))])
.ret) .skip)
(.seq (.ops [T (.mov (.x 0)), T (.mov (.x 1)), T (.make 2 16 (.v (.agg [(.int .i64 0), (.bool false)])) (.t 0) (.t 0)), T (.build [.v (.int .u32 0), .nils 2] [(0, 1, (.t 2)), (1, 1, (.t 0))]), N (.store 2 (.x 2) (.t 0)), W 3 (.take (ki 0))])
.ret))) }
def pool_New.m : List Nat := [0, 1, 4, 5]
/-- (euphroe/pool.Pool).Give · 0:p/0 1:holder/1 2:p/2 3:/4 4:/5 5:/6 6:i/7 7:/20 8:/21 9:i/8 -/
def pool_Pool_Give.l0 : SCode := (.seq (.ifs [T (.bin .lss (.x 8) (.x 7))] (.t 0) .skip (.exit 0))
(.seq (.block 1 (.seq (.ops [T (.mov (.x 8)), W 9 (.take (.t 0))])
(.ifs [T (.fa 1 (.x 2)), T (.load none (.t 0)), T (.mov (.x 9)), T (.ia 2 (.t 1) (.t 0)), T (.fa 1 (.t 0)), T (.load none (.t 0)), T (.un .not (.t 0))] (.t 0) (.seq (.ops [T (.load (some 2) (.x 2)), T (.mov (.x 9)), T (.mov (.x 1)), T (.build [.v (.int .i64 0), .v (.bool false)] [(0, 1, (.t 0)), (1, 1, (kb true))]), T (.call false 81 [(.t 3), (.t 2), (.t 0)]), T (.load (some 2) (.x 2)), T (.mov (.x 9)), T (.call false 80 [(.t 1), (.t 0)]), N (.store 2 (.x 3) (.t 3)), W 4 (.take (.t 1)), W 5 (.take (ki 0))])
.ret) .skip)))
(.ops [T (.bin .add (.x 8) (ki 1)), W 8 (.mov (.t 0))])))
def pool_Pool_Give.s : SFunc := { np := 2, nv := 10, res := [.cell (some 2) 3, .var 4, .var 5], code := (.seq (.ops [W 2 (.box false (.x 0)), W 3 (.alloc false (.agg [.v (.int .u32 0), .nils 2])), W 4 (.take (kk .u32 0)), W 5 (.take (ki 0))])
(.seq (.seq (.ops [T (.load (some 2) (.x 2)), T (.mov (.x 1)), T (.call false 79 [(.t 1), (.t 0)]), W 6 (.take (.t 0))])
(.ifs [T (.mov (.x 6)), T (.bin .geq (.t 0) (ki 0))] (.t 0) (.seq (.ops [T (.load (some 2) (.x 2)), T (.load (some 2) (.x 2)), T (.mov (.x 6)), T (.call false 80 [(.t 1), (.t 0)]), N (.store 2 (.x 3) (.t 3)), W 4 (.take (.t 1)), W 5 (.take (ki 0))])
.ret) .skip))
(.seq (.seq (.ops [T (.fa 1 (.x 2)), T (.load none (.t 0)), W 7 (.len (.t 0)), W 8 (.mov (ki 0))])
(.block 0 (.loop [9] pool_Pool_Give.l0)))
(.seq (.ops [T (.load (some 2) (.x 2)), N (.store 2 (.x 3) (.t 0)), W 4 (.take (kk .u32 0)), W 5 (.take (ki 12))])
.ret)))) }
def pool_Pool_Give.m : List Nat := [0, 1, 2, 4, 5, 6, 7, 20, 21, 8]
/-- (euphroe/pool.Pool).Free · 0:p/0 1:p/1 2:/2 -/
def pool_Pool_Free.s : SFunc := { np := 1, nv := 3, res := [.var 2], code := (.seq (.ops [W 1 (.box false (.x 0)), W 2 (.take (ki 0))])
(.seq (.ops [T (.fa 1 (.x 1)), T (.load none (.t 0)), T (.len (.t 0)), T (.load (some 2) (.x 1)), T (.call false 82 [(.t 0)]), T (.len (.t 0)), T (.bin .sub (.t 3) (.t 0)), W 2 (.take (.t 0))])
.ret)) }
def pool_Pool_Free.m : List Nat := [0, 1, 2]
/-- euphroe/euphroelaw31.alive · 0:/0 1:p/1 2:e/2 3:a/3 4:f/4 5:b/5 6:g/6 7:h/9 8:x/10 9:ok/11 10:n/12 11:is/13 -/
def euphroelaw31_alive.s : SFunc := { np := 0, nv := 12, res := [.var 0], code := (.seq (.ops [W 0 (.take (kb false))])
(.seq (.ops [T (.call false 29 [(kk .u32 10), (ki 2)]), T (.take (.t 0)), T (.ext 0 (.t 0)), T (.ext 1 (.t 1)), W 1 (.alloc false (.agg [.v (.int .u32 0), .nils 2])), N (.store 2 (.x 1) (.t 2)), W 2 (.take (.t 2))])
(.seq (.ops [T (.load (some 2) (.x 1)), T (.call false 30 [(.t 0), (ki 7)]), T (.take (.t 0)), T (.ext 0 (.t 0)), T (.ext 1 (.t 1)), T (.ext 2 (.t 2)), N (.store 2 (.x 1) (.t 2)), W 3 (.take (.t 2)), W 4 (.take (.t 2))])
(.seq (.ops [T (.load (some 2) (.x 1)), T (.call false 30 [(.t 0), (ki 8)]), T (.take (.t 0)), T (.ext 0 (.t 0)), T (.ext 1 (.t 1)), T (.ext 2 (.t 2)), N (.store 2 (.x 1) (.t 2)), W 5 (.take (.t 2)), W 6 (.take (.t 2))])
(.seq (.ops [T (.load (some 2) (.x 1)), T (.call false 30 [(.t 0), (ki 9)]), T (.take (.t 0)), T (.ext 0 (.t 0)), T (.ext 1 (.t 1)), T (.ext 2 (.t 2)), T (.alloc false (.agg [.v (.int .u32 0), .nils 2])), N (.store 2 (.t 0) (.t 3)), T (.take (.t 3)), W 7 (.take (.t 3))])
(.seq (.ops [T (.load (some 2) (.x 1)), T (.call false 83 [(.t 0), (ki 8)]), T (.take (.t 0)), T (.ext 0 (.t 0)), T (.ext 1 (.t 1)), W 8 (.take (.t 1)), W 9 (.take (.t 1))])
(.seq (.ops [T (.load (some 2) (.x 1)), T (.call false 84 [(.t 0), (kk .u32 10)]), T (.take (.t 0)), T (.ext 0 (.t 0)), T (.ext 1 (.t 1)), W 10 (.take (.t 1)), W 11 (.take (.t 1))])
(.seq (.ops [T (.mov (.x 2)), T (.bin .eql (.t 0) (ki 0)), T (.mov (.t 0)), GT 0 true (.mov (.x 3)), GT 1 true (.bin .eql (.t 0) (kk .u32 10)), T (.pick (.t 2) (.t 0) (kb false)), T (.mov (.t 0)), GT 0 true (.mov (.x 4)), GT 1 true (.bin .eql (.t 0) (ki 0)), T (.pick (.t 2) (.t 0) (kb false)), T (.mov (.t 0)), GT 0 true (.mov (.x 5)), GT 1 true (.bin .eql (.t 0) (kk .u32 11)), T (.pick (.t 2) (.t 0) (kb false)), T (.mov (.t 0)), GT 0 true (.mov (.x 6)), GT 1 true (.bin .eql (.t 0) (ki 0)), T (.pick (.t 2) (.t 0) (kb false)), T (.mov (.t 0)), GT 0 true (.mov (.x 7)), GT 1 true (.bin .eql (.t 0) (ki 12)), T (.pick (.t 2) (.t 0) (kb false)), T (.mov (.t 0)), GT 0 true (.mov (.x 8)), GT 1 true (.bin .eql (.t 0) (kk .u32 11)), T (.pick (.t 2) (.t 0) (kb false)), T (.mov (.t 0)), GT 0 true (.mov (.x 9)), T (.pick (.t 1) (.t 0) (kb false)), T (.mov (.t 0)), GT 0 true (.mov (.x 10)), GT 1 true (.bin .eql (.t 0) (ki 7)), T (.pick (.t 2) (.t 0) (kb false)), T (.mov (.t 0)), GT 0 true (.mov (.x 11)), T (.pick (.t 1) (.t 0) (kb false)), T (.mov (.t 0)), GT 0 true (.load (some 2) (.x 1)), GT 1 true (.call false 31 [(.t 0)]), GT 2 true (.bin .eql (.t 0) (ki 0)), T (.pick (.t 3) (.t 0) (kb false)), T (.mov (.t 0)), GT 0 true (.load (some 2) (.x 1)), GT 1 true (.call false 82 [(.t 0)]), GT 2 true (.len (.t 0)), GT 3 true (.bin .eql (.t 0) (ki 2)), T (.pick (.t 4) (.t 0) (kb false)), W 0 (.take (.t 0))])
.ret)))))))) }
def euphroelaw31_alive.m : List Nat := [0, 1, 2, 3, 4, 5, 6, 9, 10, 11, 12, 13]
/-- (euphroe/pool.Pool).Take · 0:p/0 1:holder/1 2:p/2 3:/4 4:/5 5:i/6 -/
def pool_Pool_Take.s : SFunc := { np := 2, nv := 6, res := [.cell (some 2) 3, .var 4], code := (.seq (.ops [W 2 (.box false (.x 0)), W 3 (.alloc false (.agg [.v (.int .u32 0), .nils 2])), W 4 (.take (ki 0))])
(.seq (.ops [T (.load (some 2) (.x 2)), T (.mov (.x 1)), T (.call false 79 [(.t 1), (.t 0)]), W 5 (.take (.t 0))])
(.seq (.ifs [T (.mov (.x 5)), T (.bin .lss (.t 0) (ki 0))] (.t 0) (.seq (.ops [T (.load (some 2) (.x 2)), N (.store 2 (.x 3) (.t 0)), W 4 (.take (ki 6))])
.ret) .skip)
(.seq (.ops [T (.load (some 2) (.x 2)), T (.mov (.x 5)), T (.build [.v (.int .i64 0), .v (.bool false)] []), T (.call false 81 [(.t 2), (.t 1), (.t 0)]), N (.store 2 (.x 3) (.t 0)), W 4 (.take (ki 0))])
.ret)))) }
def pool_Pool_Take.m : List Nat := [0, 1, 2, 4, 5, 6]
/-- (euphroe/pool.Pool).find · 0:p/0 1:holder/1 2:p/2 3:/4 -/
def pool_Pool_find.s : SFunc := { np := 2, nv := 4, res := [.var 3], code := (.seq (.ops [W 2 (.box false (.x 0)), W 3 (.take (ki 0))])
(.seq (.ops [T (.fa 1 (.x 2)), T (.load none (.t 0)), T (.mov (.x 1)), T (.build [.v (.int .i64 0), .v (.bool false)] [(0, 1, (.t 0)), (1, 1, (kb true))]), T (.call false 113 [(.t 2), (.t 0)]), W 3 (.take (.t 0))])
.ret)) }
def pool_Pool_find.m : List Nat := [0, 1, 2, 4]
/-- (euphroe/pool.Pool).at · 0:p/0 1:i/1 2:p/2 3:/4 -/
def pool_Pool_at.s : SFunc := { np := 2, nv := 4, res := [.var 3], code := (.seq (.ops [W 2 (.box false (.x 0)), W 3 (.take (kk .u32 0))])
(.seq (.ops [T (.fa 0 (.x 2)), T (.load none (.t 0)), T (.mov (.x 1)), T (.cvi .u32 (.t 0)), T (.bin .add (.t 2) (.t 0)), W 3 (.take (.t 0))])
.ret)) }
def pool_Pool_at.m : List Nat := [0, 1, 2, 4]
/-- (euphroe/pool.Pool).set · 0:p/0 1:i/1 2:x/2 3:p/3 4:x/5 5:/6 -/
def pool_Pool_set.s : SFunc := { np := 3, nv := 6, res := [.cell (some 2) 5], code := (.seq (.ops [W 3 (.box false (.x 0)), W 4 (.box false (.x 2)), W 5 (.alloc false (.agg [.v (.int .u32 0), .nils 2]))])
(.seq (.ops [T (.fa 1 (.x 3)), T (.load none (.t 0)), T (.call true 114 [(.t 0)]), T (.fa 1 (.x 3)), N (.store 1 (.t 0) (.t 1))])
(.seq (.ops [T (.fa 1 (.x 3)), T (.load none (.t 0)), T (.mov (.x 1)), T (.load (some 2) (.x 4)), T (.ia 2 (.t 2) (.t 1)), N (.store 2 (.t 0) (.t 1))])
(.seq (.ops [T (.load (some 2) (.x 3)), N (.store 2 (.x 5) (.t 0))])
.ret)))) }
def pool_Pool_set.m : List Nat := [0, 1, 2, 3, 5, 6]
/-- (euphroe/pool.Pool).Held · 0:p/0 1:p/1 2:/2 3:out/3 4:/7 5:/8 6:/9 7:x/5 8:i/4 -/
def pool_Pool_Held.l0 : SCode := (.seq (.ifs [T (.bin .lss (.x 6) (.x 5))] (.t 0) .skip (.exit 0))
(.seq (.block 1 (.seq (.ops [T (.mov (.x 6)), T (.ia 2 (.x 4) (.x 6)), T (.load (some 2) (.t 0)), W 7 (.alloc false (.v (.agg [(.int .i64 0), (.bool false)]))), W 8 (.take (.t 3)), N (.store 2 (.x 7) (.t 2))])
(.ifs [T (.fa 1 (.x 7)), T (.load none (.t 0))] (.t 0) (.ops [T (.take (.x 3)), T (.load (some 2) (.x 1)), T (.mov (.x 8)), T (.call false 80 [(.t 1), (.t 0)]), T (.lit 1 [(.t 0)]), T (.app 1 4 (.t 4) (.t 0)), W 3 (.take (.t 0))]) .skip)))
(.ops [T (.bin .add (.x 6) (ki 1)), W 6 (.mov (.t 0))])))
def pool_Pool_Held.s : SFunc := { np := 1, nv := 9, res := [.var 2], code := (.seq (.ops [W 1 (.box false (.x 0)), W 2 (.take (kn 1))])
(.seq (.ops [W 3 (.take (kn 1))])
(.seq (.seq (.ops [T (.fa 1 (.x 1)), W 4 (.load none (.t 0)), W 5 (.len (.x 4)), W 6 (.mov (ki 0))])
(.block 0 (.loop [7, 8] pool_Pool_Held.l0)))
(.seq (.ops [T (.take (.x 3)), W 2 (.take (.t 0))])
.ret)))) }
def pool_Pool_Held.m : List Nat := [0, 1, 2, 3, 7, 8, 9, 5, 4]
/-- (euphroe/pool.Pool).Of · 0:p/0 1:holder/1 2:p/2 3:/4 4:/5 5:i/6 -/
def pool_Pool_Of.s : SFunc := { np := 2, nv := 6, res := [.var 3, .var 4], code := (.seq (.ops [W 2 (.box false (.x 0)), W 3 (.take (kk .u32 0)), W 4 (.take (kb false))])
(.seq (.ops [T (.load (some 2) (.x 2)), T (.mov (.x 1)), T (.call false 79 [(.t 1), (.t 0)]), W 5 (.take (.t 0))])
(.seq (.ifs [T (.mov (.x 5)), T (.bin .lss (.t 0) (ki 0))] (.t 0) (.seq (.ops [W 3 (.take (kk .u32 0)), W 4 (.take (kb false))])
.ret) .skip)
(.seq (.ops [T (.load (some 2) (.x 2)), T (.mov (.x 5)), T (.call false 80 [(.t 1), (.t 0)]), W 3 (.take (.t 0)), W 4 (.take (kb true))])
.ret)))) }
def pool_Pool_Of.m : List Nat := [0, 1, 2, 4, 5, 6]
/-- (euphroe/pool.Pool).Holder · 0:p/0 1:a/1 2:p/2 3:/4 4:/5 5:x/6 -/
def pool_Pool_Holder.s : SFunc := { np := 2, nv := 6, res := [.var 3, .var 4], code := (.seq (.ops [W 2 (.box false (.x 0)), W 3 (.take (ki 0)), W 4 (.take (kb false))])
(.seq (.ifs [T (.mov (.x 1)), T (.fa 0 (.x 2)), T (.load none (.t 0)), T (.bin .lss (.t 2) (.t 0)), T (.mov (.t 0)), GT 0 false (.mov (.x 1)), GT 1 false (.fa 0 (.x 2)), GT 2 false (.load none (.t 0)), GT 3 false (.bin .sub (.t 2) (.t 0)), GT 4 false (.cvi .u64 (.t 0)), GT 5 false (.fa 1 (.x 2)), GT 6 false (.load none (.t 0)), GT 7 false (.len (.t 0)), GT 8 false (.cvi .u64 (.t 0)), GT 9 false (.bin .geq (.t 4) (.t 0)), T (.pick (.t 10) (kb true) (.t 0))] (.t 0) (.seq (.ops [W 3 (.take (ki 0)), W 4 (.take (kb false))])
.ret) .skip)
(.seq (.ops [T (.fa 1 (.x 2)), T (.load none (.t 0)), T (.mov (.x 1)), T (.fa 0 (.x 2)), T (.load none (.t 0)), T (.bin .sub (.t 2) (.t 0)), T (.ia 2 (.t 4) (.t 0)), T (.load (some 2) (.t 0)), W 5 (.alloc false (.v (.agg [(.int .i64 0), (.bool false)]))), N (.store 2 (.x 5) (.t 1))])
(.seq (.ops [T (.fa 0 (.x 5)), T (.load none (.t 0)), T (.fa 1 (.x 5)), T (.load none (.t 0)), W 3 (.take (.t 2)), W 4 (.take (.t 1))])
.ret)))) }
def pool_Pool_Holder.m : List Nat := [0, 1, 2, 4, 5, 6]
/-- slices.Index[[]euphroe/pool.lease,euphroe/pool.lease] · 0:s/0 1:v/1 2:v/3 3:/4 4:/7 5:/8 6:i/5 -/
def slices_Index_pool_lease.l0 : SCode := (.seq (.ifs [T (.bin .lss (.x 5) (.x 4))] (.t 0) .skip (.exit 0))
(.seq (.block 1 (.seq (.ops [T (.mov (.x 5)), W 6 (.take (.t 0))])
(.ifs [T (.load (some 2) (.x 2)), T (.mov (.x 0)), T (.mov (.x 6)), T (.ia 2 (.t 1) (.t 0)), T (.load (some 2) (.t 0)), T (.eq (.g [1, 0]) false (.t 4) (.t 0))] (.t 0) (.seq (.ops [T (.take (.x 6)), W 3 (.take (.t 0))])
.ret) .skip)))
(.ops [T (.bin .add (.x 5) (ki 1)), W 5 (.mov (.t 0))])))
def slices_Index_pool_lease.s : SFunc := { np := 2, nv := 7, res := [.var 3], code := (.seq (.ops [W 2 (.box false (.x 1)), W 3 (.take (ki 0))])
(.seq (.seq (.ops [T (.mov (.x 0)), W 4 (.len (.t 0)), W 5 (.mov (ki 0))])
(.block 0 (.loop [6] slices_Index_pool_lease.l0)))
(.seq (.ops [W 3 (.take (ki (-1)))])
.ret))) }
def slices_Index_pool_lease.m : List Nat := [0, 1, 3, 4, 7, 8, 5]
/-- slices.Clone[[]euphroe/pool.lease,euphroe/pool.lease] · 0:s/0 1:/2 -/
def slices_Clone_pool_lease.s : SFunc := { np := 1, nv := 2, res := [.var 1], code := (.seq (.ops [W 1 (.take (kn 2))])
(.seq (.ifs [T (.mov (.x 0)), T (.eq .s false (.t 0) (kn 2))] (.t 0) (.seq (.ops [W 1 (.take (kn 2))])
.ret) .skip)
(.seq (.clone 1 0 2 16)
.ret))) }
def slices_Clone_pool_lease.m : List Nat := [0, 2]
def fns : List (Nat × SFunc × List Nat) := [(6, euphroelaw31_PoolAll.s, euphroelaw31_PoolAll.m), (29, pool_New.s, pool_New.m), (30, pool_Pool_Give.s, pool_Pool_Give.m), (31, pool_Pool_Free.s, pool_Pool_Free.m), (32, euphroelaw31_alive.s, euphroelaw31_alive.m), (33, pool_Pool_Take.s, pool_Pool_Take.m), (79, pool_Pool_find.s, pool_Pool_find.m), (80, pool_Pool_at.s, pool_Pool_at.m), (81, pool_Pool_set.s, pool_Pool_set.m), (82, pool_Pool_Held.s, pool_Pool_Held.m), (83, pool_Pool_Of.s, pool_Pool_Of.m), (84, pool_Pool_Holder.s, pool_Pool_Holder.m), (113, slices_Index_pool_lease.s, slices_Index_pool_lease.m), (114, slices_Clone_pool_lease.s, slices_Clone_pool_lease.m)]
abbrev euphroelaw31_PoolAll.n : Nat := 6
abbrev pool_New.n : Nat := 29
abbrev pool_Pool_Give.n : Nat := 30
abbrev pool_Pool_Free.n : Nat := 31
abbrev euphroelaw31_alive.n : Nat := 32
abbrev pool_Pool_Take.n : Nat := 33
abbrev pool_Pool_find.n : Nat := 79
abbrev pool_Pool_at.n : Nat := 80
abbrev pool_Pool_set.n : Nat := 81
abbrev pool_Pool_Held.n : Nat := 82
abbrev pool_Pool_Of.n : Nat := 83
abbrev pool_Pool_Holder.n : Nat := 84
abbrev slices_Index_pool_lease.n : Nat := 113
abbrev slices_Clone_pool_lease.n : Nat := 114
end Go.Q
