/- The slim code of the functions, written by a program of ours. No condition. -/
import Derived.Test.YtjglogffdihahaaEvB
set_option maxRecDepth 100000
namespace Go.Q
open SOp SCode
/-- euphroe/euphroelaw24.RetryOnce · 0:x/0 1:n/1 2:x/2 3:/4 4:r/5 5:fired/6 6:/21 7:i/7 8:s/8 9:f/9 10:many/10 11:s/11 12:/44 13:/45 14:i/12 15:t/13 16:f/14 -/
def euphroelaw24_RetryOnce.l1 : SCode := (.seq (.ifs [T (.bin .lss (.x 13) (.x 12))] (.t 0) .skip (.exit 2))
(.seq (.block 3 (.seq (.ops [T (.mov (.x 13)), W 14 (.take (.t 0))])
(.seq (.ops [T (.load (some 2) (.x 11)), T (.call false 22 [(.t 0)]), T (.take (.t 0)), T (.ext 0 (.t 0)), T (.ext 1 (.t 1)), W 15 (.alloc false (.v (.agg [(.int .i64 0), (.int .i64 0)]))), N (.store 2 (.x 15) (.t 2)), W 16 (.take (.t 2))])
(.seq (.ifs [T (.mov (.x 16)), T (.mov (.t 0)), GT 0 true (.load (some 2) (.x 15)), GT 1 true (.call false 20 [(.t 0)]), GT 2 true (.un .not (.t 0)), T (.pick (.t 3) (.t 0) (kb false))] (.t 0) (.seq (.ops [T (.mov (.x 14)), T (.mov (.x 10)), T (.call false 23 [(.t 0)]), T (.bin .sub (.t 0) (ki 1)), T (.bin .eql (.t 3) (.t 0)), T (.mov (.t 0)), GT 0 true (.mov (.x 5)), GT 1 true (.bin .eql (.t 0) (ki 1)), T (.pick (.t 2) (.t 0) (kb false)), T (.mov (.t 0)), GT 0 true (.call false 21 []), T (.pick (.t 1) (.t 0) (kb false)), W 3 (.take (.t 0))])
.ret) .skip)
(.seq (.ifs [T (.mov (.x 16))] (.t 0) (.ops [T (.load (some 2) (.x 15)), T (.call false 16 [(.t 0)]), N (.store 2 (.x 15) (.t 0))]) .skip)
(.ops [T (.load (some 2) (.x 15)), N (.store 2 (.x 11) (.t 0))]))))))
(.ops [T (.bin .add (.x 13) (ki 1)), W 13 (.mov (.t 0))])))
def euphroelaw24_RetryOnce.l0 : SCode := (.seq (.ifs [T (.bin .lss (.x 6) (ki 20))] (.t 0) .skip (.exit 0))
(.seq (.block 1 (.seq (.ops [T (.mov (.x 6)), W 7 (.take (.t 0))])
(.seq (.ops [T (.load (some 2) (.x 4)), T (.call false 22 [(.t 0)]), T (.take (.t 0)), T (.ext 0 (.t 0)), T (.ext 1 (.t 1)), W 8 (.alloc false (.v (.agg [(.int .i64 0), (.int .i64 0)]))), N (.store 2 (.x 8) (.t 2)), W 9 (.take (.t 2))])
(.seq (.ops [T (.load (some 2) (.x 8)), N (.store 2 (.x 4) (.t 0))])
(.ifs [T (.mov (.x 9))] (.t 0) (.seq (.ops [T (.mov (.x 5)), T (.bin .add (.t 0) (ki 1)), W 5 (.take (.t 0))])
(.ifs [T (.mov (.x 7)), T (.bin .neq (.t 0) (ki 2))] (.t 0) (.seq (.ops [W 3 (.take (kb false))])
.ret) .skip)) .skip)))))
(.ops [T (.bin .add (.x 6) (ki 1)), W 6 (.mov (.t 0))])))
def euphroelaw24_RetryOnce.s : SFunc := { np := 2, nv := 17, res := [.var 3], code := (.seq (.ops [W 2 (.box false (.x 0)), W 3 (.take (kb false))])
(.seq (.ifs [T (.load (some 2) (.x 2)), T (.call false 18 [(.t 0)]), T (.un .not (.t 0))] (.t 0) (.seq (.ops [T (.call false 21 []), W 3 (.take (.t 0))])
.ret) .skip)
(.seq (.ops [T (.load (some 2) (.x 2)), T (.call false 16 [(.t 0)]), W 4 (.alloc false (.v (.agg [(.int .i64 0), (.int .i64 0)]))), N (.store 2 (.x 4) (.t 1))])
(.seq (.ops [W 5 (.take (ki 0))])
(.seq (.seq (.ops [W 6 (.mov (ki 0))])
(.block 0 (.loop [7, 8, 9] euphroelaw24_RetryOnce.l0)))
(.seq (.ops [T (.mov (.x 1)), T (.bin .rem (.t 0) (kk .u8 10)), T (.cvi .i64 (.t 0)), T (.bin .add (.t 0) (ki 1)), W 10 (.take (.t 0))])
(.seq (.ops [T (.mov (.x 10)), T (.build [.v (.int .i64 0), .v (.int .i64 0)] [(0, 1, (.t 0))]), T (.call false 16 [(.t 0)]), W 11 (.alloc false (.v (.agg [(.int .i64 0), (.int .i64 0)]))), N (.store 2 (.x 11) (.t 1))])
(.seq (.seq (.ops [T (.mov (.x 10)), W 12 (.call false 23 [(.t 0)]), W 13 (.mov (ki 0))])
(.block 2 (.loop [14, 15, 16] euphroelaw24_RetryOnce.l1)))
(.seq (.ops [W 3 (.take (kb false))])
.ret))))))))) }
def euphroelaw24_RetryOnce.m : List Nat := [0, 1, 2, 4, 5, 6, 21, 7, 8, 9, 10, 11, 44, 45, 12, 13, 14]
/-- euphroe/euphroelaw24.RetryMoves · 0:x/0 1:term/1 2:count/2 3:x/3 4:/6 5:r/7 6:a/8 7:f/9 8:b/10 9:g/11 10:may/12 -/
def euphroelaw24_RetryMoves.s : SFunc := { np := 3, nv := 11, res := [.var 4], code := (.seq (.ops [W 3 (.box false (.x 0)), W 4 (.take (kb false))])
(.seq (.ops [T (.load (some 2) (.x 3)), W 5 (.alloc false (.v (.agg [(.int .i64 0), (.int .i64 0)]))), N (.store 2 (.x 5) (.t 1))])
(.seq (.ops [T (.load (some 2) (.x 5)), T (.call false 22 [(.t 0)]), T (.take (.t 0)), T (.ext 0 (.t 0)), T (.ext 1 (.t 1)), W 6 (.alloc false (.v (.agg [(.int .i64 0), (.int .i64 0)]))), N (.store 2 (.x 6) (.t 2)), W 7 (.take (.t 2))])
(.seq (.ops [T (.load (some 2) (.x 3)), T (.call false 24 [(.t 0)]), T (.take (.t 0)), T (.ext 0 (.t 0)), T (.ext 1 (.t 1)), W 8 (.alloc false (.v (.agg [(.int .i64 0), (.int .i64 0)]))), N (.store 2 (.x 8) (.t 2)), W 9 (.take (.t 2))])
(.seq (.ops [T (.fa 0 (.x 3)), T (.load none (.t 0)), T (.bin .geq (.t 0) (ki 0)), T (.mov (.t 0)), GT 0 true (.fa 0 (.x 3)), GT 1 true (.load none (.t 0)), GT 2 true (.bin .leq (.t 0) (ki 10)), T (.pick (.t 3) (.t 0) (kb false)), T (.mov (.t 0)), GT 0 true (.fa 1 (.x 3)), GT 1 true (.load none (.t 0)), GT 2 true (.bin .geq (.t 0) (ki 0)), T (.pick (.t 3) (.t 0) (kb false)), T (.mov (.t 0)), GT 0 true (.fa 1 (.x 3)), GT 1 true (.load none (.t 0)), GT 2 true (.bin .leq (.t 0) (ki 3)), T (.pick (.t 3) (.t 0) (kb false)), W 10 (.take (.t 0))])
(.seq (.ops [T (.load (some 2) (.x 5)), T (.mov (.x 1)), T (.call false 15 [(.t 1), (.t 0)]), T (.load (some 2) (.x 3)), T (.mov (.x 1)), T (.call false 25 [(.t 1), (.t 0)]), T (.eq (.g [1, 1]) false (.t 3) (.t 0)), T (.mov (.t 0)), GT 0 true (.load (some 2) (.x 5)), GT 1 true (.call false 16 [(.t 0)]), GT 2 true (.load (some 2) (.x 3)), GT 3 true (.call false 26 [(.t 0)]), GT 4 true (.eq (.g [1, 1]) false (.t 2) (.t 0)), T (.pick (.t 5) (.t 0) (kb false)), T (.mov (.t 0)), GT 0 true (.load (some 2) (.x 5)), GT 1 true (.call false 27 [(.t 0)]), GT 2 true (.build [.v (.int .i64 0), .v (.int .i64 0)] [(1, 1, (ki 3))]), GT 3 true (.eq (.g [1, 1]) false (.t 1) (.t 0)), T (.pick (.t 4) (.t 0) (kb false)), T (.mov (.t 0)), GT 0 true (.load (some 2) (.x 5)), GT 1 true (.call false 19 [(.t 0)]), GT 2 true (.fa 0 (.x 3)), GT 3 true (.load none (.t 0)), GT 4 true (.build [.v (.int .i64 0), .v (.int .i64 0)] [(0, 1, (.t 0))]), GT 5 true (.eq (.g [1, 1]) false (.t 3) (.t 0)), T (.pick (.t 6) (.t 0) (kb false)), T (.mov (.t 0)), GT 0 true (.load (some 2) (.x 6)), GT 1 true (.load (some 2) (.x 8)), GT 2 true (.eq (.g [1, 1]) false (.t 1) (.t 0)), T (.pick (.t 3) (.t 0) (kb false)), T (.mov (.t 0)), GT 0 true (.mov (.x 7)), GT 1 true (.mov (.x 9)), GT 2 true (.eq .b false (.t 1) (.t 0)), T (.pick (.t 3) (.t 0) (kb false)), T (.mov (.t 0)), GT 0 true (.load (some 2) (.x 5)), GT 1 true (.call false 17 [(.t 0)]), GT 2 true (.fa 1 (.x 3)), GT 3 true (.load none (.t 0)), GT 4 true (.bin .gtr (.t 0) (ki 0)), GT 5 true (.eq .b false (.t 3) (.t 0)), T (.pick (.t 6) (.t 0) (kb false)), T (.mov (.t 0)), GT 0 true (.load (some 2) (.x 5)), GT 1 true (.call false 20 [(.t 0)]), GT 2 true (.fa 0 (.x 3)), GT 3 true (.load none (.t 0)), GT 4 true (.bin .gtr (.t 0) (ki 0)), GT 5 true (.eq .b false (.t 3) (.t 0)), T (.pick (.t 6) (.t 0) (kb false)), T (.mov (.t 0)), GT 0 true (.load (some 2) (.x 5)), GT 1 true (.call false 18 [(.t 0)]), GT 2 true (.mov (.x 10)), GT 3 true (.eq .b false (.t 1) (.t 0)), T (.pick (.t 4) (.t 0) (kb false)), T (.mov (.t 0)), GT 0 true (.mov (.x 2)), GT 1 true (.call false 23 [(.t 0)]), GT 2 true (.mov (.x 2)), GT 3 true (.call false 28 [(.t 0)]), GT 4 true (.bin .eql (.t 2) (.t 0)), T (.pick (.t 5) (.t 0) (kb false)), T (.mov (.t 0)), GT 0 true (.call false 21 []), T (.pick (.t 1) (.t 0) (kb false)), W 4 (.take (.t 0))])
.ret)))))) }
def euphroelaw24_RetryMoves.m : List Nat := [0, 1, 2, 3, 6, 7, 8, 9, 10, 11, 12]
/-- (euphroe/retry.Retry).Init · 0:r/0 1:term/1 2:r/2 3:/4 -/
def retry_Retry_Init.s : SFunc := { np := 2, nv := 4, res := [.cell (some 2) 3], code := (.seq (.ops [W 2 (.box false (.x 0)), W 3 (.alloc false (.v (.agg [(.int .i64 0), (.int .i64 0)])))])
(.seq (.ops [T (.fa 0 (.x 2)), N (.store 1 (.t 0) (ki 10))])
(.seq (.ifs [T (.mov (.x 1))] (.t 0) (.ops [T (.fa 0 (.x 2)), N (.store 1 (.t 0) (ki 2))]) .skip)
(.seq (.ops [T (.load (some 2) (.x 2)), N (.store 2 (.x 3) (.t 0))])
.ret)))) }
def retry_Retry_Init.m : List Nat := [0, 1, 2, 4]
/-- (euphroe/retry.Retry).Sent · 0:r/0 1:r/1 2:/2 -/
def retry_Retry_Sent.s : SFunc := { np := 1, nv := 3, res := [.cell (some 2) 2], code := (.seq (.ops [W 1 (.box false (.x 0)), W 2 (.alloc false (.v (.agg [(.int .i64 0), (.int .i64 0)])))])
(.seq (.ops [T (.fa 0 (.x 1)), T (.load none (.t 0)), T (.mx (.t 0) (ki 1)), T (.bin .sub (.t 0) (ki 1)), T (.build [.v (.int .i64 0), .v (.int .i64 0)] [(0, 1, (.t 0)), (1, 1, (ki 3))]), N (.store 2 (.x 2) (.t 0))])
.ret)) }
def retry_Retry_Sent.m : List Nat := [0, 1, 2]
/-- (euphroe/retry.Retry).On · 0:r/0 1:r/1 2:/2 -/
def retry_Retry_On.s : SFunc := { np := 1, nv := 3, res := [.var 2], code := (.seq (.ops [W 1 (.box false (.x 0)), W 2 (.take (kb false))])
(.seq (.ops [T (.fa 1 (.x 1)), T (.load none (.t 0)), T (.bin .gtr (.t 0) (ki 0)), W 2 (.take (.t 0))])
.ret)) }
def retry_Retry_On.m : List Nat := [0, 1, 2]
/-- (euphroe/retry.Retry).May · 0:r/0 1:r/1 2:/2 -/
def retry_Retry_May.s : SFunc := { np := 1, nv := 3, res := [.var 2], code := (.seq (.ops [W 1 (.box false (.x 0)), W 2 (.take (kb false))])
(.seq (.ops [T (.fa 0 (.x 1)), T (.load none (.t 0)), T (.bin .geq (.t 0) (ki 0)), T (.mov (.t 0)), GT 0 true (.fa 0 (.x 1)), GT 1 true (.load none (.t 0)), GT 2 true (.bin .leq (.t 0) (ki 10)), T (.pick (.t 3) (.t 0) (kb false)), T (.mov (.t 0)), GT 0 true (.fa 1 (.x 1)), GT 1 true (.load none (.t 0)), GT 2 true (.bin .geq (.t 0) (ki 0)), T (.pick (.t 3) (.t 0) (kb false)), T (.mov (.t 0)), GT 0 true (.fa 1 (.x 1)), GT 1 true (.load none (.t 0)), GT 2 true (.bin .leq (.t 0) (ki 3)), T (.pick (.t 3) (.t 0) (kb false)), W 2 (.take (.t 0))])
.ret)) }
def retry_Retry_May.m : List Nat := [0, 1, 2]
/-- (euphroe/retry.Retry).Stop · 0:r/0 1:r/1 2:/2 -/
def retry_Retry_Stop.s : SFunc := { np := 1, nv := 3, res := [.cell (some 2) 2], code := (.seq (.ops [W 1 (.box false (.x 0)), W 2 (.alloc false (.v (.agg [(.int .i64 0), (.int .i64 0)])))])
(.seq (.ops [T (.fa 0 (.x 1)), T (.load none (.t 0)), T (.build [.v (.int .i64 0), .v (.int .i64 0)] [(0, 1, (.t 0)), (1, 1, (ki 0))]), N (.store 2 (.x 2) (.t 0))])
.ret)) }
def retry_Retry_Stop.m : List Nat := [0, 1, 2]
/-- (euphroe/retry.Retry).More · 0:r/0 1:r/1 2:/2 -/
def retry_Retry_More.s : SFunc := { np := 1, nv := 3, res := [.var 2], code := (.seq (.ops [W 1 (.box false (.x 0)), W 2 (.take (kb false))])
(.seq (.ops [T (.fa 0 (.x 1)), T (.load none (.t 0)), T (.bin .gtr (.t 0) (ki 0)), W 2 (.take (.t 0))])
.ret)) }
def retry_Retry_More.m : List Nat := [0, 1, 2]
/-- euphroe/euphroelaw24.alive · 0:/0 1:r/1 -/
def euphroelaw24_alive.s : SFunc := { np := 0, nv := 2, res := [.var 0], code := (.seq (.ops [W 0 (.take (kb false))])
(.seq (.ops [T (.build [.v (.int .i64 0), .v (.int .i64 0)] []), T (.call false 15 [(.t 0), (kb false)]), T (.call false 16 [(.t 0)]), W 1 (.alloc false (.v (.agg [(.int .i64 0), (.int .i64 0)]))), N (.store 2 (.x 1) (.t 1))])
(.seq (.ops [T (.fa 0 (.x 1)), T (.load none (.t 0)), T (.bin .eql (.t 0) (ki 9)), T (.mov (.t 0)), GT 0 true (.fa 1 (.x 1)), GT 1 true (.load none (.t 0)), GT 2 true (.bin .eql (.t 0) (ki 3)), T (.pick (.t 3) (.t 0) (kb false)), T (.mov (.t 0)), GT 0 true (.load (some 2) (.x 1)), GT 1 true (.call false 17 [(.t 0)]), T (.pick (.t 2) (.t 0) (kb false)), T (.mov (.t 0)), GT 0 true (.load (some 2) (.x 1)), GT 1 true (.call false 20 [(.t 0)]), T (.pick (.t 2) (.t 0) (kb false)), T (.mov (.t 0)), GT 0 true (.load (some 2) (.x 1)), GT 1 true (.call false 18 [(.t 0)]), T (.pick (.t 2) (.t 0) (kb false)), T (.mov (.t 0)), GT 0 true (.call false 23 [(ki 10)]), GT 1 true (.bin .eql (.t 0) (ki 30)), T (.pick (.t 2) (.t 0) (kb false)), T (.mov (.t 0)), T (.pick (.t 0) (kb true) (kb false)), W 0 (.take (.t 0))])
.ret))) }
def euphroelaw24_alive.m : List Nat := [0, 1]
/-- (euphroe/retry.Retry).Tick · 0:r/0 1:r/1 2:/2 3:/3 -/
def retry_Retry_Tick.s : SFunc := { np := 1, nv := 4, res := [.cell (some 2) 2, .var 3], code := (.seq (.ops [W 1 (.box false (.x 0)), W 2 (.alloc false (.v (.agg [(.int .i64 0), (.int .i64 0)]))), W 3 (.take (kb false))])
(.seq (.ifs [T (.load (some 2) (.x 1)), T (.call false 17 [(.t 0)]), T (.un .not (.t 0))] (.t 0) (.seq (.ops [T (.load (some 2) (.x 1)), N (.store 2 (.x 2) (.t 0)), W 3 (.take (kb false))])
.ret) .skip)
(.seq (.ops [T (.fa 1 (.x 1)), T (.load none (.t 0)), T (.bin .sub (.t 0) (ki 1)), T (.fa 1 (.x 1)), N (.store 1 (.t 0) (.t 1))])
(.seq (.ops [T (.load (some 2) (.x 1)), T (.load (some 2) (.x 1)), T (.call false 17 [(.t 0)]), T (.un .not (.t 0)), N (.store 2 (.x 2) (.t 3)), W 3 (.take (.t 1))])
.ret)))) }
def retry_Retry_Tick.m : List Nat := [0, 1, 2, 3]
/-- euphroe/retry.Longest · 0:count/0 1:/2 2:n/3 3:/6 4:/7 -/
def retry_Longest.l0 : SCode := (.seq (.ifs [T (.bin .lss (.x 4) (.x 3))] (.t 0) .skip (.exit 0))
(.seq (.block 1 (.ops [T (.mov (.x 2)), T (.bin .add (.t 0) (ki 3)), W 2 (.take (.t 0))]))
(.ops [T (.bin .add (.x 4) (ki 1)), W 4 (.mov (.t 0))])))
def retry_Longest.s : SFunc := { np := 1, nv := 5, res := [.var 1], code := (.seq (.ops [W 1 (.take (ki 0))])
(.seq (.ops [W 2 (.take (ki 0))])
(.seq (.seq (.ops [T (.mov (.x 0)), T (.mx (.t 0) (ki 0)), W 3 (.mn (.t 0) (ki 10)), W 4 (.mov (ki 0))])
(.block 0 (.loop [] retry_Longest.l0)))
(.seq (.ops [T (.take (.x 2)), W 1 (.take (.t 0))])
.ret)))) }
def retry_Longest.m : List Nat := [0, 2, 3, 6, 7]
/-- euphroe/euphroeref24.Tick · 0:r/0 1:r/1 2:/2 3:/3 -/
def euphroeref24_Tick.s : SFunc := { np := 1, nv := 4, res := [.cell (some 2) 2, .var 3], code := (.seq (.ops [W 1 (.box false (.x 0)), W 2 (.alloc false (.v (.agg [(.int .i64 0), (.int .i64 0)]))), W 3 (.take (kb false))])
(.seq (.ifs [T (.fa 1 (.x 1)), T (.load none (.t 0)), T (.bin .leq (.t 0) (ki 0))] (.t 0) (.seq (.ops [T (.load (some 2) (.x 1)), N (.store 2 (.x 2) (.t 0)), W 3 (.take (kb false))])
.ret) .skip)
(.seq (.ops [T (.fa 0 (.x 1)), T (.load none (.t 0)), T (.fa 1 (.x 1)), T (.load none (.t 0)), T (.bin .sub (.t 0) (ki 1)), T (.build [.v (.int .i64 0), .v (.int .i64 0)] [(0, 1, (.t 3)), (1, 1, (.t 0))]), T (.fa 1 (.x 1)), T (.loadR (.x 1) none (.t 0)), T (.bin .eql (.t 0) (ki 1)), N (.storeS 2 (.x 2) (.t 3) [(.x 1)]), W 3 (.take (.t 1))])
.ret))) }
def euphroeref24_Tick.m : List Nat := [0, 1, 2, 3]
/-- euphroe/euphroeref24.Init · 0:r/0 1:term/1 2:r/2 3:/4 -/
def euphroeref24_Init.s : SFunc := { np := 2, nv := 4, res := [.cell (some 2) 3], code := (.seq (.ops [W 2 (.box false (.x 0)), W 3 (.alloc false (.v (.agg [(.int .i64 0), (.int .i64 0)])))])
(.seq (.ifs [T (.mov (.x 1))] (.t 0) (.seq (.ops [T (.fa 1 (.x 2)), T (.load none (.t 0)), T (.build [.v (.int .i64 0), .v (.int .i64 0)] [(0, 1, (ki 2)), (1, 1, (.t 0))]), N (.store 2 (.x 3) (.t 0))])
.ret) .skip)
(.seq (.ops [T (.fa 1 (.x 2)), T (.load none (.t 0)), T (.build [.v (.int .i64 0), .v (.int .i64 0)] [(0, 1, (ki 10)), (1, 1, (.t 0))]), N (.store 2 (.x 3) (.t 0))])
.ret))) }
def euphroeref24_Init.m : List Nat := [0, 1, 2, 4]
/-- euphroe/euphroeref24.Sent · 0:r/0 1:r/1 2:/2 -/
def euphroeref24_Sent.s : SFunc := { np := 1, nv := 3, res := [.cell (some 2) 2], code := (.seq (.ops [W 1 (.box false (.x 0)), W 2 (.alloc false (.v (.agg [(.int .i64 0), (.int .i64 0)])))])
(.seq (.ifs [T (.fa 0 (.x 1)), T (.load none (.t 0)), T (.bin .leq (.t 0) (ki 0))] (.t 0) (.seq (.ops [T (.build [.v (.int .i64 0), .v (.int .i64 0)] [(0, 1, (ki 0)), (1, 1, (ki 3))]), N (.store 2 (.x 2) (.t 0))])
.ret) .skip)
(.seq (.ops [T (.fa 0 (.x 1)), T (.load none (.t 0)), T (.bin .sub (.t 0) (ki 1)), T (.build [.v (.int .i64 0), .v (.int .i64 0)] [(0, 1, (.t 0)), (1, 1, (ki 3))]), N (.store 2 (.x 2) (.t 0))])
.ret))) }
def euphroeref24_Sent.m : List Nat := [0, 1, 2]
/-- (euphroe/retry.Retry).Zero · 0:r/0 1:/2 -/
def retry_Retry_Zero.s : SFunc := { np := 1, nv := 2, res := [.cell (some 2) 1], code := (.seq (.ops [T (.box false (.x 0)), W 1 (.alloc false (.v (.agg [(.int .i64 0), (.int .i64 0)])))])
(.seq (.ops [T (.build [.v (.int .i64 0), .v (.int .i64 0)] [(0, 1, (ki 0)), (1, 1, (ki 3))]), N (.store 2 (.x 1) (.t 0))])
.ret)) }
def retry_Retry_Zero.m : List Nat := [0, 2]
/-- euphroe/euphroeref24.Longest · 0:count/0 1:/2 2:r/3 3:ticks/4 4:s/5 5:fired/6 -/
def euphroeref24_Longest.l0 : SCode := (.seq (.ifs [T (.mov (.x 3)), T (.bin .lss (.t 0) (ki 1000))] (.t 0) .skip (.exit 0))
(.block 1 (.seq (.ops [T (.load (some 2) (.x 2)), T (.call false 24 [(.t 0)]), T (.take (.t 0)), T (.ext 0 (.t 0)), T (.ext 1 (.t 1)), W 4 (.alloc false (.v (.agg [(.int .i64 0), (.int .i64 0)]))), N (.store 2 (.x 4) (.t 2)), W 5 (.take (.t 2))])
(.seq (.ops [T (.mov (.x 3)), T (.bin .add (.t 0) (ki 1)), W 3 (.take (.t 0))])
(.seq (.ifs [T (.mov (.x 5)), T (.mov (.t 0)), GT 0 true (.fa 0 (.x 4)), GT 1 true (.load none (.t 0)), GT 2 true (.bin .eql (.t 0) (ki 0)), T (.pick (.t 3) (.t 0) (kb false))] (.t 0) (.seq (.ops [T (.take (.x 3)), W 1 (.take (.t 0))])
.ret) .skip)
(.seq (.ifs [T (.mov (.x 5))] (.t 0) (.ops [T (.load (some 2) (.x 4)), T (.call false 26 [(.t 0)]), N (.store 2 (.x 4) (.t 0))]) .skip)
(.ops [T (.load (some 2) (.x 4)), N (.store 2 (.x 2) (.t 0))])))))))
def euphroeref24_Longest.s : SFunc := { np := 1, nv := 6, res := [.var 1], code := (.seq (.ops [W 1 (.take (ki 0))])
(.seq (.ifs [T (.mov (.x 0)), T (.bin .lss (.t 0) (ki 1))] (.t 0) (.seq (.ops [W 1 (.take (ki 0))])
.ret) .skip)
(.seq (.ops [T (.mov (.x 0)), T (.mn (.t 0) (ki 10)), T (.build [.v (.int .i64 0), .v (.int .i64 0)] [(0, 1, (.t 0)), (1, 1, (ki 0))]), T (.call false 26 [(.t 0)]), W 2 (.alloc false (.v (.agg [(.int .i64 0), (.int .i64 0)]))), N (.store 2 (.x 2) (.t 1))])
(.seq (.ops [W 3 (.take (ki 0))])
(.seq (.block 0 (.loop [4, 5] euphroeref24_Longest.l0))
(.seq (.ops [W 1 (.take (ki 0))])
.ret)))))) }
def euphroeref24_Longest.m : List Nat := [0, 2, 3, 4, 5, 6]
def fns : List (Nat × SFunc × List Nat) := [(4, euphroelaw24_RetryOnce.s, euphroelaw24_RetryOnce.m), (5, euphroelaw24_RetryMoves.s, euphroelaw24_RetryMoves.m), (15, retry_Retry_Init.s, retry_Retry_Init.m), (16, retry_Retry_Sent.s, retry_Retry_Sent.m), (17, retry_Retry_On.s, retry_Retry_On.m), (18, retry_Retry_May.s, retry_Retry_May.m), (19, retry_Retry_Stop.s, retry_Retry_Stop.m), (20, retry_Retry_More.s, retry_Retry_More.m), (21, euphroelaw24_alive.s, euphroelaw24_alive.m), (22, retry_Retry_Tick.s, retry_Retry_Tick.m), (23, retry_Longest.s, retry_Longest.m), (24, euphroeref24_Tick.s, euphroeref24_Tick.m), (25, euphroeref24_Init.s, euphroeref24_Init.m), (26, euphroeref24_Sent.s, euphroeref24_Sent.m), (27, retry_Retry_Zero.s, retry_Retry_Zero.m), (28, euphroeref24_Longest.s, euphroeref24_Longest.m)]
abbrev euphroelaw24_RetryOnce.n : Nat := 4
abbrev euphroelaw24_RetryMoves.n : Nat := 5
abbrev retry_Retry_Init.n : Nat := 15
abbrev retry_Retry_Sent.n : Nat := 16
abbrev retry_Retry_On.n : Nat := 17
abbrev retry_Retry_May.n : Nat := 18
abbrev retry_Retry_Stop.n : Nat := 19
abbrev retry_Retry_More.n : Nat := 20
abbrev euphroelaw24_alive.n : Nat := 21
abbrev retry_Retry_Tick.n : Nat := 22
abbrev retry_Longest.n : Nat := 23
abbrev euphroeref24_Tick.n : Nat := 24
abbrev euphroeref24_Init.n : Nat := 25
abbrev euphroeref24_Sent.n : Nat := 26
abbrev retry_Retry_Zero.n : Nat := 27
abbrev euphroeref24_Longest.n : Nat := 28
end Go.Q
