/- The slim code of the functions, written by a program of ours. No condition. -/
import Derived.Test.YtjglogffdihahaaEvB
set_option maxRecDepth 100000
namespace Go.Q
open SOp SCode
/-- euphroe/euphroelaw24.RetryCounts · 0:term/0 1:n/1 2:/4 3:r/5 4:first/6 5:/14 6:/15 -/
def euphroelaw24_RetryCounts.l0 : SCode := (.seq (.ifs [T (.bin .lss (.x 6) (.x 5))] (.t 0) .skip (.exit 0))
(.seq (.block 1 (.seq (.ops [T (.load (some 2) (.x 3)), T (.call false 16 [(.t 0)]), N (.store 2 (.x 3) (.t 0))])
(.ifs [T (.load (some 2) (.x 3)), T (.call false 17 [(.t 0)]), T (.un .not (.t 0)), T (.mov (.t 0)), GT 0 false (.load (some 2) (.x 3)), GT 1 false (.call false 18 [(.t 0)]), GT 2 false (.un .not (.t 0)), T (.pick (.t 3) (kb true) (.t 0)), T (.mov (.t 0)), GT 0 false (.load (some 2) (.x 3)), GT 1 false (.call false 19 [(.t 0)]), GT 2 false (.call false 17 [(.t 0)]), T (.pick (.t 3) (kb true) (.t 0)), T (.mov (.t 0)), GT 0 false (.load (some 2) (.x 3)), GT 1 false (.call false 19 [(.t 0)]), GT 2 false (.fld 0 none (.t 0)), GT 3 false (.fa 0 (.x 3)), GT 4 false (.load none (.t 0)), GT 5 false (.bin .neq (.t 2) (.t 0)), T (.pick (.t 6) (kb true) (.t 0))] (.t 0) (.seq (.ops [W 2 (.take (kb false))])
.ret) .skip)))
(.ops [T (.bin .add (.x 6) (ki 1)), W 6 (.mov (.t 0))])))
def euphroelaw24_RetryCounts.s : SFunc := { np := 2, nv := 7, res := [.var 2], code := (.seq (.ops [W 2 (.take (kb false))])
(.seq (.ops [T (.build [.v (.int .i64 0), .v (.int .i64 0)] []), T (.mov (.x 0)), T (.call false 15 [(.t 1), (.t 0)]), W 3 (.alloc false (.v (.agg [(.int .i64 0), (.int .i64 0)]))), N (.store 2 (.x 3) (.t 1))])
(.seq (.ops [T (.fa 0 (.x 3)), T (.load none (.t 0)), W 4 (.take (.t 0))])
(.seq (.seq (.ops [T (.mov (.x 1)), T (.cvi .i64 (.t 0)), W 5 (.bin .rem (.t 0) (ki 30)), W 6 (.mov (ki 0))])
(.block 0 (.loop [] euphroelaw24_RetryCounts.l0)))
(.seq (.ops [T (.mov (.x 4)), T (.bin .gtr (.t 0) (ki 0)), T (.mov (.t 0)), GT 0 true (.fa 0 (.x 3)), GT 1 true (.load none (.t 0)), GT 2 true (.mov (.x 4)), GT 3 true (.mov (.x 1)), GT 4 true (.cvi .i64 (.t 0)), GT 5 true (.bin .rem (.t 0) (ki 30)), GT 6 true (.bin .sub (.t 3) (.t 0)), GT 7 true (.mx (.t 0) (ki 0)), GT 8 true (.bin .eql (.t 6) (.t 0)), T (.pick (.t 9) (.t 0) (kb false)), T (.mov (.t 0)), GT 0 true (.load (some 2) (.x 3)), GT 1 true (.call false 20 [(.t 0)]), GT 2 true (.fa 0 (.x 3)), GT 3 true (.load none (.t 0)), GT 4 true (.bin .gtr (.t 0) (ki 0)), GT 5 true (.eq .b false (.t 3) (.t 0)), T (.pick (.t 6) (.t 0) (kb false)), T (.mov (.t 0)), GT 0 true (.call false 21 []), T (.pick (.t 1) (.t 0) (kb false)), W 2 (.take (.t 0))])
.ret))))) }
def euphroelaw24_RetryCounts.m : List Nat := [0, 1, 4, 5, 6, 14, 15]
/-- (euphroe/retry.Retry).Init · 0:r/0 1:term/1 2:r/2 3:/4 -/
def retry_Retry_Init.s : SFunc := { np := 2, nv := 4, res := [.cell (some 2) 3], code := (.seq (.ops [W 2 (.box false (.x 0)), W 3 (.alloc false (.v (.agg [(.int .i64 0), (.int .i64 0)])))])
(.seq (.ops [T (.fa 0 (.x 2)), N (.store 1 (.t 0) (ki 10))])
(.seq (.ifs [T (.mov (.x 1))] (.t 0) (.ops [T (.fa 0 (.x 2)), N (.store 1 (.t 0) (ki 2))]) .skip)
(.seq (.ops [T (.load (some 2) (.x 2)), N (.store 2 (.x 3) (.t 0))])
.ret)))) }
def retry_Retry_Init.m : List Nat := [0, 1, 2, 4]
/-- (euphroe/retry.Retry).Sent · 0:r/0 1:r/1 2:/2 -/
def retry_Retry_Sent.s : SFunc := { np := 1, nv := 3, res := [.cell (some 2) 2], code := (.seq (.ops [W 1 (.box false (.x 0)), W 2 (.alloc false (.v (.agg [(.int .i64 0), (.int .i64 0)])))])
(.seq (.ops [T (.fa 0 (.x 1)), T (.load none (.t 0)), T (.mx (.t 0) (ki 1)), T (.bin .sub (.t 0) (ki 1)), T (.build [.v (.int .i64 0), .v (.int .i64 0)] [(0, 1, (.t 0)), (1, 1, (ki 3))]), N (.store 2 (.x 2) (.t 0))])
.ret)) }
def retry_Retry_Sent.m : List Nat := [0, 1, 2]
/-- (euphroe/retry.Retry).On · 0:r/0 1:r/1 2:/2 -/
def retry_Retry_On.s : SFunc := { np := 1, nv := 3, res := [.var 2], code := (.seq (.ops [W 1 (.box false (.x 0)), W 2 (.take (kb false))])
(.seq (.ops [T (.fa 1 (.x 1)), T (.load none (.t 0)), T (.bin .gtr (.t 0) (ki 0)), W 2 (.take (.t 0))])
.ret)) }
def retry_Retry_On.m : List Nat := [0, 1, 2]
/-- (euphroe/retry.Retry).May · 0:r/0 1:r/1 2:/2 -/
def retry_Retry_May.s : SFunc := { np := 1, nv := 3, res := [.var 2], code := (.seq (.ops [W 1 (.box false (.x 0)), W 2 (.take (kb false))])
(.seq (.ops [T (.fa 0 (.x 1)), T (.load none (.t 0)), T (.bin .geq (.t 0) (ki 0)), T (.mov (.t 0)), GT 0 true (.fa 0 (.x 1)), GT 1 true (.load none (.t 0)), GT 2 true (.bin .leq (.t 0) (ki 10)), T (.pick (.t 3) (.t 0) (kb false)), T (.mov (.t 0)), GT 0 true (.fa 1 (.x 1)), GT 1 true (.load none (.t 0)), GT 2 true (.bin .geq (.t 0) (ki 0)), T (.pick (.t 3) (.t 0) (kb false)), T (.mov (.t 0)), GT 0 true (.fa 1 (.x 1)), GT 1 true (.load none (.t 0)), GT 2 true (.bin .leq (.t 0) (ki 3)), T (.pick (.t 3) (.t 0) (kb false)), W 2 (.take (.t 0))])
.ret)) }
def retry_Retry_May.m : List Nat := [0, 1, 2]
/-- (euphroe/retry.Retry).Stop · 0:r/0 1:r/1 2:/2 -/
def retry_Retry_Stop.s : SFunc := { np := 1, nv := 3, res := [.cell (some 2) 2], code := (.seq (.ops [W 1 (.box false (.x 0)), W 2 (.alloc false (.v (.agg [(.int .i64 0), (.int .i64 0)])))])
(.seq (.ops [T (.fa 0 (.x 1)), T (.load none (.t 0)), T (.build [.v (.int .i64 0), .v (.int .i64 0)] [(0, 1, (.t 0)), (1, 1, (ki 0))]), N (.store 2 (.x 2) (.t 0))])
.ret)) }
def retry_Retry_Stop.m : List Nat := [0, 1, 2]
/-- (euphroe/retry.Retry).More · 0:r/0 1:r/1 2:/2 -/
def retry_Retry_More.s : SFunc := { np := 1, nv := 3, res := [.var 2], code := (.seq (.ops [W 1 (.box false (.x 0)), W 2 (.take (kb false))])
(.seq (.ops [T (.fa 0 (.x 1)), T (.load none (.t 0)), T (.bin .gtr (.t 0) (ki 0)), W 2 (.take (.t 0))])
.ret)) }
def retry_Retry_More.m : List Nat := [0, 1, 2]
/-- euphroe/euphroelaw24.alive · 0:/0 1:r/1 -/
def euphroelaw24_alive.s : SFunc := { np := 0, nv := 2, res := [.var 0], code := (.seq (.ops [W 0 (.take (kb false))])
(.seq (.ops [T (.build [.v (.int .i64 0), .v (.int .i64 0)] []), T (.call false 15 [(.t 0), (kb false)]), T (.call false 16 [(.t 0)]), W 1 (.alloc false (.v (.agg [(.int .i64 0), (.int .i64 0)]))), N (.store 2 (.x 1) (.t 1))])
(.seq (.ops [T (.fa 0 (.x 1)), T (.load none (.t 0)), T (.bin .eql (.t 0) (ki 9)), T (.mov (.t 0)), GT 0 true (.fa 1 (.x 1)), GT 1 true (.load none (.t 0)), GT 2 true (.bin .eql (.t 0) (ki 3)), T (.pick (.t 3) (.t 0) (kb false)), T (.mov (.t 0)), GT 0 true (.load (some 2) (.x 1)), GT 1 true (.call false 17 [(.t 0)]), T (.pick (.t 2) (.t 0) (kb false)), T (.mov (.t 0)), GT 0 true (.load (some 2) (.x 1)), GT 1 true (.call false 20 [(.t 0)]), T (.pick (.t 2) (.t 0) (kb false)), T (.mov (.t 0)), GT 0 true (.load (some 2) (.x 1)), GT 1 true (.call false 18 [(.t 0)]), T (.pick (.t 2) (.t 0) (kb false)), T (.mov (.t 0)), GT 0 true (.call false 23 [(ki 10)]), GT 1 true (.bin .eql (.t 0) (ki 30)), T (.pick (.t 2) (.t 0) (kb false)), T (.mov (.t 0)), T (.pick (.t 0) (kb true) (kb false)), W 0 (.take (.t 0))])
.ret))) }
def euphroelaw24_alive.m : List Nat := [0, 1]
/-- euphroe/retry.Longest · 0:count/0 1:/2 2:n/3 3:/6 4:/7 -/
def retry_Longest.l0 : SCode := (.seq (.ifs [T (.bin .lss (.x 4) (.x 3))] (.t 0) .skip (.exit 0))
(.seq (.block 1 (.ops [T (.mov (.x 2)), T (.bin .add (.t 0) (ki 3)), W 2 (.take (.t 0))]))
(.ops [T (.bin .add (.x 4) (ki 1)), W 4 (.mov (.t 0))])))
def retry_Longest.s : SFunc := { np := 1, nv := 5, res := [.var 1], code := (.seq (.ops [W 1 (.take (ki 0))])
(.seq (.ops [W 2 (.take (ki 0))])
(.seq (.seq (.ops [T (.mov (.x 0)), T (.mx (.t 0) (ki 0)), W 3 (.mn (.t 0) (ki 10)), W 4 (.mov (ki 0))])
(.block 0 (.loop [] retry_Longest.l0)))
(.seq (.ops [T (.take (.x 2)), W 1 (.take (.t 0))])
.ret)))) }
def retry_Longest.m : List Nat := [0, 2, 3, 6, 7]
def fns : List (Nat × SFunc × List Nat) := [(3, euphroelaw24_RetryCounts.s, euphroelaw24_RetryCounts.m), (15, retry_Retry_Init.s, retry_Retry_Init.m), (16, retry_Retry_Sent.s, retry_Retry_Sent.m), (17, retry_Retry_On.s, retry_Retry_On.m), (18, retry_Retry_May.s, retry_Retry_May.m), (19, retry_Retry_Stop.s, retry_Retry_Stop.m), (20, retry_Retry_More.s, retry_Retry_More.m), (21, euphroelaw24_alive.s, euphroelaw24_alive.m), (23, retry_Longest.s, retry_Longest.m)]
abbrev euphroelaw24_RetryCounts.n : Nat := 3
abbrev retry_Retry_Init.n : Nat := 15
abbrev retry_Retry_Sent.n : Nat := 16
abbrev retry_Retry_On.n : Nat := 17
abbrev retry_Retry_May.n : Nat := 18
abbrev retry_Retry_Stop.n : Nat := 19
abbrev retry_Retry_More.n : Nat := 20
abbrev euphroelaw24_alive.n : Nat := 21
abbrev retry_Longest.n : Nat := 23
end Go.Q
