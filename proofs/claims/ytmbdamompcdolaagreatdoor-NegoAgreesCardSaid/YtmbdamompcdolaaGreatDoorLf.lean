/- The automaton: its table, and the closed runs (written by a program of ours). No condition. -/
import Derived.Test.YtmbdamompcdolaaGreatDoorSza
import Derived.Test.YtmbdamompcdolaaGreatDoorLz
set_option linter.all false
set_option maxRecDepth 100000
namespace Go.Q
open SOp SCode

def i64s (l : List Int) : List V := l.map (.int .i64)
def tblF : List (List (Option (Int × List Int))) := [
  [some (2, []), some (6, [5, 7]), none, none, none, none, none, none, none, none],
  [none, none, some (0, []), some (1, [3]), some (0, []), some (1, []), some (1, []), some (1, []), some (1, []), some (1, [2])],
  [some (1, [3]), some (1, []), some (6, [5, 7]), some (3, []), some (5, []), some (5, []), some (6, []), some (7, []), some (8, []), some (9, [])],
  [some (0, []), some (0, [4]), some (2, []), some (2, []), some (4, []), some (4, []), some (4, [5, 10]), some (4, [5, 10]), some (4, [5, 10]), some (4, [2, 5, 10])],
  [none, none, none, none, some (4, [10]), some (5, [10]), some (6, [7]), some (6, [7]), some (8, [7]), none],
  [none, none, none, none, some (2, [4]), some (3, [4]), some (3, [4]), some (3, [4]), some (3, [4]), none],
  [none, none, some (2, [11]), some (8, [5, 7, 8]), some (4, []), some (5, []), some (8, [8]), some (9, [8, 1]), some (8, [8]), some (8, [2, 7, 8])],
  [none, none, some (2, [11]), some (6, [5, 7, 9]), some (4, []), some (5, []), some (6, [9]), some (7, [9]), some (6, [9]), some (6, [2, 7, 9])],
  [none, none, some (2, [11]), some (3, [11]), some (4, []), some (5, []), some (7, [5]), some (6, [7]), some (9, [5, 1]), some (6, [2, 7])],
  [none, none, some (2, [11]), some (3, [11]), some (4, []), some (5, []), some (6, [5, 7]), some (6, [7]), some (8, [5, 7]), some (6, [2, 7])],
  [none, none, some (2, [11]), some (3, [11]), some (4, [11]), some (5, [11]), some (6, [11]), some (6, [11]), some (6, [11]), some (5, [2, 6, 11])],
  [none, none, some (2, []), some (3, []), some (2, [4]), some (3, [4]), some (6, []), some (6, []), some (8, []), some (6, [2, 7])],
  [none, none, some (2, [12]), some (3, [12]), some (4, [12]), some (5, [12]), some (6, [12]), some (7, [12]), some (8, [12]), some (9, [12])],
  [none, none, some (2, []), some (3, []), some (4, []), some (5, []), some (6, []), some (6, []), some (8, []), some (9, [])],
  [none, none, some (2, [4]), some (3, [4]), some (2, [4]), some (3, [4]), some (3, [4]), some (3, [4]), some (3, [4]), some (5, [2, 5, 10])],
  [none, none, some (2, []), some (3, []), some (4, []), some (5, []), some (6, []), some (7, []), some (8, []), some (9, [13])]]
def cellR (s e : Nat) : Option (Int × List Int) := ((tblF[e]?).bind (·[s]?)).bind id
def nxR (s e : Int) : Int × List Int × Int := if 0 ≤ s ∧ s ≤ 9 ∧ 0 ≤ e ∧ e ≤ 15 then (match cellR s.toNat e.toNat with | some (m, a) => (m, a, 0) | none => (0, [], 11)) else (0, [], 1)
def nxD (s e : Int) : D := .tup [.v (.int .i64 (nxR s e).1), .lin 1 (i64s (nxR s e).2.1), .v (.int .i64 (nxR s e).2.2)]
def rxD (s e : Int) : D := .tup [.v (.int .i64 (nxR s e).1), if (nxR s e).2.2 = 0 then .v (.slc 1 (i64s (nxR s e).2.1)) else .lin 1 [], .v (.int .i64 (nxR s e).2.2)]
def Fa (P : Nat → Prop) : Nat → Prop | 0 => True | n + 1 => P n ∧ Fa P n
theorem Fa.s {P : Nat → Prop} {n : Nat} (h : P n) (r : Fa P n) : Fa P (n + 1) := ⟨h, r⟩
theorem Fa.z {P : Nat → Prop} : Fa P 0 := trivial
theorem Fa.get {P : Nat → Prop} : ∀ {n : Nat}, Fa P n → ∀ k, k < n → P k
  | 0, _, k, h => absurd h (by omega)
  | n + 1, h, k, hk => if e : k = n then e ▸ h.1 else h.2.get k (by omega)
def nxT.p (k : Nat) : Option (D × St) := runN G 30 82 [.v (.int .i64 ((k % 10 : Nat) : Int)), .v (.int .i64 ((k / 10 : Nat) : Int))] []
def nxT.q (k : Nat) : Option (D × St) := some (nxD ((k % 10 : Nat) : Int) ((k / 10 : Nat) : Int), [])
theorem nxT.t0 : nxT.p 0 = nxT.q 0 := by kernel_rfl
theorem nxT.t1 : nxT.p 1 = nxT.q 1 := by kernel_rfl
theorem nxT.t2 : nxT.p 2 = nxT.q 2 := by kernel_rfl
theorem nxT.t3 : nxT.p 3 = nxT.q 3 := by kernel_rfl
theorem nxT.t4 : nxT.p 4 = nxT.q 4 := by kernel_rfl
theorem nxT.t5 : nxT.p 5 = nxT.q 5 := by kernel_rfl
theorem nxT.t6 : nxT.p 6 = nxT.q 6 := by kernel_rfl
theorem nxT.t7 : nxT.p 7 = nxT.q 7 := by kernel_rfl
theorem nxT.t8 : nxT.p 8 = nxT.q 8 := by kernel_rfl
theorem nxT.t9 : nxT.p 9 = nxT.q 9 := by kernel_rfl
theorem nxT.t10 : nxT.p 10 = nxT.q 10 := by kernel_rfl
theorem nxT.t11 : nxT.p 11 = nxT.q 11 := by kernel_rfl
theorem nxT.t12 : nxT.p 12 = nxT.q 12 := by kernel_rfl
theorem nxT.t13 : nxT.p 13 = nxT.q 13 := by kernel_rfl
theorem nxT.t14 : nxT.p 14 = nxT.q 14 := by kernel_rfl
theorem nxT.t15 : nxT.p 15 = nxT.q 15 := by kernel_rfl
theorem nxT.t16 : nxT.p 16 = nxT.q 16 := by kernel_rfl
theorem nxT.t17 : nxT.p 17 = nxT.q 17 := by kernel_rfl
theorem nxT.t18 : nxT.p 18 = nxT.q 18 := by kernel_rfl
theorem nxT.t19 : nxT.p 19 = nxT.q 19 := by kernel_rfl
theorem nxT.t20 : nxT.p 20 = nxT.q 20 := by kernel_rfl
theorem nxT.t21 : nxT.p 21 = nxT.q 21 := by kernel_rfl
theorem nxT.t22 : nxT.p 22 = nxT.q 22 := by kernel_rfl
theorem nxT.t23 : nxT.p 23 = nxT.q 23 := by kernel_rfl
theorem nxT.t24 : nxT.p 24 = nxT.q 24 := by kernel_rfl
theorem nxT.t25 : nxT.p 25 = nxT.q 25 := by kernel_rfl
theorem nxT.t26 : nxT.p 26 = nxT.q 26 := by kernel_rfl
theorem nxT.t27 : nxT.p 27 = nxT.q 27 := by kernel_rfl
theorem nxT.t28 : nxT.p 28 = nxT.q 28 := by kernel_rfl
theorem nxT.t29 : nxT.p 29 = nxT.q 29 := by kernel_rfl
theorem nxT.t30 : nxT.p 30 = nxT.q 30 := by kernel_rfl
theorem nxT.t31 : nxT.p 31 = nxT.q 31 := by kernel_rfl
theorem nxT.t32 : nxT.p 32 = nxT.q 32 := by kernel_rfl
theorem nxT.t33 : nxT.p 33 = nxT.q 33 := by kernel_rfl
theorem nxT.t34 : nxT.p 34 = nxT.q 34 := by kernel_rfl
theorem nxT.t35 : nxT.p 35 = nxT.q 35 := by kernel_rfl
theorem nxT.t36 : nxT.p 36 = nxT.q 36 := by kernel_rfl
theorem nxT.t37 : nxT.p 37 = nxT.q 37 := by kernel_rfl
theorem nxT.t38 : nxT.p 38 = nxT.q 38 := by kernel_rfl
theorem nxT.t39 : nxT.p 39 = nxT.q 39 := by kernel_rfl
theorem nxT.t40 : nxT.p 40 = nxT.q 40 := by kernel_rfl
theorem nxT.t41 : nxT.p 41 = nxT.q 41 := by kernel_rfl
theorem nxT.t42 : nxT.p 42 = nxT.q 42 := by kernel_rfl
theorem nxT.t43 : nxT.p 43 = nxT.q 43 := by kernel_rfl
theorem nxT.t44 : nxT.p 44 = nxT.q 44 := by kernel_rfl
theorem nxT.t45 : nxT.p 45 = nxT.q 45 := by kernel_rfl
theorem nxT.t46 : nxT.p 46 = nxT.q 46 := by kernel_rfl
theorem nxT.t47 : nxT.p 47 = nxT.q 47 := by kernel_rfl
theorem nxT.t48 : nxT.p 48 = nxT.q 48 := by kernel_rfl
theorem nxT.t49 : nxT.p 49 = nxT.q 49 := by kernel_rfl
theorem nxT.t50 : nxT.p 50 = nxT.q 50 := by kernel_rfl
theorem nxT.t51 : nxT.p 51 = nxT.q 51 := by kernel_rfl
theorem nxT.t52 : nxT.p 52 = nxT.q 52 := by kernel_rfl
theorem nxT.t53 : nxT.p 53 = nxT.q 53 := by kernel_rfl
theorem nxT.t54 : nxT.p 54 = nxT.q 54 := by kernel_rfl
theorem nxT.t55 : nxT.p 55 = nxT.q 55 := by kernel_rfl
theorem nxT.t56 : nxT.p 56 = nxT.q 56 := by kernel_rfl
theorem nxT.t57 : nxT.p 57 = nxT.q 57 := by kernel_rfl
theorem nxT.t58 : nxT.p 58 = nxT.q 58 := by kernel_rfl
theorem nxT.t59 : nxT.p 59 = nxT.q 59 := by kernel_rfl
theorem nxT.t60 : nxT.p 60 = nxT.q 60 := by kernel_rfl
theorem nxT.t61 : nxT.p 61 = nxT.q 61 := by kernel_rfl
theorem nxT.t62 : nxT.p 62 = nxT.q 62 := by kernel_rfl
theorem nxT.t63 : nxT.p 63 = nxT.q 63 := by kernel_rfl
theorem nxT.t64 : nxT.p 64 = nxT.q 64 := by kernel_rfl
theorem nxT.t65 : nxT.p 65 = nxT.q 65 := by kernel_rfl
theorem nxT.t66 : nxT.p 66 = nxT.q 66 := by kernel_rfl
theorem nxT.t67 : nxT.p 67 = nxT.q 67 := by kernel_rfl
theorem nxT.t68 : nxT.p 68 = nxT.q 68 := by kernel_rfl
theorem nxT.t69 : nxT.p 69 = nxT.q 69 := by kernel_rfl
theorem nxT.t70 : nxT.p 70 = nxT.q 70 := by kernel_rfl
theorem nxT.t71 : nxT.p 71 = nxT.q 71 := by kernel_rfl
theorem nxT.t72 : nxT.p 72 = nxT.q 72 := by kernel_rfl
theorem nxT.t73 : nxT.p 73 = nxT.q 73 := by kernel_rfl
theorem nxT.t74 : nxT.p 74 = nxT.q 74 := by kernel_rfl
theorem nxT.t75 : nxT.p 75 = nxT.q 75 := by kernel_rfl
theorem nxT.t76 : nxT.p 76 = nxT.q 76 := by kernel_rfl
theorem nxT.t77 : nxT.p 77 = nxT.q 77 := by kernel_rfl
theorem nxT.t78 : nxT.p 78 = nxT.q 78 := by kernel_rfl
theorem nxT.t79 : nxT.p 79 = nxT.q 79 := by kernel_rfl
theorem nxT.t80 : nxT.p 80 = nxT.q 80 := by kernel_rfl
theorem nxT.t81 : nxT.p 81 = nxT.q 81 := by kernel_rfl
theorem nxT.t82 : nxT.p 82 = nxT.q 82 := by kernel_rfl
theorem nxT.t83 : nxT.p 83 = nxT.q 83 := by kernel_rfl
theorem nxT.t84 : nxT.p 84 = nxT.q 84 := by kernel_rfl
theorem nxT.t85 : nxT.p 85 = nxT.q 85 := by kernel_rfl
theorem nxT.t86 : nxT.p 86 = nxT.q 86 := by kernel_rfl
theorem nxT.t87 : nxT.p 87 = nxT.q 87 := by kernel_rfl
theorem nxT.t88 : nxT.p 88 = nxT.q 88 := by kernel_rfl
theorem nxT.t89 : nxT.p 89 = nxT.q 89 := by kernel_rfl
theorem nxT.t90 : nxT.p 90 = nxT.q 90 := by kernel_rfl
theorem nxT.t91 : nxT.p 91 = nxT.q 91 := by kernel_rfl
theorem nxT.t92 : nxT.p 92 = nxT.q 92 := by kernel_rfl
theorem nxT.t93 : nxT.p 93 = nxT.q 93 := by kernel_rfl
theorem nxT.t94 : nxT.p 94 = nxT.q 94 := by kernel_rfl
theorem nxT.t95 : nxT.p 95 = nxT.q 95 := by kernel_rfl
theorem nxT.t96 : nxT.p 96 = nxT.q 96 := by kernel_rfl
theorem nxT.t97 : nxT.p 97 = nxT.q 97 := by kernel_rfl
theorem nxT.t98 : nxT.p 98 = nxT.q 98 := by kernel_rfl
theorem nxT.t99 : nxT.p 99 = nxT.q 99 := by kernel_rfl
theorem nxT.t100 : nxT.p 100 = nxT.q 100 := by kernel_rfl
theorem nxT.t101 : nxT.p 101 = nxT.q 101 := by kernel_rfl
theorem nxT.t102 : nxT.p 102 = nxT.q 102 := by kernel_rfl
theorem nxT.t103 : nxT.p 103 = nxT.q 103 := by kernel_rfl
theorem nxT.t104 : nxT.p 104 = nxT.q 104 := by kernel_rfl
theorem nxT.t105 : nxT.p 105 = nxT.q 105 := by kernel_rfl
theorem nxT.t106 : nxT.p 106 = nxT.q 106 := by kernel_rfl
theorem nxT.t107 : nxT.p 107 = nxT.q 107 := by kernel_rfl
theorem nxT.t108 : nxT.p 108 = nxT.q 108 := by kernel_rfl
theorem nxT.t109 : nxT.p 109 = nxT.q 109 := by kernel_rfl
theorem nxT.t110 : nxT.p 110 = nxT.q 110 := by kernel_rfl
theorem nxT.t111 : nxT.p 111 = nxT.q 111 := by kernel_rfl
theorem nxT.t112 : nxT.p 112 = nxT.q 112 := by kernel_rfl
theorem nxT.t113 : nxT.p 113 = nxT.q 113 := by kernel_rfl
theorem nxT.t114 : nxT.p 114 = nxT.q 114 := by kernel_rfl
theorem nxT.t115 : nxT.p 115 = nxT.q 115 := by kernel_rfl
theorem nxT.t116 : nxT.p 116 = nxT.q 116 := by kernel_rfl
theorem nxT.t117 : nxT.p 117 = nxT.q 117 := by kernel_rfl
theorem nxT.t118 : nxT.p 118 = nxT.q 118 := by kernel_rfl
theorem nxT.t119 : nxT.p 119 = nxT.q 119 := by kernel_rfl
theorem nxT.t120 : nxT.p 120 = nxT.q 120 := by kernel_rfl
theorem nxT.t121 : nxT.p 121 = nxT.q 121 := by kernel_rfl
theorem nxT.t122 : nxT.p 122 = nxT.q 122 := by kernel_rfl
theorem nxT.t123 : nxT.p 123 = nxT.q 123 := by kernel_rfl
theorem nxT.t124 : nxT.p 124 = nxT.q 124 := by kernel_rfl
theorem nxT.t125 : nxT.p 125 = nxT.q 125 := by kernel_rfl
theorem nxT.t126 : nxT.p 126 = nxT.q 126 := by kernel_rfl
theorem nxT.t127 : nxT.p 127 = nxT.q 127 := by kernel_rfl
theorem nxT.t128 : nxT.p 128 = nxT.q 128 := by kernel_rfl
theorem nxT.t129 : nxT.p 129 = nxT.q 129 := by kernel_rfl
theorem nxT.t130 : nxT.p 130 = nxT.q 130 := by kernel_rfl
theorem nxT.t131 : nxT.p 131 = nxT.q 131 := by kernel_rfl
theorem nxT.t132 : nxT.p 132 = nxT.q 132 := by kernel_rfl
theorem nxT.t133 : nxT.p 133 = nxT.q 133 := by kernel_rfl
theorem nxT.t134 : nxT.p 134 = nxT.q 134 := by kernel_rfl
theorem nxT.t135 : nxT.p 135 = nxT.q 135 := by kernel_rfl
theorem nxT.t136 : nxT.p 136 = nxT.q 136 := by kernel_rfl
theorem nxT.t137 : nxT.p 137 = nxT.q 137 := by kernel_rfl
theorem nxT.t138 : nxT.p 138 = nxT.q 138 := by kernel_rfl
theorem nxT.t139 : nxT.p 139 = nxT.q 139 := by kernel_rfl
theorem nxT.t140 : nxT.p 140 = nxT.q 140 := by kernel_rfl
theorem nxT.t141 : nxT.p 141 = nxT.q 141 := by kernel_rfl
theorem nxT.t142 : nxT.p 142 = nxT.q 142 := by kernel_rfl
theorem nxT.t143 : nxT.p 143 = nxT.q 143 := by kernel_rfl
theorem nxT.t144 : nxT.p 144 = nxT.q 144 := by kernel_rfl
theorem nxT.t145 : nxT.p 145 = nxT.q 145 := by kernel_rfl
theorem nxT.t146 : nxT.p 146 = nxT.q 146 := by kernel_rfl
theorem nxT.t147 : nxT.p 147 = nxT.q 147 := by kernel_rfl
theorem nxT.t148 : nxT.p 148 = nxT.q 148 := by kernel_rfl
theorem nxT.t149 : nxT.p 149 = nxT.q 149 := by kernel_rfl
theorem nxT.t150 : nxT.p 150 = nxT.q 150 := by kernel_rfl
theorem nxT.t151 : nxT.p 151 = nxT.q 151 := by kernel_rfl
theorem nxT.t152 : nxT.p 152 = nxT.q 152 := by kernel_rfl
theorem nxT.t153 : nxT.p 153 = nxT.q 153 := by kernel_rfl
theorem nxT.t154 : nxT.p 154 = nxT.q 154 := by kernel_rfl
theorem nxT.t155 : nxT.p 155 = nxT.q 155 := by kernel_rfl
theorem nxT.t156 : nxT.p 156 = nxT.q 156 := by kernel_rfl
theorem nxT.t157 : nxT.p 157 = nxT.q 157 := by kernel_rfl
theorem nxT.t158 : nxT.p 158 = nxT.q 158 := by kernel_rfl
theorem nxT.t159 : nxT.p 159 = nxT.q 159 := by kernel_rfl
theorem nxT.all : Fa (fun k => nxT.p k = nxT.q k) 160 := (Fa.s nxT.t159 (Fa.s nxT.t158 (Fa.s nxT.t157 (Fa.s nxT.t156 (Fa.s nxT.t155 (Fa.s nxT.t154 (Fa.s nxT.t153 (Fa.s nxT.t152 (Fa.s nxT.t151 (Fa.s nxT.t150 (Fa.s nxT.t149 (Fa.s nxT.t148 (Fa.s nxT.t147 (Fa.s nxT.t146 (Fa.s nxT.t145 (Fa.s nxT.t144 (Fa.s nxT.t143 (Fa.s nxT.t142 (Fa.s nxT.t141 (Fa.s nxT.t140 (Fa.s nxT.t139 (Fa.s nxT.t138 (Fa.s nxT.t137 (Fa.s nxT.t136 (Fa.s nxT.t135 (Fa.s nxT.t134 (Fa.s nxT.t133 (Fa.s nxT.t132 (Fa.s nxT.t131 (Fa.s nxT.t130 (Fa.s nxT.t129 (Fa.s nxT.t128 (Fa.s nxT.t127 (Fa.s nxT.t126 (Fa.s nxT.t125 (Fa.s nxT.t124 (Fa.s nxT.t123 (Fa.s nxT.t122 (Fa.s nxT.t121 (Fa.s nxT.t120 (Fa.s nxT.t119 (Fa.s nxT.t118 (Fa.s nxT.t117 (Fa.s nxT.t116 (Fa.s nxT.t115 (Fa.s nxT.t114 (Fa.s nxT.t113 (Fa.s nxT.t112 (Fa.s nxT.t111 (Fa.s nxT.t110 (Fa.s nxT.t109 (Fa.s nxT.t108 (Fa.s nxT.t107 (Fa.s nxT.t106 (Fa.s nxT.t105 (Fa.s nxT.t104 (Fa.s nxT.t103 (Fa.s nxT.t102 (Fa.s nxT.t101 (Fa.s nxT.t100 (Fa.s nxT.t99 (Fa.s nxT.t98 (Fa.s nxT.t97 (Fa.s nxT.t96 (Fa.s nxT.t95 (Fa.s nxT.t94 (Fa.s nxT.t93 (Fa.s nxT.t92 (Fa.s nxT.t91 (Fa.s nxT.t90 (Fa.s nxT.t89 (Fa.s nxT.t88 (Fa.s nxT.t87 (Fa.s nxT.t86 (Fa.s nxT.t85 (Fa.s nxT.t84 (Fa.s nxT.t83 (Fa.s nxT.t82 (Fa.s nxT.t81 (Fa.s nxT.t80 (Fa.s nxT.t79 (Fa.s nxT.t78 (Fa.s nxT.t77 (Fa.s nxT.t76 (Fa.s nxT.t75 (Fa.s nxT.t74 (Fa.s nxT.t73 (Fa.s nxT.t72 (Fa.s nxT.t71 (Fa.s nxT.t70 (Fa.s nxT.t69 (Fa.s nxT.t68 (Fa.s nxT.t67 (Fa.s nxT.t66 (Fa.s nxT.t65 (Fa.s nxT.t64 (Fa.s nxT.t63 (Fa.s nxT.t62 (Fa.s nxT.t61 (Fa.s nxT.t60 (Fa.s nxT.t59 (Fa.s nxT.t58 (Fa.s nxT.t57 (Fa.s nxT.t56 (Fa.s nxT.t55 (Fa.s nxT.t54 (Fa.s nxT.t53 (Fa.s nxT.t52 (Fa.s nxT.t51 (Fa.s nxT.t50 (Fa.s nxT.t49 (Fa.s nxT.t48 (Fa.s nxT.t47 (Fa.s nxT.t46 (Fa.s nxT.t45 (Fa.s nxT.t44 (Fa.s nxT.t43 (Fa.s nxT.t42 (Fa.s nxT.t41 (Fa.s nxT.t40 (Fa.s nxT.t39 (Fa.s nxT.t38 (Fa.s nxT.t37 (Fa.s nxT.t36 (Fa.s nxT.t35 (Fa.s nxT.t34 (Fa.s nxT.t33 (Fa.s nxT.t32 (Fa.s nxT.t31 (Fa.s nxT.t30 (Fa.s nxT.t29 (Fa.s nxT.t28 (Fa.s nxT.t27 (Fa.s nxT.t26 (Fa.s nxT.t25 (Fa.s nxT.t24 (Fa.s nxT.t23 (Fa.s nxT.t22 (Fa.s nxT.t21 (Fa.s nxT.t20 (Fa.s nxT.t19 (Fa.s nxT.t18 (Fa.s nxT.t17 (Fa.s nxT.t16 (Fa.s nxT.t15 (Fa.s nxT.t14 (Fa.s nxT.t13 (Fa.s nxT.t12 (Fa.s nxT.t11 (Fa.s nxT.t10 (Fa.s nxT.t9 (Fa.s nxT.t8 (Fa.s nxT.t7 (Fa.s nxT.t6 (Fa.s nxT.t5 (Fa.s nxT.t4 (Fa.s nxT.t3 (Fa.s nxT.t2 (Fa.s nxT.t1 (Fa.s nxT.t0 Fa.z))))))))))))))))))))))))))))))))))))))))))))))))))))))))))))))))))))))))))))))))))))))))))))))))))))))))))))))))))))))))))))))))))))))))))))))))))))))))))))))))
theorem nxT.at (k : Nat) (h : k < 160) : nxT.p k = nxT.q k := nxT.all.get k h
def rxT.q (k : Nat) : Option (D × St) := some (rxD ((k % 10 : Nat) : Int) ((k / 10 : Nat) : Int), [])
def namesR : List (List UInt8) := [[73, 110, 105, 116, 105, 97, 108], [83, 116, 97, 114, 116, 105, 110, 103], [67, 108, 111, 115, 101, 100], [83, 116, 111, 112, 112, 101, 100], [67, 108, 111, 115, 105, 110, 103], [83, 116, 111, 112, 112, 105, 110, 103], [82, 101, 113, 83, 101, 110, 116], [65, 99, 107, 82, 99, 118, 100], [65, 99, 107, 83, 101, 110, 116], [79, 112, 101, 110, 101, 100]]
def nmR (s : Int) : List UInt8 := if 0 ≤ s ∧ s ≤ 9 then namesR.getD s.toNat [] else []
def nmT.q (k : Nat) : Option (D × St) := some (.v (.str (nmR k)), [])
def nrT.q (k : Nat) : Option (D × St) := some (.v (.str (nmR k)), [])
def rowsR : List (List (List Int)) := [
  [[2], [6, 5, 7], [-1], [-1], [-1], [-1], [-1], [-1], [-1], [-1]],
  [[-1], [-1], [0], [1, 3], [0], [1], [1], [1], [1], [1, 2]],
  [[1, 3], [1], [6, 5, 7], [3], [5], [5], [6], [7], [8], [9]],
  [[0], [0, 4], [2], [2], [4], [4], [4, 5, 10], [4, 5, 10], [4, 5, 10], [4, 2, 5, 10]],
  [[-1], [-1], [-1], [-1], [4, 10], [5, 10], [6, 7], [6, 7], [8, 7], [-1]],
  [[-1], [-1], [-1], [-1], [2, 4], [3, 4], [3, 4], [3, 4], [3, 4], [-1]],
  [[-1], [-1], [2, 11], [8, 5, 7, 8], [4], [5], [8, 8], [9, 8, 1], [8, 8], [8, 2, 7, 8]],
  [[-1], [-1], [2, 11], [6, 5, 7, 9], [4], [5], [6, 9], [7, 9], [6, 9], [6, 2, 7, 9]],
  [[-1], [-1], [2, 11], [3, 11], [4], [5], [7, 5], [6, 7], [9, 5, 1], [6, 2, 7]],
  [[-1], [-1], [2, 11], [3, 11], [4], [5], [6, 5, 7], [6, 7], [8, 5, 7], [6, 2, 7]],
  [[-1], [-1], [2, 11], [3, 11], [4, 11], [5, 11], [6, 11], [6, 11], [6, 11], [5, 2, 6, 11]],
  [[-1], [-1], [2], [3], [2, 4], [3, 4], [6], [6], [8], [6, 2, 7]],
  [[-1], [-1], [2, 12], [3, 12], [4, 12], [5, 12], [6, 12], [7, 12], [8, 12], [9, 12]],
  [[-1], [-1], [2], [3], [4], [5], [6], [6], [8], [9]],
  [[-1], [-1], [2, 4], [3, 4], [2, 4], [3, 4], [3, 4], [3, 4], [3, 4], [5, 2, 5, 10]],
  [[-1], [-1], [2], [3], [4], [5], [6], [7], [8], [9, 13]]]
def rwT.q (k : Nat) : Option (D × St) := some (.lin 1 ((rowsR.getD k []).map fun l => .slc 1 (i64s l)), [])
def T13 : List D → St → Option (D × St)
  | [.v (.int .i64 s), .v (.int .i64 e)], [] => some (nxD s e, [])
  | _, _ => none
def G2 : Prg := { fn := fnOf, prim := fun n => if n = 82 then some T13 else primOf n }
def reachR : List (List Bool) := [[true, true, true, true, true, true, true, true, true, true], [true, true, true, true, true, true, true, true, true, true], [true, true, true, true, true, true, true, true, true, true], [true, true, true, true, true, true, true, true, true, true], [true, true, true, true, true, true, true, true, true, true], [true, true, true, true, true, true, true, true, true, true], [true, true, true, true, true, true, true, true, true, true], [true, true, true, true, true, true, true, true, true, true], [true, true, true, true, true, true, true, true, true, true], [true, true, true, true, true, true, true, true, true, true]]
def rdR (s : Int) : List Bool := if 0 ≤ s ∧ s ≤ 9 then reachR.getD s.toNat [] else List.replicate 10 false
def rcR (s t : Int) : Bool := if 0 ≤ t ∧ t ≤ 9 then (rdR s).getD t.toNat false else false
end Go.Q
