/- The automaton: its table, and the closed runs (written by a program of ours). No condition. -/
import Derived.Test.YthldpjhmhjhpeaaDoorSf
import Derived.Test.YthldpjhmhjhpeaaDoorLz
set_option maxRecDepth 100000
set_option linter.unusedVariables false
namespace Go.Q
open SOp SCode

def i64s (l : List Int) : List V := l.map (.int .i64)
def tblF : List (List (Option (Int × List Int))) := [
  [some (2, []), some (6, [5, 7]), none, none, none, none, none, none, none, none],
  [none, none, some (0, []), some (1, [3]), some (0, []), some (1, []), some (1, []), some (1, []), some (1, []), some (1, [2])],
  [some (1, [3]), some (1, []), some (6, [5, 7]), some (3, []), some (5, []), some (5, []), some (6, []), some (7, []), some (8, []), some (9, [])],
  [some (0, []), some (0, [4]), some (2, []), some (2, []), some (4, []), some (4, []), some (4, [5, 10]), some (4, [5, 10]), some (4, [5, 10]), some (4, [2, 5, 10])],
  [none, none, none, none, some (4, [10]), some (5, [10]), some (6, [7]), some (6, [7]), some (8, [7]), none],
  [none, none, none, none, some (2, [4]), some (3, [4]), some (3, [4]), some (3, [4]), some (3, [4]), none],
  [none, none, some (2, [11]), some (8, [5, 7, 8]), some (4, []), some (5, []), some (8, [8]), some (9, [8, 1]), some (8, [8]), some (8, [2, 7, 8])],
  [none, none, some (2, [11]), some (6, [5, 7, 9]), some (4, []), some (5, []), some (6, [9]), some (7, [9]), some (6, [9]), some (6, [2, 7, 9])],
  [none, none, some (2, [11]), some (3, [11]), some (4, []), some (5, []), some (7, [5]), some (6, [7]), some (9, [5, 1]), some (6, [2, 7])],
  [none, none, some (2, [11]), some (3, [11]), some (4, []), some (5, []), some (6, [5, 7]), some (6, [7]), some (8, [5, 7]), some (6, [2, 7])],
  [none, none, some (2, [11]), some (3, [11]), some (4, [11]), some (5, [11]), some (6, [11]), some (6, [11]), some (6, [11]), some (5, [2, 6, 11])],
  [none, none, some (2, []), some (3, []), some (2, [4]), some (3, [4]), some (6, []), some (6, []), some (8, []), some (6, [2, 7])],
  [none, none, some (2, [12]), some (3, [12]), some (4, [12]), some (5, [12]), some (6, [12]), some (7, [12]), some (8, [12]), some (9, [12])],
  [none, none, some (2, []), some (3, []), some (4, []), some (5, []), some (6, []), some (6, []), some (8, []), some (9, [])],
  [none, none, some (2, [4]), some (3, [4]), some (2, [4]), some (3, [4]), some (3, [4]), some (3, [4]), some (3, [4]), some (5, [2, 5, 10])],
  [none, none, some (2, []), some (3, []), some (4, []), some (5, []), some (6, []), some (7, []), some (8, []), some (9, [13])]]
def cellR (s e : Nat) : Option (Int × List Int) := ((tblF[e]?).bind (·[s]?)).bind id
def nxR (s e : Int) : Int × List Int × Int := if 0 ≤ s ∧ s ≤ 9 ∧ 0 ≤ e ∧ e ≤ 15 then (match cellR s.toNat e.toNat with | some (m, a) => (m, a, 0) | none => (0, [], 11)) else (0, [], 1)
def nxD (s e : Int) : D := .tup [.v (.int .i64 (nxR s e).1), .lin 1 (i64s (nxR s e).2.1), .v (.int .i64 (nxR s e).2.2)]
def rxD (s e : Int) : D := .tup [.v (.int .i64 (nxR s e).1), if (nxR s e).2.2 = 0 then .v (.slc 1 (i64s (nxR s e).2.1)) else .lin 1 [], .v (.int .i64 (nxR s e).2.2)]
def Fa (P : Nat → Prop) : Nat → Prop | 0 => True | n + 1 => P n ∧ Fa P n
theorem Fa.s {P : Nat → Prop} {n : Nat} (h : P n) (r : Fa P n) : Fa P (n + 1) := ⟨h, r⟩
theorem Fa.z {P : Nat → Prop} : Fa P 0 := trivial
theorem Fa.get {P : Nat → Prop} : ∀ {n : Nat}, Fa P n → ∀ k, k < n → P k
  | 0, _, k, h => absurd h (by omega)
  | n + 1, h, k, hk => if e : k = n then e ▸ h.1 else h.2.get k (by omega)
def nxT.p (k : Nat) : Option (D × St) := runN G 30 13 [.v (.int .i64 ((k % 10 : Nat) : Int)), .v (.int .i64 ((k / 10 : Nat) : Int))] []
def nxT.q (k : Nat) : Option (D × St) := some (nxD ((k % 10 : Nat) : Int) ((k / 10 : Nat) : Int), [])
theorem nxT.t0 : nxT.p 0 = nxT.q 0 := by kernel_rfl
theorem nxT.t1 : nxT.p 1 = nxT.q 1 := by kernel_rfl
theorem nxT.t2 : nxT.p 2 = nxT.q 2 := by kernel_rfl
theorem nxT.t3 : nxT.p 3 = nxT.q 3 := by kernel_rfl
theorem nxT.t4 : nxT.p 4 = nxT.q 4 := by kernel_rfl
theorem nxT.t5 : nxT.p 5 = nxT.q 5 := by kernel_rfl
theorem nxT.t6 : nxT.p 6 = nxT.q 6 := by kernel_rfl
theorem nxT.t7 : nxT.p 7 = nxT.q 7 := by kernel_rfl
theorem nxT.t8 : nxT.p 8 = nxT.q 8 := by kernel_rfl
theorem nxT.t9 : nxT.p 9 = nxT.q 9 := by kernel_rfl
theorem nxT.t10 : nxT.p 10 = nxT.q 10 := by kernel_rfl
theorem nxT.t11 : nxT.p 11 = nxT.q 11 := by kernel_rfl
theorem nxT.t12 : nxT.p 12 = nxT.q 12 := by kernel_rfl
theorem nxT.t13 : nxT.p 13 = nxT.q 13 := by kernel_rfl
theorem nxT.t14 : nxT.p 14 = nxT.q 14 := by kernel_rfl
theorem nxT.t15 : nxT.p 15 = nxT.q 15 := by kernel_rfl
theorem nxT.t16 : nxT.p 16 = nxT.q 16 := by kernel_rfl
theorem nxT.t17 : nxT.p 17 = nxT.q 17 := by kernel_rfl
theorem nxT.t18 : nxT.p 18 = nxT.q 18 := by kernel_rfl
theorem nxT.t19 : nxT.p 19 = nxT.q 19 := by kernel_rfl
theorem nxT.t20 : nxT.p 20 = nxT.q 20 := by kernel_rfl
theorem nxT.t21 : nxT.p 21 = nxT.q 21 := by kernel_rfl
theorem nxT.t22 : nxT.p 22 = nxT.q 22 := by kernel_rfl
theorem nxT.t23 : nxT.p 23 = nxT.q 23 := by kernel_rfl
theorem nxT.t24 : nxT.p 24 = nxT.q 24 := by kernel_rfl
theorem nxT.t25 : nxT.p 25 = nxT.q 25 := by kernel_rfl
theorem nxT.t26 : nxT.p 26 = nxT.q 26 := by kernel_rfl
theorem nxT.t27 : nxT.p 27 = nxT.q 27 := by kernel_rfl
theorem nxT.t28 : nxT.p 28 = nxT.q 28 := by kernel_rfl
theorem nxT.t29 : nxT.p 29 = nxT.q 29 := by kernel_rfl
theorem nxT.t30 : nxT.p 30 = nxT.q 30 := by kernel_rfl
theorem nxT.t31 : nxT.p 31 = nxT.q 31 := by kernel_rfl
theorem nxT.t32 : nxT.p 32 = nxT.q 32 := by kernel_rfl
theorem nxT.t33 : nxT.p 33 = nxT.q 33 := by kernel_rfl
theorem nxT.t34 : nxT.p 34 = nxT.q 34 := by kernel_rfl
theorem nxT.t35 : nxT.p 35 = nxT.q 35 := by kernel_rfl
theorem nxT.t36 : nxT.p 36 = nxT.q 36 := by kernel_rfl
theorem nxT.t37 : nxT.p 37 = nxT.q 37 := by kernel_rfl
theorem nxT.t38 : nxT.p 38 = nxT.q 38 := by kernel_rfl
theorem nxT.t39 : nxT.p 39 = nxT.q 39 := by kernel_rfl
theorem nxT.t40 : nxT.p 40 = nxT.q 40 := by kernel_rfl
theorem nxT.t41 : nxT.p 41 = nxT.q 41 := by kernel_rfl
theorem nxT.t42 : nxT.p 42 = nxT.q 42 := by kernel_rfl
theorem nxT.t43 : nxT.p 43 = nxT.q 43 := by kernel_rfl
theorem nxT.t44 : nxT.p 44 = nxT.q 44 := by kernel_rfl
theorem nxT.t45 : nxT.p 45 = nxT.q 45 := by kernel_rfl
theorem nxT.t46 : nxT.p 46 = nxT.q 46 := by kernel_rfl
theorem nxT.t47 : nxT.p 47 = nxT.q 47 := by kernel_rfl
theorem nxT.t48 : nxT.p 48 = nxT.q 48 := by kernel_rfl
theorem nxT.t49 : nxT.p 49 = nxT.q 49 := by kernel_rfl
theorem nxT.t50 : nxT.p 50 = nxT.q 50 := by kernel_rfl
theorem nxT.t51 : nxT.p 51 = nxT.q 51 := by kernel_rfl
theorem nxT.t52 : nxT.p 52 = nxT.q 52 := by kernel_rfl
theorem nxT.t53 : nxT.p 53 = nxT.q 53 := by kernel_rfl
theorem nxT.t54 : nxT.p 54 = nxT.q 54 := by kernel_rfl
theorem nxT.t55 : nxT.p 55 = nxT.q 55 := by kernel_rfl
theorem nxT.t56 : nxT.p 56 = nxT.q 56 := by kernel_rfl
theorem nxT.t57 : nxT.p 57 = nxT.q 57 := by kernel_rfl
theorem nxT.t58 : nxT.p 58 = nxT.q 58 := by kernel_rfl
theorem nxT.t59 : nxT.p 59 = nxT.q 59 := by kernel_rfl
theorem nxT.t60 : nxT.p 60 = nxT.q 60 := by kernel_rfl
theorem nxT.t61 : nxT.p 61 = nxT.q 61 := by kernel_rfl
theorem nxT.t62 : nxT.p 62 = nxT.q 62 := by kernel_rfl
theorem nxT.t63 : nxT.p 63 = nxT.q 63 := by kernel_rfl
theorem nxT.t64 : nxT.p 64 = nxT.q 64 := by kernel_rfl
theorem nxT.t65 : nxT.p 65 = nxT.q 65 := by kernel_rfl
theorem nxT.t66 : nxT.p 66 = nxT.q 66 := by kernel_rfl
theorem nxT.t67 : nxT.p 67 = nxT.q 67 := by kernel_rfl
theorem nxT.t68 : nxT.p 68 = nxT.q 68 := by kernel_rfl
theorem nxT.t69 : nxT.p 69 = nxT.q 69 := by kernel_rfl
theorem nxT.t70 : nxT.p 70 = nxT.q 70 := by kernel_rfl
theorem nxT.t71 : nxT.p 71 = nxT.q 71 := by kernel_rfl
theorem nxT.t72 : nxT.p 72 = nxT.q 72 := by kernel_rfl
theorem nxT.t73 : nxT.p 73 = nxT.q 73 := by kernel_rfl
theorem nxT.t74 : nxT.p 74 = nxT.q 74 := by kernel_rfl
theorem nxT.t75 : nxT.p 75 = nxT.q 75 := by kernel_rfl
theorem nxT.t76 : nxT.p 76 = nxT.q 76 := by kernel_rfl
theorem nxT.t77 : nxT.p 77 = nxT.q 77 := by kernel_rfl
theorem nxT.t78 : nxT.p 78 = nxT.q 78 := by kernel_rfl
theorem nxT.t79 : nxT.p 79 = nxT.q 79 := by kernel_rfl
theorem nxT.t80 : nxT.p 80 = nxT.q 80 := by kernel_rfl
theorem nxT.t81 : nxT.p 81 = nxT.q 81 := by kernel_rfl
theorem nxT.t82 : nxT.p 82 = nxT.q 82 := by kernel_rfl
theorem nxT.t83 : nxT.p 83 = nxT.q 83 := by kernel_rfl
theorem nxT.t84 : nxT.p 84 = nxT.q 84 := by kernel_rfl
theorem nxT.t85 : nxT.p 85 = nxT.q 85 := by kernel_rfl
theorem nxT.t86 : nxT.p 86 = nxT.q 86 := by kernel_rfl
theorem nxT.t87 : nxT.p 87 = nxT.q 87 := by kernel_rfl
theorem nxT.t88 : nxT.p 88 = nxT.q 88 := by kernel_rfl
theorem nxT.t89 : nxT.p 89 = nxT.q 89 := by kernel_rfl
theorem nxT.t90 : nxT.p 90 = nxT.q 90 := by kernel_rfl
theorem nxT.t91 : nxT.p 91 = nxT.q 91 := by kernel_rfl
theorem nxT.t92 : nxT.p 92 = nxT.q 92 := by kernel_rfl
theorem nxT.t93 : nxT.p 93 = nxT.q 93 := by kernel_rfl
theorem nxT.t94 : nxT.p 94 = nxT.q 94 := by kernel_rfl
theorem nxT.t95 : nxT.p 95 = nxT.q 95 := by kernel_rfl
theorem nxT.t96 : nxT.p 96 = nxT.q 96 := by kernel_rfl
theorem nxT.t97 : nxT.p 97 = nxT.q 97 := by kernel_rfl
theorem nxT.t98 : nxT.p 98 = nxT.q 98 := by kernel_rfl
theorem nxT.t99 : nxT.p 99 = nxT.q 99 := by kernel_rfl
theorem nxT.t100 : nxT.p 100 = nxT.q 100 := by kernel_rfl
theorem nxT.t101 : nxT.p 101 = nxT.q 101 := by kernel_rfl
theorem nxT.t102 : nxT.p 102 = nxT.q 102 := by kernel_rfl
theorem nxT.t103 : nxT.p 103 = nxT.q 103 := by kernel_rfl
theorem nxT.t104 : nxT.p 104 = nxT.q 104 := by kernel_rfl
theorem nxT.t105 : nxT.p 105 = nxT.q 105 := by kernel_rfl
theorem nxT.t106 : nxT.p 106 = nxT.q 106 := by kernel_rfl
theorem nxT.t107 : nxT.p 107 = nxT.q 107 := by kernel_rfl
theorem nxT.t108 : nxT.p 108 = nxT.q 108 := by kernel_rfl
theorem nxT.t109 : nxT.p 109 = nxT.q 109 := by kernel_rfl
theorem nxT.t110 : nxT.p 110 = nxT.q 110 := by kernel_rfl
theorem nxT.t111 : nxT.p 111 = nxT.q 111 := by kernel_rfl
theorem nxT.t112 : nxT.p 112 = nxT.q 112 := by kernel_rfl
theorem nxT.t113 : nxT.p 113 = nxT.q 113 := by kernel_rfl
theorem nxT.t114 : nxT.p 114 = nxT.q 114 := by kernel_rfl
theorem nxT.t115 : nxT.p 115 = nxT.q 115 := by kernel_rfl
theorem nxT.t116 : nxT.p 116 = nxT.q 116 := by kernel_rfl
theorem nxT.t117 : nxT.p 117 = nxT.q 117 := by kernel_rfl
theorem nxT.t118 : nxT.p 118 = nxT.q 118 := by kernel_rfl
theorem nxT.t119 : nxT.p 119 = nxT.q 119 := by kernel_rfl
theorem nxT.t120 : nxT.p 120 = nxT.q 120 := by kernel_rfl
theorem nxT.t121 : nxT.p 121 = nxT.q 121 := by kernel_rfl
theorem nxT.t122 : nxT.p 122 = nxT.q 122 := by kernel_rfl
theorem nxT.t123 : nxT.p 123 = nxT.q 123 := by kernel_rfl
theorem nxT.t124 : nxT.p 124 = nxT.q 124 := by kernel_rfl
theorem nxT.t125 : nxT.p 125 = nxT.q 125 := by kernel_rfl
theorem nxT.t126 : nxT.p 126 = nxT.q 126 := by kernel_rfl
theorem nxT.t127 : nxT.p 127 = nxT.q 127 := by kernel_rfl
theorem nxT.t128 : nxT.p 128 = nxT.q 128 := by kernel_rfl
theorem nxT.t129 : nxT.p 129 = nxT.q 129 := by kernel_rfl
theorem nxT.t130 : nxT.p 130 = nxT.q 130 := by kernel_rfl
theorem nxT.t131 : nxT.p 131 = nxT.q 131 := by kernel_rfl
theorem nxT.t132 : nxT.p 132 = nxT.q 132 := by kernel_rfl
theorem nxT.t133 : nxT.p 133 = nxT.q 133 := by kernel_rfl
theorem nxT.t134 : nxT.p 134 = nxT.q 134 := by kernel_rfl
theorem nxT.t135 : nxT.p 135 = nxT.q 135 := by kernel_rfl
theorem nxT.t136 : nxT.p 136 = nxT.q 136 := by kernel_rfl
theorem nxT.t137 : nxT.p 137 = nxT.q 137 := by kernel_rfl
theorem nxT.t138 : nxT.p 138 = nxT.q 138 := by kernel_rfl
theorem nxT.t139 : nxT.p 139 = nxT.q 139 := by kernel_rfl
theorem nxT.t140 : nxT.p 140 = nxT.q 140 := by kernel_rfl
theorem nxT.t141 : nxT.p 141 = nxT.q 141 := by kernel_rfl
theorem nxT.t142 : nxT.p 142 = nxT.q 142 := by kernel_rfl
theorem nxT.t143 : nxT.p 143 = nxT.q 143 := by kernel_rfl
theorem nxT.t144 : nxT.p 144 = nxT.q 144 := by kernel_rfl
theorem nxT.t145 : nxT.p 145 = nxT.q 145 := by kernel_rfl
theorem nxT.t146 : nxT.p 146 = nxT.q 146 := by kernel_rfl
theorem nxT.t147 : nxT.p 147 = nxT.q 147 := by kernel_rfl
theorem nxT.t148 : nxT.p 148 = nxT.q 148 := by kernel_rfl
theorem nxT.t149 : nxT.p 149 = nxT.q 149 := by kernel_rfl
theorem nxT.t150 : nxT.p 150 = nxT.q 150 := by kernel_rfl
theorem nxT.t151 : nxT.p 151 = nxT.q 151 := by kernel_rfl
theorem nxT.t152 : nxT.p 152 = nxT.q 152 := by kernel_rfl
theorem nxT.t153 : nxT.p 153 = nxT.q 153 := by kernel_rfl
theorem nxT.t154 : nxT.p 154 = nxT.q 154 := by kernel_rfl
theorem nxT.t155 : nxT.p 155 = nxT.q 155 := by kernel_rfl
theorem nxT.t156 : nxT.p 156 = nxT.q 156 := by kernel_rfl
theorem nxT.t157 : nxT.p 157 = nxT.q 157 := by kernel_rfl
theorem nxT.t158 : nxT.p 158 = nxT.q 158 := by kernel_rfl
theorem nxT.t159 : nxT.p 159 = nxT.q 159 := by kernel_rfl
theorem nxT.all : Fa (fun k => nxT.p k = nxT.q k) 160 := (Fa.s nxT.t159 (Fa.s nxT.t158 (Fa.s nxT.t157 (Fa.s nxT.t156 (Fa.s nxT.t155 (Fa.s nxT.t154 (Fa.s nxT.t153 (Fa.s nxT.t152 (Fa.s nxT.t151 (Fa.s nxT.t150 (Fa.s nxT.t149 (Fa.s nxT.t148 (Fa.s nxT.t147 (Fa.s nxT.t146 (Fa.s nxT.t145 (Fa.s nxT.t144 (Fa.s nxT.t143 (Fa.s nxT.t142 (Fa.s nxT.t141 (Fa.s nxT.t140 (Fa.s nxT.t139 (Fa.s nxT.t138 (Fa.s nxT.t137 (Fa.s nxT.t136 (Fa.s nxT.t135 (Fa.s nxT.t134 (Fa.s nxT.t133 (Fa.s nxT.t132 (Fa.s nxT.t131 (Fa.s nxT.t130 (Fa.s nxT.t129 (Fa.s nxT.t128 (Fa.s nxT.t127 (Fa.s nxT.t126 (Fa.s nxT.t125 (Fa.s nxT.t124 (Fa.s nxT.t123 (Fa.s nxT.t122 (Fa.s nxT.t121 (Fa.s nxT.t120 (Fa.s nxT.t119 (Fa.s nxT.t118 (Fa.s nxT.t117 (Fa.s nxT.t116 (Fa.s nxT.t115 (Fa.s nxT.t114 (Fa.s nxT.t113 (Fa.s nxT.t112 (Fa.s nxT.t111 (Fa.s nxT.t110 (Fa.s nxT.t109 (Fa.s nxT.t108 (Fa.s nxT.t107 (Fa.s nxT.t106 (Fa.s nxT.t105 (Fa.s nxT.t104 (Fa.s nxT.t103 (Fa.s nxT.t102 (Fa.s nxT.t101 (Fa.s nxT.t100 (Fa.s nxT.t99 (Fa.s nxT.t98 (Fa.s nxT.t97 (Fa.s nxT.t96 (Fa.s nxT.t95 (Fa.s nxT.t94 (Fa.s nxT.t93 (Fa.s nxT.t92 (Fa.s nxT.t91 (Fa.s nxT.t90 (Fa.s nxT.t89 (Fa.s nxT.t88 (Fa.s nxT.t87 (Fa.s nxT.t86 (Fa.s nxT.t85 (Fa.s nxT.t84 (Fa.s nxT.t83 (Fa.s nxT.t82 (Fa.s nxT.t81 (Fa.s nxT.t80 (Fa.s nxT.t79 (Fa.s nxT.t78 (Fa.s nxT.t77 (Fa.s nxT.t76 (Fa.s nxT.t75 (Fa.s nxT.t74 (Fa.s nxT.t73 (Fa.s nxT.t72 (Fa.s nxT.t71 (Fa.s nxT.t70 (Fa.s nxT.t69 (Fa.s nxT.t68 (Fa.s nxT.t67 (Fa.s nxT.t66 (Fa.s nxT.t65 (Fa.s nxT.t64 (Fa.s nxT.t63 (Fa.s nxT.t62 (Fa.s nxT.t61 (Fa.s nxT.t60 (Fa.s nxT.t59 (Fa.s nxT.t58 (Fa.s nxT.t57 (Fa.s nxT.t56 (Fa.s nxT.t55 (Fa.s nxT.t54 (Fa.s nxT.t53 (Fa.s nxT.t52 (Fa.s nxT.t51 (Fa.s nxT.t50 (Fa.s nxT.t49 (Fa.s nxT.t48 (Fa.s nxT.t47 (Fa.s nxT.t46 (Fa.s nxT.t45 (Fa.s nxT.t44 (Fa.s nxT.t43 (Fa.s nxT.t42 (Fa.s nxT.t41 (Fa.s nxT.t40 (Fa.s nxT.t39 (Fa.s nxT.t38 (Fa.s nxT.t37 (Fa.s nxT.t36 (Fa.s nxT.t35 (Fa.s nxT.t34 (Fa.s nxT.t33 (Fa.s nxT.t32 (Fa.s nxT.t31 (Fa.s nxT.t30 (Fa.s nxT.t29 (Fa.s nxT.t28 (Fa.s nxT.t27 (Fa.s nxT.t26 (Fa.s nxT.t25 (Fa.s nxT.t24 (Fa.s nxT.t23 (Fa.s nxT.t22 (Fa.s nxT.t21 (Fa.s nxT.t20 (Fa.s nxT.t19 (Fa.s nxT.t18 (Fa.s nxT.t17 (Fa.s nxT.t16 (Fa.s nxT.t15 (Fa.s nxT.t14 (Fa.s nxT.t13 (Fa.s nxT.t12 (Fa.s nxT.t11 (Fa.s nxT.t10 (Fa.s nxT.t9 (Fa.s nxT.t8 (Fa.s nxT.t7 (Fa.s nxT.t6 (Fa.s nxT.t5 (Fa.s nxT.t4 (Fa.s nxT.t3 (Fa.s nxT.t2 (Fa.s nxT.t1 (Fa.s nxT.t0 Fa.z))))))))))))))))))))))))))))))))))))))))))))))))))))))))))))))))))))))))))))))))))))))))))))))))))))))))))))))))))))))))))))))))))))))))))))))))))))))))))))))))
theorem nxT.at (k : Nat) (h : k < 160) : nxT.p k = nxT.q k := nxT.all.get k h
def rxT.p (k : Nat) : Option (D × St) := runN G 30 14 [.v (.int .i64 ((k % 10 : Nat) : Int)), .v (.int .i64 ((k / 10 : Nat) : Int))] []
def rxT.q (k : Nat) : Option (D × St) := some (rxD ((k % 10 : Nat) : Int) ((k / 10 : Nat) : Int), [])
theorem rxT.t0 : rxT.p 0 = rxT.q 0 := by kernel_rfl
theorem rxT.t1 : rxT.p 1 = rxT.q 1 := by kernel_rfl
theorem rxT.t2 : rxT.p 2 = rxT.q 2 := by kernel_rfl
theorem rxT.t3 : rxT.p 3 = rxT.q 3 := by kernel_rfl
theorem rxT.t4 : rxT.p 4 = rxT.q 4 := by kernel_rfl
theorem rxT.t5 : rxT.p 5 = rxT.q 5 := by kernel_rfl
theorem rxT.t6 : rxT.p 6 = rxT.q 6 := by kernel_rfl
theorem rxT.t7 : rxT.p 7 = rxT.q 7 := by kernel_rfl
theorem rxT.t8 : rxT.p 8 = rxT.q 8 := by kernel_rfl
theorem rxT.t9 : rxT.p 9 = rxT.q 9 := by kernel_rfl
theorem rxT.t10 : rxT.p 10 = rxT.q 10 := by kernel_rfl
theorem rxT.t11 : rxT.p 11 = rxT.q 11 := by kernel_rfl
theorem rxT.t12 : rxT.p 12 = rxT.q 12 := by kernel_rfl
theorem rxT.t13 : rxT.p 13 = rxT.q 13 := by kernel_rfl
theorem rxT.t14 : rxT.p 14 = rxT.q 14 := by kernel_rfl
theorem rxT.t15 : rxT.p 15 = rxT.q 15 := by kernel_rfl
theorem rxT.t16 : rxT.p 16 = rxT.q 16 := by kernel_rfl
theorem rxT.t17 : rxT.p 17 = rxT.q 17 := by kernel_rfl
theorem rxT.t18 : rxT.p 18 = rxT.q 18 := by kernel_rfl
theorem rxT.t19 : rxT.p 19 = rxT.q 19 := by kernel_rfl
theorem rxT.t20 : rxT.p 20 = rxT.q 20 := by kernel_rfl
theorem rxT.t21 : rxT.p 21 = rxT.q 21 := by kernel_rfl
theorem rxT.t22 : rxT.p 22 = rxT.q 22 := by kernel_rfl
theorem rxT.t23 : rxT.p 23 = rxT.q 23 := by kernel_rfl
theorem rxT.t24 : rxT.p 24 = rxT.q 24 := by kernel_rfl
theorem rxT.t25 : rxT.p 25 = rxT.q 25 := by kernel_rfl
theorem rxT.t26 : rxT.p 26 = rxT.q 26 := by kernel_rfl
theorem rxT.t27 : rxT.p 27 = rxT.q 27 := by kernel_rfl
theorem rxT.t28 : rxT.p 28 = rxT.q 28 := by kernel_rfl
theorem rxT.t29 : rxT.p 29 = rxT.q 29 := by kernel_rfl
theorem rxT.t30 : rxT.p 30 = rxT.q 30 := by kernel_rfl
theorem rxT.t31 : rxT.p 31 = rxT.q 31 := by kernel_rfl
theorem rxT.t32 : rxT.p 32 = rxT.q 32 := by kernel_rfl
theorem rxT.t33 : rxT.p 33 = rxT.q 33 := by kernel_rfl
theorem rxT.t34 : rxT.p 34 = rxT.q 34 := by kernel_rfl
theorem rxT.t35 : rxT.p 35 = rxT.q 35 := by kernel_rfl
theorem rxT.t36 : rxT.p 36 = rxT.q 36 := by kernel_rfl
theorem rxT.t37 : rxT.p 37 = rxT.q 37 := by kernel_rfl
theorem rxT.t38 : rxT.p 38 = rxT.q 38 := by kernel_rfl
theorem rxT.t39 : rxT.p 39 = rxT.q 39 := by kernel_rfl
theorem rxT.t40 : rxT.p 40 = rxT.q 40 := by kernel_rfl
theorem rxT.t41 : rxT.p 41 = rxT.q 41 := by kernel_rfl
theorem rxT.t42 : rxT.p 42 = rxT.q 42 := by kernel_rfl
theorem rxT.t43 : rxT.p 43 = rxT.q 43 := by kernel_rfl
theorem rxT.t44 : rxT.p 44 = rxT.q 44 := by kernel_rfl
theorem rxT.t45 : rxT.p 45 = rxT.q 45 := by kernel_rfl
theorem rxT.t46 : rxT.p 46 = rxT.q 46 := by kernel_rfl
theorem rxT.t47 : rxT.p 47 = rxT.q 47 := by kernel_rfl
theorem rxT.t48 : rxT.p 48 = rxT.q 48 := by kernel_rfl
theorem rxT.t49 : rxT.p 49 = rxT.q 49 := by kernel_rfl
theorem rxT.t50 : rxT.p 50 = rxT.q 50 := by kernel_rfl
theorem rxT.t51 : rxT.p 51 = rxT.q 51 := by kernel_rfl
theorem rxT.t52 : rxT.p 52 = rxT.q 52 := by kernel_rfl
theorem rxT.t53 : rxT.p 53 = rxT.q 53 := by kernel_rfl
theorem rxT.t54 : rxT.p 54 = rxT.q 54 := by kernel_rfl
theorem rxT.t55 : rxT.p 55 = rxT.q 55 := by kernel_rfl
theorem rxT.t56 : rxT.p 56 = rxT.q 56 := by kernel_rfl
theorem rxT.t57 : rxT.p 57 = rxT.q 57 := by kernel_rfl
theorem rxT.t58 : rxT.p 58 = rxT.q 58 := by kernel_rfl
theorem rxT.t59 : rxT.p 59 = rxT.q 59 := by kernel_rfl
theorem rxT.t60 : rxT.p 60 = rxT.q 60 := by kernel_rfl
theorem rxT.t61 : rxT.p 61 = rxT.q 61 := by kernel_rfl
theorem rxT.t62 : rxT.p 62 = rxT.q 62 := by kernel_rfl
theorem rxT.t63 : rxT.p 63 = rxT.q 63 := by kernel_rfl
theorem rxT.t64 : rxT.p 64 = rxT.q 64 := by kernel_rfl
theorem rxT.t65 : rxT.p 65 = rxT.q 65 := by kernel_rfl
theorem rxT.t66 : rxT.p 66 = rxT.q 66 := by kernel_rfl
theorem rxT.t67 : rxT.p 67 = rxT.q 67 := by kernel_rfl
theorem rxT.t68 : rxT.p 68 = rxT.q 68 := by kernel_rfl
theorem rxT.t69 : rxT.p 69 = rxT.q 69 := by kernel_rfl
theorem rxT.t70 : rxT.p 70 = rxT.q 70 := by kernel_rfl
theorem rxT.t71 : rxT.p 71 = rxT.q 71 := by kernel_rfl
theorem rxT.t72 : rxT.p 72 = rxT.q 72 := by kernel_rfl
theorem rxT.t73 : rxT.p 73 = rxT.q 73 := by kernel_rfl
theorem rxT.t74 : rxT.p 74 = rxT.q 74 := by kernel_rfl
theorem rxT.t75 : rxT.p 75 = rxT.q 75 := by kernel_rfl
theorem rxT.t76 : rxT.p 76 = rxT.q 76 := by kernel_rfl
theorem rxT.t77 : rxT.p 77 = rxT.q 77 := by kernel_rfl
theorem rxT.t78 : rxT.p 78 = rxT.q 78 := by kernel_rfl
theorem rxT.t79 : rxT.p 79 = rxT.q 79 := by kernel_rfl
theorem rxT.t80 : rxT.p 80 = rxT.q 80 := by kernel_rfl
theorem rxT.t81 : rxT.p 81 = rxT.q 81 := by kernel_rfl
theorem rxT.t82 : rxT.p 82 = rxT.q 82 := by kernel_rfl
theorem rxT.t83 : rxT.p 83 = rxT.q 83 := by kernel_rfl
theorem rxT.t84 : rxT.p 84 = rxT.q 84 := by kernel_rfl
theorem rxT.t85 : rxT.p 85 = rxT.q 85 := by kernel_rfl
theorem rxT.t86 : rxT.p 86 = rxT.q 86 := by kernel_rfl
theorem rxT.t87 : rxT.p 87 = rxT.q 87 := by kernel_rfl
theorem rxT.t88 : rxT.p 88 = rxT.q 88 := by kernel_rfl
theorem rxT.t89 : rxT.p 89 = rxT.q 89 := by kernel_rfl
theorem rxT.t90 : rxT.p 90 = rxT.q 90 := by kernel_rfl
theorem rxT.t91 : rxT.p 91 = rxT.q 91 := by kernel_rfl
theorem rxT.t92 : rxT.p 92 = rxT.q 92 := by kernel_rfl
theorem rxT.t93 : rxT.p 93 = rxT.q 93 := by kernel_rfl
theorem rxT.t94 : rxT.p 94 = rxT.q 94 := by kernel_rfl
theorem rxT.t95 : rxT.p 95 = rxT.q 95 := by kernel_rfl
theorem rxT.t96 : rxT.p 96 = rxT.q 96 := by kernel_rfl
theorem rxT.t97 : rxT.p 97 = rxT.q 97 := by kernel_rfl
theorem rxT.t98 : rxT.p 98 = rxT.q 98 := by kernel_rfl
theorem rxT.t99 : rxT.p 99 = rxT.q 99 := by kernel_rfl
theorem rxT.t100 : rxT.p 100 = rxT.q 100 := by kernel_rfl
theorem rxT.t101 : rxT.p 101 = rxT.q 101 := by kernel_rfl
theorem rxT.t102 : rxT.p 102 = rxT.q 102 := by kernel_rfl
theorem rxT.t103 : rxT.p 103 = rxT.q 103 := by kernel_rfl
theorem rxT.t104 : rxT.p 104 = rxT.q 104 := by kernel_rfl
theorem rxT.t105 : rxT.p 105 = rxT.q 105 := by kernel_rfl
theorem rxT.t106 : rxT.p 106 = rxT.q 106 := by kernel_rfl
theorem rxT.t107 : rxT.p 107 = rxT.q 107 := by kernel_rfl
theorem rxT.t108 : rxT.p 108 = rxT.q 108 := by kernel_rfl
theorem rxT.t109 : rxT.p 109 = rxT.q 109 := by kernel_rfl
theorem rxT.t110 : rxT.p 110 = rxT.q 110 := by kernel_rfl
theorem rxT.t111 : rxT.p 111 = rxT.q 111 := by kernel_rfl
theorem rxT.t112 : rxT.p 112 = rxT.q 112 := by kernel_rfl
theorem rxT.t113 : rxT.p 113 = rxT.q 113 := by kernel_rfl
theorem rxT.t114 : rxT.p 114 = rxT.q 114 := by kernel_rfl
theorem rxT.t115 : rxT.p 115 = rxT.q 115 := by kernel_rfl
theorem rxT.t116 : rxT.p 116 = rxT.q 116 := by kernel_rfl
theorem rxT.t117 : rxT.p 117 = rxT.q 117 := by kernel_rfl
theorem rxT.t118 : rxT.p 118 = rxT.q 118 := by kernel_rfl
theorem rxT.t119 : rxT.p 119 = rxT.q 119 := by kernel_rfl
theorem rxT.t120 : rxT.p 120 = rxT.q 120 := by kernel_rfl
theorem rxT.t121 : rxT.p 121 = rxT.q 121 := by kernel_rfl
theorem rxT.t122 : rxT.p 122 = rxT.q 122 := by kernel_rfl
theorem rxT.t123 : rxT.p 123 = rxT.q 123 := by kernel_rfl
theorem rxT.t124 : rxT.p 124 = rxT.q 124 := by kernel_rfl
theorem rxT.t125 : rxT.p 125 = rxT.q 125 := by kernel_rfl
theorem rxT.t126 : rxT.p 126 = rxT.q 126 := by kernel_rfl
theorem rxT.t127 : rxT.p 127 = rxT.q 127 := by kernel_rfl
theorem rxT.t128 : rxT.p 128 = rxT.q 128 := by kernel_rfl
theorem rxT.t129 : rxT.p 129 = rxT.q 129 := by kernel_rfl
theorem rxT.t130 : rxT.p 130 = rxT.q 130 := by kernel_rfl
theorem rxT.t131 : rxT.p 131 = rxT.q 131 := by kernel_rfl
theorem rxT.t132 : rxT.p 132 = rxT.q 132 := by kernel_rfl
theorem rxT.t133 : rxT.p 133 = rxT.q 133 := by kernel_rfl
theorem rxT.t134 : rxT.p 134 = rxT.q 134 := by kernel_rfl
theorem rxT.t135 : rxT.p 135 = rxT.q 135 := by kernel_rfl
theorem rxT.t136 : rxT.p 136 = rxT.q 136 := by kernel_rfl
theorem rxT.t137 : rxT.p 137 = rxT.q 137 := by kernel_rfl
theorem rxT.t138 : rxT.p 138 = rxT.q 138 := by kernel_rfl
theorem rxT.t139 : rxT.p 139 = rxT.q 139 := by kernel_rfl
theorem rxT.t140 : rxT.p 140 = rxT.q 140 := by kernel_rfl
theorem rxT.t141 : rxT.p 141 = rxT.q 141 := by kernel_rfl
theorem rxT.t142 : rxT.p 142 = rxT.q 142 := by kernel_rfl
theorem rxT.t143 : rxT.p 143 = rxT.q 143 := by kernel_rfl
theorem rxT.t144 : rxT.p 144 = rxT.q 144 := by kernel_rfl
theorem rxT.t145 : rxT.p 145 = rxT.q 145 := by kernel_rfl
theorem rxT.t146 : rxT.p 146 = rxT.q 146 := by kernel_rfl
theorem rxT.t147 : rxT.p 147 = rxT.q 147 := by kernel_rfl
theorem rxT.t148 : rxT.p 148 = rxT.q 148 := by kernel_rfl
theorem rxT.t149 : rxT.p 149 = rxT.q 149 := by kernel_rfl
theorem rxT.t150 : rxT.p 150 = rxT.q 150 := by kernel_rfl
theorem rxT.t151 : rxT.p 151 = rxT.q 151 := by kernel_rfl
theorem rxT.t152 : rxT.p 152 = rxT.q 152 := by kernel_rfl
theorem rxT.t153 : rxT.p 153 = rxT.q 153 := by kernel_rfl
theorem rxT.t154 : rxT.p 154 = rxT.q 154 := by kernel_rfl
theorem rxT.t155 : rxT.p 155 = rxT.q 155 := by kernel_rfl
theorem rxT.t156 : rxT.p 156 = rxT.q 156 := by kernel_rfl
theorem rxT.t157 : rxT.p 157 = rxT.q 157 := by kernel_rfl
theorem rxT.t158 : rxT.p 158 = rxT.q 158 := by kernel_rfl
theorem rxT.t159 : rxT.p 159 = rxT.q 159 := by kernel_rfl
theorem rxT.all : Fa (fun k => rxT.p k = rxT.q k) 160 := (Fa.s rxT.t159 (Fa.s rxT.t158 (Fa.s rxT.t157 (Fa.s rxT.t156 (Fa.s rxT.t155 (Fa.s rxT.t154 (Fa.s rxT.t153 (Fa.s rxT.t152 (Fa.s rxT.t151 (Fa.s rxT.t150 (Fa.s rxT.t149 (Fa.s rxT.t148 (Fa.s rxT.t147 (Fa.s rxT.t146 (Fa.s rxT.t145 (Fa.s rxT.t144 (Fa.s rxT.t143 (Fa.s rxT.t142 (Fa.s rxT.t141 (Fa.s rxT.t140 (Fa.s rxT.t139 (Fa.s rxT.t138 (Fa.s rxT.t137 (Fa.s rxT.t136 (Fa.s rxT.t135 (Fa.s rxT.t134 (Fa.s rxT.t133 (Fa.s rxT.t132 (Fa.s rxT.t131 (Fa.s rxT.t130 (Fa.s rxT.t129 (Fa.s rxT.t128 (Fa.s rxT.t127 (Fa.s rxT.t126 (Fa.s rxT.t125 (Fa.s rxT.t124 (Fa.s rxT.t123 (Fa.s rxT.t122 (Fa.s rxT.t121 (Fa.s rxT.t120 (Fa.s rxT.t119 (Fa.s rxT.t118 (Fa.s rxT.t117 (Fa.s rxT.t116 (Fa.s rxT.t115 (Fa.s rxT.t114 (Fa.s rxT.t113 (Fa.s rxT.t112 (Fa.s rxT.t111 (Fa.s rxT.t110 (Fa.s rxT.t109 (Fa.s rxT.t108 (Fa.s rxT.t107 (Fa.s rxT.t106 (Fa.s rxT.t105 (Fa.s rxT.t104 (Fa.s rxT.t103 (Fa.s rxT.t102 (Fa.s rxT.t101 (Fa.s rxT.t100 (Fa.s rxT.t99 (Fa.s rxT.t98 (Fa.s rxT.t97 (Fa.s rxT.t96 (Fa.s rxT.t95 (Fa.s rxT.t94 (Fa.s rxT.t93 (Fa.s rxT.t92 (Fa.s rxT.t91 (Fa.s rxT.t90 (Fa.s rxT.t89 (Fa.s rxT.t88 (Fa.s rxT.t87 (Fa.s rxT.t86 (Fa.s rxT.t85 (Fa.s rxT.t84 (Fa.s rxT.t83 (Fa.s rxT.t82 (Fa.s rxT.t81 (Fa.s rxT.t80 (Fa.s rxT.t79 (Fa.s rxT.t78 (Fa.s rxT.t77 (Fa.s rxT.t76 (Fa.s rxT.t75 (Fa.s rxT.t74 (Fa.s rxT.t73 (Fa.s rxT.t72 (Fa.s rxT.t71 (Fa.s rxT.t70 (Fa.s rxT.t69 (Fa.s rxT.t68 (Fa.s rxT.t67 (Fa.s rxT.t66 (Fa.s rxT.t65 (Fa.s rxT.t64 (Fa.s rxT.t63 (Fa.s rxT.t62 (Fa.s rxT.t61 (Fa.s rxT.t60 (Fa.s rxT.t59 (Fa.s rxT.t58 (Fa.s rxT.t57 (Fa.s rxT.t56 (Fa.s rxT.t55 (Fa.s rxT.t54 (Fa.s rxT.t53 (Fa.s rxT.t52 (Fa.s rxT.t51 (Fa.s rxT.t50 (Fa.s rxT.t49 (Fa.s rxT.t48 (Fa.s rxT.t47 (Fa.s rxT.t46 (Fa.s rxT.t45 (Fa.s rxT.t44 (Fa.s rxT.t43 (Fa.s rxT.t42 (Fa.s rxT.t41 (Fa.s rxT.t40 (Fa.s rxT.t39 (Fa.s rxT.t38 (Fa.s rxT.t37 (Fa.s rxT.t36 (Fa.s rxT.t35 (Fa.s rxT.t34 (Fa.s rxT.t33 (Fa.s rxT.t32 (Fa.s rxT.t31 (Fa.s rxT.t30 (Fa.s rxT.t29 (Fa.s rxT.t28 (Fa.s rxT.t27 (Fa.s rxT.t26 (Fa.s rxT.t25 (Fa.s rxT.t24 (Fa.s rxT.t23 (Fa.s rxT.t22 (Fa.s rxT.t21 (Fa.s rxT.t20 (Fa.s rxT.t19 (Fa.s rxT.t18 (Fa.s rxT.t17 (Fa.s rxT.t16 (Fa.s rxT.t15 (Fa.s rxT.t14 (Fa.s rxT.t13 (Fa.s rxT.t12 (Fa.s rxT.t11 (Fa.s rxT.t10 (Fa.s rxT.t9 (Fa.s rxT.t8 (Fa.s rxT.t7 (Fa.s rxT.t6 (Fa.s rxT.t5 (Fa.s rxT.t4 (Fa.s rxT.t3 (Fa.s rxT.t2 (Fa.s rxT.t1 (Fa.s rxT.t0 Fa.z))))))))))))))))))))))))))))))))))))))))))))))))))))))))))))))))))))))))))))))))))))))))))))))))))))))))))))))))))))))))))))))))))))))))))))))))))))))))))))))))
theorem rxT.at (k : Nat) (h : k < 160) : rxT.p k = rxT.q k := rxT.all.get k h
def namesR : List (List UInt8) := [[73, 110, 105, 116, 105, 97, 108], [83, 116, 97, 114, 116, 105, 110, 103], [67, 108, 111, 115, 101, 100], [83, 116, 111, 112, 112, 101, 100], [67, 108, 111, 115, 105, 110, 103], [83, 116, 111, 112, 112, 105, 110, 103], [82, 101, 113, 83, 101, 110, 116], [65, 99, 107, 82, 99, 118, 100], [65, 99, 107, 83, 101, 110, 116], [79, 112, 101, 110, 101, 100]]
def nmR (s : Int) : List UInt8 := if 0 ≤ s ∧ s ≤ 9 then namesR.getD s.toNat [] else []
def nmT.p (k : Nat) : Option (D × St) := runN G 30 16 [.v (.int .i64 ((k : Nat) : Int))] []
def nmT.q (k : Nat) : Option (D × St) := some (.v (.str (nmR k)), [])
theorem nmT.t0 : nmT.p 0 = nmT.q 0 := by kernel_rfl
theorem nmT.t1 : nmT.p 1 = nmT.q 1 := by kernel_rfl
theorem nmT.t2 : nmT.p 2 = nmT.q 2 := by kernel_rfl
theorem nmT.t3 : nmT.p 3 = nmT.q 3 := by kernel_rfl
theorem nmT.t4 : nmT.p 4 = nmT.q 4 := by kernel_rfl
theorem nmT.t5 : nmT.p 5 = nmT.q 5 := by kernel_rfl
theorem nmT.t6 : nmT.p 6 = nmT.q 6 := by kernel_rfl
theorem nmT.t7 : nmT.p 7 = nmT.q 7 := by kernel_rfl
theorem nmT.t8 : nmT.p 8 = nmT.q 8 := by kernel_rfl
theorem nmT.t9 : nmT.p 9 = nmT.q 9 := by kernel_rfl
theorem nmT.all : Fa (fun k => nmT.p k = nmT.q k) 10 := (Fa.s nmT.t9 (Fa.s nmT.t8 (Fa.s nmT.t7 (Fa.s nmT.t6 (Fa.s nmT.t5 (Fa.s nmT.t4 (Fa.s nmT.t3 (Fa.s nmT.t2 (Fa.s nmT.t1 (Fa.s nmT.t0 Fa.z))))))))))
theorem nmT.at (k : Nat) (h : k < 10) : nmT.p k = nmT.q k := nmT.all.get k h
def nrT.p (k : Nat) : Option (D × St) := runN G 30 17 [.v (.int .i64 ((k : Nat) : Int))] []
def nrT.q (k : Nat) : Option (D × St) := some (.v (.str (nmR k)), [])
theorem nrT.t0 : nrT.p 0 = nrT.q 0 := by kernel_rfl
theorem nrT.t1 : nrT.p 1 = nrT.q 1 := by kernel_rfl
theorem nrT.t2 : nrT.p 2 = nrT.q 2 := by kernel_rfl
theorem nrT.t3 : nrT.p 3 = nrT.q 3 := by kernel_rfl
theorem nrT.t4 : nrT.p 4 = nrT.q 4 := by kernel_rfl
theorem nrT.t5 : nrT.p 5 = nrT.q 5 := by kernel_rfl
theorem nrT.t6 : nrT.p 6 = nrT.q 6 := by kernel_rfl
theorem nrT.t7 : nrT.p 7 = nrT.q 7 := by kernel_rfl
theorem nrT.t8 : nrT.p 8 = nrT.q 8 := by kernel_rfl
theorem nrT.t9 : nrT.p 9 = nrT.q 9 := by kernel_rfl
theorem nrT.all : Fa (fun k => nrT.p k = nrT.q k) 10 := (Fa.s nrT.t9 (Fa.s nrT.t8 (Fa.s nrT.t7 (Fa.s nrT.t6 (Fa.s nrT.t5 (Fa.s nrT.t4 (Fa.s nrT.t3 (Fa.s nrT.t2 (Fa.s nrT.t1 (Fa.s nrT.t0 Fa.z))))))))))
theorem nrT.at (k : Nat) (h : k < 10) : nrT.p k = nrT.q k := nrT.all.get k h
def rowsR : List (List (List Int)) := [
  [[2], [6, 5, 7], [-1], [-1], [-1], [-1], [-1], [-1], [-1], [-1]],
  [[-1], [-1], [0], [1, 3], [0], [1], [1], [1], [1], [1, 2]],
  [[1, 3], [1], [6, 5, 7], [3], [5], [5], [6], [7], [8], [9]],
  [[0], [0, 4], [2], [2], [4], [4], [4, 5, 10], [4, 5, 10], [4, 5, 10], [4, 2, 5, 10]],
  [[-1], [-1], [-1], [-1], [4, 10], [5, 10], [6, 7], [6, 7], [8, 7], [-1]],
  [[-1], [-1], [-1], [-1], [2, 4], [3, 4], [3, 4], [3, 4], [3, 4], [-1]],
  [[-1], [-1], [2, 11], [8, 5, 7, 8], [4], [5], [8, 8], [9, 8, 1], [8, 8], [8, 2, 7, 8]],
  [[-1], [-1], [2, 11], [6, 5, 7, 9], [4], [5], [6, 9], [7, 9], [6, 9], [6, 2, 7, 9]],
  [[-1], [-1], [2, 11], [3, 11], [4], [5], [7, 5], [6, 7], [9, 5, 1], [6, 2, 7]],
  [[-1], [-1], [2, 11], [3, 11], [4], [5], [6, 5, 7], [6, 7], [8, 5, 7], [6, 2, 7]],
  [[-1], [-1], [2, 11], [3, 11], [4, 11], [5, 11], [6, 11], [6, 11], [6, 11], [5, 2, 6, 11]],
  [[-1], [-1], [2], [3], [2, 4], [3, 4], [6], [6], [8], [6, 2, 7]],
  [[-1], [-1], [2, 12], [3, 12], [4, 12], [5, 12], [6, 12], [7, 12], [8, 12], [9, 12]],
  [[-1], [-1], [2], [3], [4], [5], [6], [6], [8], [9]],
  [[-1], [-1], [2, 4], [3, 4], [2, 4], [3, 4], [3, 4], [3, 4], [3, 4], [5, 2, 5, 10]],
  [[-1], [-1], [2], [3], [4], [5], [6], [7], [8], [9, 13]]]
def rwT.p (k : Nat) : Option (D × St) := runN G 30 54 [.v (.int .i64 ((k : Nat) : Int))] []
def rwT.q (k : Nat) : Option (D × St) := some (.lin 1 ((rowsR.getD k []).map fun l => .slc 1 (i64s l)), [])
theorem rwT.t0 : rwT.p 0 = rwT.q 0 := by kernel_rfl
theorem rwT.t1 : rwT.p 1 = rwT.q 1 := by kernel_rfl
theorem rwT.t2 : rwT.p 2 = rwT.q 2 := by kernel_rfl
theorem rwT.t3 : rwT.p 3 = rwT.q 3 := by kernel_rfl
theorem rwT.t4 : rwT.p 4 = rwT.q 4 := by kernel_rfl
theorem rwT.t5 : rwT.p 5 = rwT.q 5 := by kernel_rfl
theorem rwT.t6 : rwT.p 6 = rwT.q 6 := by kernel_rfl
theorem rwT.t7 : rwT.p 7 = rwT.q 7 := by kernel_rfl
theorem rwT.t8 : rwT.p 8 = rwT.q 8 := by kernel_rfl
theorem rwT.t9 : rwT.p 9 = rwT.q 9 := by kernel_rfl
theorem rwT.t10 : rwT.p 10 = rwT.q 10 := by kernel_rfl
theorem rwT.t11 : rwT.p 11 = rwT.q 11 := by kernel_rfl
theorem rwT.t12 : rwT.p 12 = rwT.q 12 := by kernel_rfl
theorem rwT.t13 : rwT.p 13 = rwT.q 13 := by kernel_rfl
theorem rwT.t14 : rwT.p 14 = rwT.q 14 := by kernel_rfl
theorem rwT.t15 : rwT.p 15 = rwT.q 15 := by kernel_rfl
theorem rwT.all : Fa (fun k => rwT.p k = rwT.q k) 16 := (Fa.s rwT.t15 (Fa.s rwT.t14 (Fa.s rwT.t13 (Fa.s rwT.t12 (Fa.s rwT.t11 (Fa.s rwT.t10 (Fa.s rwT.t9 (Fa.s rwT.t8 (Fa.s rwT.t7 (Fa.s rwT.t6 (Fa.s rwT.t5 (Fa.s rwT.t4 (Fa.s rwT.t3 (Fa.s rwT.t2 (Fa.s rwT.t1 (Fa.s rwT.t0 Fa.z))))))))))))))))
theorem rwT.at (k : Nat) (h : k < 16) : rwT.p k = rwT.q k := rwT.all.get k h
def T13 : List D → St → Option (D × St)
  | [.v (.int .i64 s), .v (.int .i64 e)], [] => some (nxD s e, [])
  | _, _ => none
def G2 : Prg := { fn := fnOf, prim := fun n => if n = 13 then some T13 else primOf n }
def reachR : List (List Bool) := [[true, true, true, true, true, true, true, true, true, true], [true, true, true, true, true, true, true, true, true, true], [true, true, true, true, true, true, true, true, true, true], [true, true, true, true, true, true, true, true, true, true], [true, true, true, true, true, true, true, true, true, true], [true, true, true, true, true, true, true, true, true, true], [true, true, true, true, true, true, true, true, true, true], [true, true, true, true, true, true, true, true, true, true], [true, true, true, true, true, true, true, true, true, true], [true, true, true, true, true, true, true, true, true, true]]
def rdR (s : Int) : List Bool := if 0 ≤ s ∧ s ≤ 9 then reachR.getD s.toNat [] else List.replicate 10 false
def rcR (s t : Int) : Bool := if 0 ≤ t ∧ t ≤ 9 then (rdR s).getD t.toNat false else false
theorem rcC0 : runN G2 60 23 [.v (.int .i64 0), .v (.int .i64 0)] [] = some (.v (.bool true), []) := by kernel_rfl
theorem rcC1 : runN G2 60 23 [.v (.int .i64 1), .v (.int .i64 0)] [] = some (.v (.bool true), []) := by kernel_rfl
theorem rcC2 : runN G2 60 23 [.v (.int .i64 2), .v (.int .i64 2)] [] = some (.v (.bool true), []) := by kernel_rfl
theorem rcC3 : runN G2 60 23 [.v (.int .i64 3), .v (.int .i64 2)] [] = some (.v (.bool true), []) := by kernel_rfl
theorem rcC4 : runN G2 60 23 [.v (.int .i64 4), .v (.int .i64 2)] [] = some (.v (.bool true), []) := by kernel_rfl
theorem rcC5 : runN G2 60 23 [.v (.int .i64 5), .v (.int .i64 2)] [] = some (.v (.bool true), []) := by kernel_rfl
theorem rcC6 : runN G2 60 23 [.v (.int .i64 6), .v (.int .i64 2)] [] = some (.v (.bool true), []) := by kernel_rfl
theorem rcC7 : runN G2 60 23 [.v (.int .i64 7), .v (.int .i64 2)] [] = some (.v (.bool true), []) := by kernel_rfl
theorem rcC8 : runN G2 60 23 [.v (.int .i64 8), .v (.int .i64 2)] [] = some (.v (.bool true), []) := by kernel_rfl
theorem rcC9 : runN G2 60 23 [.v (.int .i64 9), .v (.int .i64 2)] [] = some (.v (.bool true), []) := by kernel_rfl
theorem aliveT : runN G2 60 19 [] [] = some (.v (.bool true), []) := by kernel_rfl
end Go.Q
