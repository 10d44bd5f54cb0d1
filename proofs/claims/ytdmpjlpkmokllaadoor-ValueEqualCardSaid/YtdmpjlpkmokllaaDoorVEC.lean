/- The code of the functions, as little of it as is needed: printed by a small program, held against the loaded program by evaluation. -/
import Derived.Test.YtdmpjlpkmokllaaDoorXTabVE
namespace Go.Proofs.YtdmpjlpkmokllaaDoor
open Go Go.X
set_option linter.unusedVariables false
set_option linter.unusedSimpArgs false
set_option maxRecDepth 100000
def c6 : XC :=
  .seq (.region [xo 3 (.box 27 (xt 0)) [], xo 4 (.box 27 (xt 1)) [], xo 5 (.box 27 (xt 2)) [], xo 6 (.assign (.const (.bool false))) []])
 (.seq (.seq (.regionG [xo 11 (xc 12 [] []) [], xo 12 (.unOp .not 4 (xt 11)) [], xo 13 (.move (xt 12)) [], xg 14 (.load 27 (xt 3)) 13 false [], ⟨some 15, (Op.call { callee := (Callee.value (Operand.func 14)), args := #[(Operand.tmp 14)], argTypes := #[27] }), (some (13, false)), true, []⟩, xg 16 (.load 27 (xt 4)) 13 false [], ⟨some 17, (Op.call { callee := (Callee.value (Operand.func 14)), args := #[(Operand.tmp 16)], argTypes := #[27] }), (some (13, false)), true, []⟩, xg 18 (.load 27 (xt 5)) 13 false [], xg 19 (xc 14 [18] [27]) 13 false [], xg 20 (.buildSlice 57 3 #[(0, (xt 15)), (1, (xt 17)), (2, (xt 19))]) 13 false [], xg 21 (xc 13 [20] [57]) 13 false [], xo 22 (.pick (xt 13) (.const (.bool true)) (xt 21)) []])
 (.cond 22 (.seq (.region [xo 23 (xc 12 [] []) [], xo 6 (.assign (xt 23)) []])
 (.ret)) (.skip)))
 (.seq (.region [xo 24 (.load 27 (xt 3)) [], xo 25 (.load 27 (xt 4)) [], xk 26 (xc 17 [24,25] [27,27]) [], xo 27 (.load 27 (xt 4)) [], xo 28 (.load 27 (xt 5)) [], xk 29 (xc 17 [27,28] [27,27]) [], xo 30 (.load 27 (xt 3)) [], xo 31 (.load 27 (xt 5)) [], xo 32 (xc 17 [30,31] [27,27]) [], xo 7 (.assign (xt 26)) [], xo 8 (.assign (xt 29)) [], xo 9 (.assign (xt 32)) []])
 (.seq (.seq (.regionG [xo 33 (.load 27 (xt 3)) [], xo 34 (.load 27 (xt 3)) [], xk 35 (xc 21 [34] [27]) [], xo 36 (xc 17 [33,35] [27,27]) [], xo 37 (.unOp .not 4 (xt 36)) [], xo 38 (.move (xt 37)) [], xg 39 (.load 27 (xt 4)) 38 false [], xg 40 (.load 27 (xt 3)) 38 false [], ⟨some 41, (Op.call { callee := (Callee.value (Operand.func 17)), args := #[(Operand.tmp 39), (Operand.tmp 40)], argTypes := #[27, 27] }), (some (38, false)), true, []⟩, xg 42 (.move (xt 7)) 38 false [], xg 43 (.binOp .neq 4 (xt 41) (xt 42) 4) 38 false [], xo 44 (.pick (xt 38) (.const (.bool true)) (xt 43)) [], xo 45 (.move (xt 44)) [], xg 46 (.move (xt 7)) 45 false [], xg 47 (.move (xt 46)) 45 false [], xg 48 (.move (xt 8)) 47 true [], xg 49 (.pick (xt 47) (xt 48) (.const (.bool false))) 45 false [], xg 50 (.move (xt 49)) 45 false [], xg 51 (.move (xt 9)) 50 true [], xg 52 (.unOp .not 4 (xt 51)) 50 true [], xg 53 (.pick (xt 50) (xt 52) (.const (.bool false))) 45 false [], xo 54 (.pick (xt 45) (.const (.bool true)) (xt 53)) [], xo 55 (.move (xt 54)) [], xg 56 (.load 27 (xt 3)) 55 false [], xg 57 (.load 27 (xt 4)) 55 false [], ⟨some 58, (Op.call { callee := (Callee.value (Operand.func 22)), args := #[(Operand.tmp 56), (Operand.tmp 57)], argTypes := #[27, 27] }), (some (55, false)), true, []⟩, xg 59 (.load 27 (xt 4)) 55 false [], xg 60 (.load 27 (xt 3)) 55 false [], xg 61 (xc 22 [59,60] [27,27]) 55 false [], xg 62 (.binOp .neq 4 (xt 58) (xt 61) 4) 55 false [], xo 63 (.pick (xt 55) (.const (.bool true)) (xt 62)) []])
 (.cond 63 (.seq (.region [xo 6 (.assign (.const (.bool false))) []])
 (.ret)) (.skip)))
 (.seq (.regionG [xo 64 (.fieldAddr 27 (xt 3) 0) [], xo 65 (.load 22 (xt 64)) [64], xo 66 (.binOp .eql 22 (xt 65) (.const (.int .u8 5)) 22) [65], xo 67 (.move (xt 66)) [66], xg 68 (.fieldAddr 27 (xt 4) 0) 67 true [], xg 69 (.load 22 (xt 68)) 67 true [68], xg 70 (.binOp .eql 22 (xt 69) (.const (.int .u8 5)) 22) 67 true [69], xo 71 (.pick (xt 67) (xt 70) (.const (.bool false))) [67,70], xo 10 (.assign (xt 71)) []])
 (.seq (.seq (.regionG [xo 72 (.move (xt 10)) [], xo 73 (.unOp .not 4 (xt 72)) [72], xo 74 (.move (xt 73)) [73], xg 75 (.load 27 (xt 3)) 74 true [], xg 76 (.load 27 (xt 4)) 74 true [], xg 77 (xc 22 [75,76] [27,27]) 74 true [75,76], xo 78 (.pick (xt 74) (xt 77) (.const (.bool false))) []])
 (.cond 78 (.seq (.region [xo 6 (.assign (.const (.bool false))) []])
 (.ret)) (.skip)))
 (.seq (.regionG [xo 79 (.move (xt 10)) [], xo 80 (.unOp .not 4 (xt 79)) [79], xo 81 (.move (xt 80)) [80], xg 82 (.load 27 (xt 3)) 81 false [], xg 83 (xc 15 [82] [27]) 81 false [82], xg 84 (.unOp .not 4 (xt 83)) 81 false [83], xo 85 (.pick (xt 81) (.const (.bool true)) (xt 84)) [81,84], xo 86 (.move (xt 85)) [85], xg 87 (.load 27 (xt 4)) 86 false [], xg 88 (xc 15 [87] [27]) 86 false [87], xg 89 (.unOp .not 4 (xt 88)) 86 false [88], xo 90 (.pick (xt 86) (.const (.bool true)) (xt 89)) [86,89], xo 91 (.move (xt 90)) [90], xg 92 (.load 27 (xt 3)) 91 false [], xg 93 (.load 27 (xt 4)) 91 false [], xg 94 (xc 22 [92,93] [27,27]) 91 false [92,93], xg 95 (.move (xt 7)) 91 false [], xg 96 (.binOp .eql 4 (xt 94) (xt 95) 4) 91 false [94,95], xo 97 (.pick (xt 91) (.const (.bool true)) (xt 96)) [91,96], xo 6 (.assign (xt 97)) []])
 (.ret)))))))
theorem c6_ok : Tryd.f6.body.map (strip (tab.ann 6)) = some c6 := by kernel_rfl
def c13 : XC :=
  .seq (.region [xo 2 (.assign (.const (.bool false))) []])
 (.seq (.region [xo 3 (.assign (.const (.int .i64 0))) []])
 (.seq (.seq (.region [xo 4 (.assign (.const (.int .i64 0))) []])
 (.block 0 (.loop (.seq (.seq (.region [xo 5 (.move (xt 4)) [], xo 6 (.move (xt 0)) [], xo 7 (xb .len [6] [57]) [6], xo 8 (.binOp .lss 3 (xt 5) (xt 7) 3) []])
 (.cond 8 (.skip) (.exit 0)))
 (.seq (.block 1 (.seq (.region [xo 11 (.move (xt 3)) [], xo 12 (.move (xt 0)) [], xo 13 (.move (xt 4)) [], xo 14 (.indexAddr 57 (xt 12) (xt 13)) [12,13], xo 15 (.load 3 (xt 14)) [14], xo 16 (.binOp .add 3 (xt 11) (xt 15) 3) [11,15], xo 3 (.assign (xt 16)) []])
 (.seq (.region [xo 17 (.move (xt 3)) [], xo 18 (.binOp .gtr 3 (xt 17) (.const (.int .i64 1048576)) 3) []])
 (.cond 18 (.seq (.region [xo 2 (.assign (.const (.bool true))) []])
 (.ret)) (.skip)))))
 (.region [xo 9 (.move (xt 4)) [], xo 10 (.binOp .add 3 (xt 9) (.const (.int .i64 1)) 3) [9], xo 4 (.assign (xt 10)) []]))))))
 (.seq (.region [xo 2 (.assign (.const (.bool false))) []])
 (.ret))))
theorem c13_ok : Tryd.f13.body.map (strip (tab.ann 13)) = some c13 := by kernel_rfl
def c14 : XC :=
  .seq (.region [xo 1 (.box 27 (xt 0)) [], xo 2 (.assign (.const (.int .i64 0))) []])
 (.seq (.region [xo 4 (.fieldAddr 27 (xt 1) 2) [], xo 5 (.load 9 (xt 4)) [4], xo 6 (xb .len [5] [9]) [5], xo 7 (.binOp .add 3 (.const (.int .i64 1)) (xt 6) 3) [6], xo 8 (.fieldAddr 27 (xt 1) 6) [], xo 9 (.load 9 (xt 8)) [8], xo 10 (xb .len [9] [9]) [9], xo 11 (.binOp .add 3 (xt 7) (xt 10) 3) [7,10], xo 3 (.assign (xt 11)) []])
 (.seq (.seq (.region [xo 12 (.move (xt 3)) [], xo 13 (.binOp .leq 3 (xt 12) (.const (.int .i64 1048576)) 3) []])
 (.cond 13 (.region [xo 14 (.move (xt 3)) [], xo 15 (.fieldAddr 27 (xt 1) 3) [], xo 16 (.load 23 (xt 15)) [15], xo 17 (xc 27 [16] [23]) [16], xo 18 (.binOp .add 3 (xt 14) (xt 17) 3) [14,17], xo 3 (.assign (xt 18)) []]) (.skip)))
 (.seq (.seq (.region [xo 19 (.move (xt 3)) [], xo 20 (.binOp .leq 3 (xt 19) (.const (.int .i64 1048576)) 3) []])
 (.cond 20 (.region [xo 21 (.move (xt 3)) [], xo 22 (.fieldAddr 27 (xt 1) 4) [], xo 23 (.load 24 (xt 22)) [22], xo 24 (xc 32 [23] [24]) [23], xo 25 (.binOp .add 3 (xt 21) (xt 24) 3) [21,24], xo 3 (.assign (xt 25)) []]) (.skip)))
 (.seq (.region [xo 26 (.move (xt 3)) [], xo 2 (.assign (xt 26)) []])
 (.ret)))))
theorem c14_ok : Tryd.f14.body.map (strip (tab.ann 14)) = some c14 := by kernel_rfl
def c15 : XC :=
  .seq (.region [xo 1 (.box 27 (xt 0)) [], xo 2 (.assign (.const (.bool false))) []])
 (.seq (.region [xo 3 (.alloc 3) [], xo 4 (.alloc 4) [], xn (.store 3 (xt 3) (.const (.int .i64 0))), xn (.store 4 (xt 4) (.const (.bool true)))])
 (.seq (.region [xo 5 (.load 27 (xt 1)) [], xo 6 (.makeFunc (.func 34) #[] #[(xt 3), (xt 4)]) [], xo 7 (xc 33 [5,6] [27,60]) []])
 (.seq (.region [xo 8 (.load 4 (xt 4)) [], xo 2 (.assign (xt 8)) []])
 (.ret))))
theorem c15_ok : Tryd.f15.body.map (strip (tab.ann 15)) = some c15 := by kernel_rfl
def c17 : XC :=
  .seq (.region [xo 2 (.box 27 (xt 0)) [], xo 3 (.box 27 (xt 1)) [], xo 4 (.assign (.const (.bool false))) []])
 (.seq (.regionG [xo 5 (.fieldAddr 27 (xt 2) 0) [], xo 6 (.load 22 (xt 5)) [5], xo 7 (.fieldAddr 27 (xt 3) 0) [], xo 8 (.load 22 (xt 7)) [7], xo 9 (.binOp .eql 22 (xt 6) (xt 8) 22) [6,8], xo 10 (.move (xt 9)) [9], xg 11 (.fieldAddr 27 (xt 2) 1) 10 true [], xg 12 (.load 2 (xt 11)) 10 true [11], xg 13 (.fieldAddr 27 (xt 3) 1) 10 true [], xg 14 (.load 2 (xt 13)) 10 true [13], xg 15 (.binOp .eql 2 (xt 12) (xt 14) 2) 10 true [12,14], xo 16 (.pick (xt 10) (xt 15) (.const (.bool false))) [10,15], xo 17 (.move (xt 16)) [16], xg 18 (.fieldAddr 27 (xt 2) 2) 17 true [], xg 19 (.load 9 (xt 18)) 17 true [18], xg 20 (.fieldAddr 27 (xt 3) 2) 17 true [], xg 21 (.load 9 (xt 20)) 17 true [20], xg 22 (.binOp .eql 9 (xt 19) (xt 21) 9) 17 true [19,21], xo 23 (.pick (xt 17) (xt 22) (.const (.bool false))) [17,22], xo 24 (.move (xt 23)) [23], xg 25 (.fieldAddr 27 (xt 2) 5) 24 true [], xg 26 (.load 25 (xt 25)) 24 true [25], xg 27 (.fieldAddr 27 (xt 3) 5) 24 true [], xg 28 (.load 25 (xt 27)) 24 true [27], xg 29 (.binOp .eql 25 (xt 26) (xt 28) 25) 24 true [26,28], xo 30 (.pick (xt 24) (xt 29) (.const (.bool false))) [24,29], xo 31 (.move (xt 30)) [30], xg 32 (.fieldAddr 27 (xt 2) 6) 31 true [], xg 33 (.load 9 (xt 32)) 31 true [32], xg 34 (.fieldAddr 27 (xt 3) 6) 31 true [], xg 35 (.load 9 (xt 34)) 31 true [34], xg 36 (.binOp .eql 9 (xt 33) (xt 35) 9) 31 true [33,35], xo 37 (.pick (xt 31) (xt 36) (.const (.bool false))) [31,36], xo 38 (.move (xt 37)) [37], xg 39 (.fieldAddr 27 (xt 2) 7) 38 true [], xg 40 (.load 4 (xt 39)) 38 true [39], xg 41 (.fieldAddr 27 (xt 3) 7) 38 true [], xg 42 (.load 4 (xt 41)) 38 true [41], xg 43 (.binOp .eql 4 (xt 40) (xt 42) 4) 38 true [40,42], xo 44 (.pick (xt 38) (xt 43) (.const (.bool false))) [38,43], xo 45 (.move (xt 44)) [44], xg 46 (.fieldAddr 27 (xt 2) 3) 45 true [], xg 47 (.load 23 (xt 46)) 45 true [46], xg 48 (.fieldAddr 27 (xt 3) 3) 45 true [], xg 49 (.load 23 (xt 48)) 45 true [48], xg 50 (.call { callee := (.value (.func 38)), args := #[(xt 47), (xt 49), (.func 17)], argTypes := #[23, 23, 33] }) 45 true [47,49], xo 51 (.pick (xt 45) (xt 50) (.const (.bool false))) [45,50], xo 52 (.move (xt 51)) [51], xg 53 (.fieldAddr 27 (xt 2) 4) 52 true [], xg 54 (.load 24 (xt 53)) 52 true [53], xg 55 (.fieldAddr 27 (xt 3) 4) 52 true [], xg 56 (.load 24 (xt 55)) 52 true [55], xg 57 (xc 39 [54,56] [24,24]) 52 true [54,56], xo 58 (.pick (xt 52) (xt 57) (.const (.bool false))) [52,57], xo 4 (.assign (xt 58)) []])
 (.ret))
theorem c17_ok : Tryd.f17.body.map (strip (tab.ann 17)) = some c17 := by kernel_rfl
def c21 : XC :=
  .seq (.region [xo 1 (.box 27 (xt 0)) [], xo 2 (.alloc 27) []])
 (.seq (.region [xo 3 (.fieldAddr 27 (xt 1) 0) [], xo 4 (.load 22 (xt 3)) [], xo 5 (.fieldAddr 27 (xt 1) 1) [], xo 6 (.load 2 (xt 5)) [], xo 7 (.fieldAddr 27 (xt 1) 2) [], xo 8 (.load 9 (xt 7)) [], xo 9 (.fieldAddr 27 (xt 1) 3) [], xo 10 (.load 23 (xt 9)) [], xk 11 (xc 42 [10] [23]) [], xo 12 (.fieldAddr 27 (xt 1) 4) [], xo 13 (.load 24 (xt 12)) [], xk 14 (xc 43 [13] [24]) [], xo 15 (.fieldAddr 27 (xt 1) 5) [], xo 16 (.load 25 (xt 15)) [], xo 17 (.fieldAddr 27 (xt 1) 6) [], xo 18 (.load 9 (xt 17)) [], xo 19 (.fieldAddr 27 (xt 1) 7) [], xo 20 (.load 4 (xt 19)) [], xo 21 (.build 27 #[(0, (xt 4)), (1, (xt 6)), (2, (xt 8)), (3, (xt 11)), (4, (xt 14)), (5, (xt 16)), (6, (xt 18)), (7, (xt 20))]) [], xn (.store 27 (xt 2) (xt 21))])
 (.ret))
theorem c21_ok : Tryd.f21.body.map (strip (tab.ann 21)) = some c21 := by kernel_rfl
def c22 : XC :=
  .seq (.region [xo 2 (.box 27 (xt 0)) [], xo 3 (.box 27 (xt 1)) [], xo 4 (.assign (.const (.bool false))) []])
 (.seq (.regionG [xo 5 (.fieldAddr 27 (xt 2) 0) [], xo 6 (.load 22 (xt 5)) [5], xo 7 (.binOp .eql 22 (xt 6) (.const (.int .u8 5)) 22) [6], xo 8 (.move (xt 7)) [7], xg 9 (.fieldAddr 27 (xt 3) 0) 8 true [], xg 10 (.load 22 (xt 9)) 8 true [9], xg 11 (.binOp .eql 22 (xt 10) (.const (.int .u8 5)) 22) 8 true [10], xo 12 (.pick (xt 8) (xt 11) (.const (.bool false))) [8,11], xo 13 (.move (xt 12)) [12], xg 14 (.fieldAddr 27 (xt 2) 4) 13 true [], xg 15 (.load 24 (xt 14)) 13 true [14], xg 16 (.fieldAddr 27 (xt 3) 4) 13 true [], xg 17 (.load 24 (xt 16)) 13 true [16], xg 18 (xc 39 [15,17] [24,24]) 13 true [15,17], xo 19 (.pick (xt 13) (xt 18) (.const (.bool false))) [13,18], xo 4 (.assign (xt 19)) []])
 (.ret))
theorem c22_ok : Tryd.f22.body.map (strip (tab.ann 22)) = some c22 := by kernel_rfl
def c27 : XC :=
  .seq (.region [xo 2 (.assign (.const (.int .i64 0))) []])
 (.seq (.region [xo 5 (.move (xt 0)) [], xo 6 (xb .len [5] [23]) [5], xo 3 (.assign (xt 6)) []])
 (.seq (.seq (.region [xo 4 (.assign (.const (.int .i64 0))) []])
 (.block 0 (.loop (.seq (.seq (.regionG [xo 7 (.move (xt 4)) [], xo 8 (.move (xt 0)) [], xo 9 (xb .len [8] [23]) [8], xo 10 (.binOp .lss 3 (xt 7) (xt 9) 3) [7,9], xo 11 (.move (xt 10)) [10], xg 12 (.move (xt 3)) 11 true [], xg 13 (.binOp .leq 3 (xt 12) (.const (.int .i64 1048576)) 3) 11 true [12], xo 14 (.pick (xt 11) (xt 13) (.const (.bool false))) []])
 (.cond 14 (.skip) (.exit 0)))
 (.seq (.block 1 (.region [xo 17 (.move (xt 3)) [], xo 18 (.move (xt 0)) [], xo 19 (.move (xt 4)) [], xo 20 (.indexAddr 23 (xt 18) (xt 19)) [18,19], xo 21 (.load 27 (xt 20)) [20], xo 22 (xc 14 [21] [27]) [21], xo 23 (.binOp .add 3 (xt 17) (xt 22) 3) [17,22], xo 3 (.assign (xt 23)) []]))
 (.region [xo 15 (.move (xt 4)) [], xo 16 (.binOp .add 3 (xt 15) (.const (.int .i64 1)) 3) [15], xo 4 (.assign (xt 16)) []]))))))
 (.seq (.region [xo 24 (.move (xt 3)) [], xo 2 (.assign (xt 24)) []])
 (.ret))))
theorem c27_ok : Tryd.f27.body.map (strip (tab.ann 27)) = some c27 := by kernel_rfl
def c32 : XC :=
  .seq (.region [xo 2 (.assign (.const (.int .i64 0))) []])
 (.seq (.region [xo 5 (.move (xt 0)) [], xo 6 (xb .len [5] [24]) [5], xo 3 (.assign (xt 6)) []])
 (.seq (.seq (.region [xo 4 (.assign (.const (.int .i64 0))) []])
 (.block 0 (.loop (.seq (.seq (.regionG [xo 7 (.move (xt 4)) [], xo 8 (.move (xt 0)) [], xo 9 (xb .len [8] [24]) [8], xo 10 (.binOp .lss 3 (xt 7) (xt 9) 3) [7,9], xo 11 (.move (xt 10)) [10], xg 12 (.move (xt 3)) 11 true [], xg 13 (.binOp .leq 3 (xt 12) (.const (.int .i64 1048576)) 3) 11 true [12], xo 14 (.pick (xt 11) (xt 13) (.const (.bool false))) []])
 (.cond 14 (.skip) (.exit 0)))
 (.seq (.block 1 (.region [xo 17 (.move (xt 3)) [], xo 18 (.move (xt 0)) [], xo 19 (.move (xt 4)) [], xo 20 (.indexAddr 24 (xt 18) (xt 19)) [18,19], xo 21 (.load 36 (xt 20)) [20], xo 22 (xc 49 [21] [36]) [21], xo 23 (.binOp .add 3 (xt 17) (xt 22) 3) [17,22], xo 3 (.assign (xt 23)) []]))
 (.region [xo 15 (.move (xt 4)) [], xo 16 (.binOp .add 3 (xt 15) (.const (.int .i64 1)) 3) [15], xo 4 (.assign (xt 16)) []]))))))
 (.seq (.region [xo 24 (.move (xt 3)) [], xo 2 (.assign (xt 24)) []])
 (.ret))))
theorem c32_ok : Tryd.f32.body.map (strip (tab.ann 32)) = some c32 := by kernel_rfl
def c33 : XC :=
  .seq (.region [xo 2 (.box 27 (xt 0)) [], xo 3 (.box 60 (xt 1)) []])
 (.seq (.region [xo 4 (.alloc 60) []])
 (.seq (.region [xo 5 (.makeFunc (.func 50) #[] #[(xt 3), (xt 4)]) [], xn (.store 60 (xt 4) (xt 5))])
 (.region [xo 6 (.load 60 (xt 4)) [], xo 7 (.load 27 (xt 2)) [], xo 8 (.call { callee := (.value (xt 6)), args := #[(xt 7), (.const (.int .i64 1))], argTypes := #[27, 3] }) []])))
theorem c33_ok : Tryd.f33.body.map (strip (tab.ann 33)) = some c33 := by kernel_rfl
def c34 : XC :=
  .seq (.region [xo 4 (.box 27 (xt 0)) [], xo 6 (.assign (.const (.bool false))) []])
 (.seq (.region [xo 7 (.load 3 (xt 2)) [], xo 8 (.binOp .add 3 (xt 7) (.const (.int .i64 1)) 3) [7], xn (.store 3 (xt 2) (xt 8))])
 (.seq (.regionG [xo 9 (.load 27 (xt 4)) [], xo 10 (xc 35 [9] [27]) [9], xo 11 (.move (xt 10)) [10], xg 12 (.load 3 (xt 2)) 11 true [], xg 13 (.binOp .leq 3 (xt 12) (.const (.int .i64 4096)) 3) 11 true [12], xo 14 (.pick (xt 11) (xt 13) (.const (.bool false))) [11,13], xo 15 (.move (xt 14)) [14], xg 16 (.move (xt 1)) 15 true [], xg 17 (.binOp .leq 3 (xt 16) (.const (.int .i64 64)) 3) 15 true [16], xo 18 (.pick (xt 15) (xt 17) (.const (.bool false))) [15,17], xn (.store 4 (xt 3) (xt 18))])
 (.seq (.region [xo 19 (.load 4 (xt 3)) [], xo 6 (.assign (xt 19)) []])
 (.ret))))
theorem c34_ok : Tryd.f34.body.map (strip (tab.ann 34)) = some c34 := by kernel_rfl
def c35 : XC :=
  .seq (.region [xo 1 (.box 27 (xt 0)) [], xo 2 (.assign (.const (.bool false))) []])
 (.seq (.seq (.region [xo 6 (.fieldAddr 27 (xt 1) 4) [], xo 7 (.load 24 (xt 6)) [6], xo 8 (xb .len [7] [24]) [], xo 9 (.move (.const (.int .i64 0))) []])
 (.block 0 (.loop (.seq (.region [xo 10 (.binOp .lss 3 (xt 9) (xt 8) 3) []])
 (.seq (.cond 10 (.skip) (.exit 0))
 (.seq (.block 1 (.seq (.region [xo 11 (.move (xt 9)) [], xo 12 (.indexAddr 24 (xt 7) (xt 9)) [], xo 13 (.load 36 (xt 12)) [12], xo 4 (.alloc 36) [], xo 3 (.assign (xt 11)) [11], xn (.store 36 (xt 4) (xt 13))])
 (.seq (.regionG [xo 14 (.fieldAddr 36 (xt 4) 0) [], xo 15 (.load 9 (xt 14)) [], xo 16 (xc 51 [15] [9]) [], xo 17 (.unOp .not 4 (xt 16)) [], xo 18 (.move (xt 17)) [], xg 19 (.move (xt 3)) 18 false [], xg 20 (.binOp .gtr 3 (xt 19) (.const (.int .i64 0)) 3) 18 false [], xg 21 (.move (xt 20)) 18 false [], xg 22 (.fieldAddr 27 (xt 1) 4) 21 true [], xg 23 (.load 24 (xt 22)) 21 true [], xg 24 (.move (xt 3)) 21 true [], xg 25 (.binOp .sub 3 (xt 24) (.const (.int .i64 1)) 3) 21 true [], xg 26 (.indexAddr 24 (xt 23) (xt 25)) 21 true [], xg 27 (.fieldAddr 36 (xt 26) 0) 21 true [], xg 28 (.load 9 (xt 27)) 21 true [], xg 29 (.fieldAddr 36 (xt 4) 0) 21 true [], xg 30 (.load 9 (xt 29)) 21 true [], xg 31 (.binOp .geq 9 (xt 28) (xt 30) 9) 21 true [], xg 32 (.pick (xt 21) (xt 31) (.const (.bool false))) 18 false [], xo 33 (.pick (xt 18) (.const (.bool true)) (xt 32)) []])
 (.cond 33 (.seq (.region [xo 2 (.assign (.const (.bool false))) []])
 (.ret)) (.skip)))))
 (.region [xo 34 (.binOp .add 3 (xt 9) (.const (.int .i64 1)) 3) [], xo 9 (.move (xt 34)) []])))))))
 (.seq (.seq (.region [xo 35 (.fieldAddr 27 (xt 1) 0) [], xo 36 (.load 22 (xt 35)) [35], xo 37 (.binOp .eql 22 (xt 36) (.const (.int .u8 6)) 22) []])
 (.cond 37 (.seq (.region [xo 38 (.load 27 (xt 1)) [], xo 39 (xc 52 [38] [27]) [38], xo 2 (.assign (xt 39)) []])
 (.ret)) (.skip)))
 (.seq (.region [xo 40 (.makeFunc (.func 53) #[] #[(xt 1)]) [], xo 5 (.assign (xt 40)) []])
 (.seq (.regionG [xo 41 (.fieldAddr 27 (xt 1) 0) [], xo 42 (.load 22 (xt 41)) [41], xo 43 (.binOp .leq 22 (xt 42) (.const (.int .u8 7)) 22) [42], xo 44 (.move (xt 43)) [43], xg 45 (.fieldAddr 27 (xt 1) 5) 44 true [], xg 46 (.load 25 (xt 45)) 44 true [45], xg 47 (.binOp .eql 25 (xt 46) (.const (.int .u8 0)) 25) 44 true [46], xo 48 (.pick (xt 44) (xt 47) (.const (.bool false))) [44,47], xo 49 (.move (xt 48)) [48], xg 50 (.fieldAddr 27 (xt 1) 6) 49 true [], xg 51 (.load 9 (xt 50)) 49 true [50], xg 52 (.binOp .eql 9 (xt 51) (.const (.string { data := #[] })) 9) 49 true [51], xo 53 (.pick (xt 49) (xt 52) (.const (.bool false))) [49,52], xo 54 (.move (xt 53)) [53], xg 55 (.fieldAddr 27 (xt 1) 7) 54 true [], xg 56 (.load 4 (xt 55)) 54 true [55], xg 57 (.unOp .not 4 (xt 56)) 54 true [56], xo 58 (.pick (xt 54) (xt 57) (.const (.bool false))) [54,57], xo 59 (.move (xt 58)) [58], xg 60 (.fieldAddr 27 (xt 1) 2) 59 true [], xg 61 (.load 9 (xt 60)) 59 true [60], xg 62 (xb .len [61] [9]) 59 true [61], xg 63 (.binOp .leq 3 (xt 62) (.const (.int .i64 4096)) 3) 59 true [62], xo 64 (.pick (xt 59) (xt 63) (.const (.bool false))) [59,63], xo 65 (.move (xt 64)) [64], xg 66 (.fieldAddr 27 (xt 1) 1) 65 true [], xg 67 (.load 2 (xt 66)) 65 true [66], xg 68 (.binOp .eql 2 (xt 67) (.const (.int .i64 0)) 2) 65 true [67], xg 69 (.move (xt 68)) 65 true [68], xg 70 (.move (xt 5)) 69 false [], xg 71 (.buildSlice 83 2 #[(0, (.const (.int .u8 1))), (1, (.const (.int .u8 7)))]) 69 false [], xg 72 (.call { callee := (.value (xt 70)), args := #[(xt 71)], argTypes := #[83] }) 69 false [70,71], xg 73 (.pick (xt 69) (.const (.bool true)) (xt 72)) 65 true [69,72], xg 74 (.move (xt 73)) 65 true [73], xg 75 (.move (xt 5)) 74 false [], xg 76 (.buildSlice 83 1 #[(0, (.const (.int .u8 2)))]) 74 false [], xg 77 (.call { callee := (.value (xt 75)), args := #[(xt 76)], argTypes := #[83] }) 74 false [75,76], xg 78 (.move (xt 77)) 74 false [77], xg 79 (.fieldAddr 27 (xt 1) 1) 78 true [], xg 80 (.load 2 (xt 79)) 78 true [79], xg 81 (.binOp .eql 2 (xt 80) (.const (.int .i64 1)) 2) 78 true [80], xg 82 (.pick (xt 78) (xt 81) (.const (.bool false))) 74 false [78,81], xg 83 (.pick (xt 74) (.const (.bool true)) (xt 82)) 65 true [74,82], xo 84 (.pick (xt 65) (xt 83) (.const (.bool false))) [65,83], xo 85 (.move (xt 84)) [84], xg 86 (.fieldAddr 27 (xt 1) 2) 85 true [], xg 87 (.load 9 (xt 86)) 85 true [86], xg 88 (.binOp .eql 9 (xt 87) (.const (.string { data := #[] })) 9) 85 true [87], xg 89 (.move (xt 88)) 85 true [88], xg 90 (.move (xt 5)) 89 false [], xg 91 (.buildSlice 83 2 #[(0, (.const (.int .u8 3))), (1, (.const (.int .u8 7)))]) 89 false [], xg 92 (.call { callee := (.value (xt 90)), args := #[(xt 91)], argTypes := #[83] }) 89 false [90,91], xg 93 (.pick (xt 89) (.const (.bool true)) (xt 92)) 85 true [89,92], xo 94 (.pick (xt 85) (xt 93) (.const (.bool false))) [85,93], xo 95 (.move (xt 94)) [94], xg 96 (.fieldAddr 27 (xt 1) 3) 95 true [], xg 97 (.load 23 (xt 96)) 95 true [96], xg 98 (xb .len [97] [23]) 95 true [97], xg 99 (.binOp .eql 3 (xt 98) (.const (.int .i64 0)) 3) 95 true [98], xg 100 (.move (xt 99)) 95 true [99], xg 101 (.move (xt 5)) 100 false [], xg 102 (.buildSlice 83 1 #[(0, (.const (.int .u8 4)))]) 100 false [], xg 103 (.call { callee := (.value (xt 101)), args := #[(xt 102)], argTypes := #[83] }) 100 false [101,102], xg 104 (.pick (xt 100) (.const (.bool true)) (xt 103)) 95 true [100,103], xo 105 (.pick (xt 95) (xt 104) (.const (.bool false))) [95,104], xo 106 (.move (xt 105)) [105], xg 107 (.fieldAddr 27 (xt 1) 4) 106 true [], xg 108 (.load 24 (xt 107)) 106 true [107], xg 109 (xb .len [108] [24]) 106 true [108], xg 110 (.binOp .eql 3 (xt 109) (.const (.int .i64 0)) 3) 106 true [109], xg 111 (.move (xt 110)) 106 true [110], xg 112 (.move (xt 5)) 111 false [], xg 113 (.buildSlice 83 2 #[(0, (.const (.int .u8 5))), (1, (.const (.int .u8 7)))]) 111 false [], xg 114 (.call { callee := (.value (xt 112)), args := #[(xt 113)], argTypes := #[83] }) 111 false [112,113], xg 115 (.pick (xt 111) (.const (.bool true)) (xt 114)) 106 true [111,114], xo 116 (.pick (xt 106) (xt 115) (.const (.bool false))) [106,115], xo 2 (.assign (xt 116)) []])
 (.ret)))))
theorem c35_ok : Tryd.f35.body.map (strip (tab.ann 35)) = some c35 := by kernel_rfl
def c38 : XC :=
  .seq (.region [xo 6 (.assign (.const (.bool false))) []])
 (.seq (.seq (.region [xo 10 (.move (xt 0)) [], xo 11 (xb .len [10] [23]) [10], xo 12 (.move (xt 1)) [], xo 13 (xb .len [12] [23]) [12], xo 14 (.binOp .neq 3 (xt 11) (xt 13) 3) []])
 (.cond 14 (.seq (.region [xo 6 (.assign (.const (.bool false))) []])
 (.ret)) (.skip)))
 (.seq (.seq (.region [xo 15 (.move (xt 0)) [], xo 16 (xb .len [15] [23]) [], xo 17 (.move (.const (.int .i64 0))) []])
 (.block 0 (.loop (.seq (.region [xo 18 (.binOp .lss 3 (xt 17) (xt 16) 3) []])
 (.seq (.cond 18 (.skip) (.exit 0))
 (.seq (.block 1 (.seq (.region [xo 19 (.move (xt 17)) [], xo 20 (.indexAddr 23 (xt 15) (xt 17)) [], xo 21 (.load 27 (xt 20)) [20], xo 8 (.alloc 27) [], xo 7 (.assign (xt 19)) [19], xn (.store 27 (xt 8) (xt 21))])
 (.seq (.region [xo 22 (.move (xt 1)) [], xo 23 (.move (xt 7)) [], xo 24 (.indexAddr 23 (xt 22) (xt 23)) [22,23], xo 25 (.load 27 (xt 24)) [24], xo 9 (.alloc 27) [], xn (.store 27 (xt 9) (xt 25))])
 (.seq (.region [xo 26 (.move (xt 2)) [], xo 27 (.load 27 (xt 8)) [], xo 28 (.load 27 (xt 9)) [], xo 29 (.call { callee := (.value (xt 26)), args := #[(xt 27), (xt 28)], argTypes := #[27, 27] }) [26,27,28], xo 30 (.unOp .not 4 (xt 29)) []])
 (.cond 30 (.seq (.region [xo 6 (.assign (.const (.bool false))) []])
 (.ret)) (.skip))))))
 (.region [xo 31 (.binOp .add 3 (xt 17) (.const (.int .i64 1)) 3) [], xo 17 (.move (xt 31)) []])))))))
 (.seq (.region [xo 6 (.assign (.const (.bool true))) []])
 (.ret))))
theorem c38_ok : Tryd.f38.body.map (strip (tab.ann 38)) = some c38 := by kernel_rfl
def c39 : XC :=
  .seq (.region [xo 4 (.assign (.const (.bool false))) []])
 (.seq (.region [xo 5 (.move (xt 0)) [], xo 6 (.move (xt 1)) [], xo 7 (.call { callee := (.value (.func 62)), args := #[(xt 5), (xt 6), (.func 63)], argTypes := #[24, 24, 99] }) [5,6], xo 4 (.assign (xt 7)) []])
 (.ret))
theorem c39_ok : Tryd.f39.body.map (strip (tab.ann 39)) = some c39 := by kernel_rfl
def c42 : XC :=
  .seq (.region [xo 2 (.assign (.const (.slice none 0 0))) []])
 (.seq (.region [xo 5 (.move (xt 0)) [], xo 6 (xb .len [5] [23]) [5], xo 7 (.binOp .add 3 (xt 6) (.const (.int .i64 1)) 3) [6], xo 8 (.makeSlice 23 (.const (.int .i64 0)) (xt 7)) [7], xo 3 (.assign (xt 8)) []])
 (.seq (.seq (.region [xo 4 (.assign (.const (.int .i64 0))) []])
 (.block 0 (.loop (.seq (.seq (.region [xo 9 (.move (xt 4)) [], xo 10 (.move (xt 0)) [], xo 11 (xb .len [10] [23]) [10], xo 12 (.binOp .lss 3 (xt 9) (xt 11) 3) []])
 (.cond 12 (.skip) (.exit 0)))
 (.seq (.block 1 (.regionG [xo 15 (.move (xt 3)) [], xo 16 (.move (xt 0)) [], xo 17 (.move (xt 4)) [], xo 18 (.indexAddr 23 (xt 16) (xt 17)) [16,17], xo 19 (.load 27 (xt 18)) [18], xo 20 (xc 21 [19] [27]) [19], xo 21 (.buildSlice 23 1 #[(0, (xt 20))]) [20], xo 22 (xb .append [15,21] [23,23]) [15,21], xo 3 (.assign (xt 22)) []]))
 (.region [xo 13 (.move (xt 4)) [], xo 14 (.binOp .add 3 (xt 13) (.const (.int .i64 1)) 3) [13], xo 4 (.assign (xt 14)) []]))))))
 (.seq (.regionG [xo 23 (.move (xt 3)) [], xo 24 (.build 27 #[(2, (.const (.string { data := #[115, 112, 97, 114, 101] })))]) [], xo 25 (.buildSlice 23 1 #[(0, (xt 24))]) [24], xo 26 (xb .append [23,25] [23,23]) [23,25], xo 27 (.move (xt 0)) [], xo 28 (xb .len [27] [23]) [27], xo 29 (.slice 23 (xt 26) none (some (xt 28)) none) [26,28], xo 2 (.assign (xt 29)) []])
 (.ret))))
theorem c42_ok : Tryd.f42.body.map (strip (tab.ann 42)) = some c42 := by kernel_rfl
def c43 : XC :=
  .seq (.region [xo 2 (.assign (.const (.slice none 0 0))) []])
 (.seq (.region [xo 5 (.move (xt 0)) [], xo 6 (xb .len [5] [24]) [5], xo 7 (.binOp .add 3 (xt 6) (.const (.int .i64 1)) 3) [6], xo 8 (.makeSlice 24 (.const (.int .i64 0)) (xt 7)) [7], xo 3 (.assign (xt 8)) []])
 (.seq (.seq (.region [xo 4 (.assign (.const (.int .i64 0))) []])
 (.block 0 (.loop (.seq (.seq (.region [xo 9 (.move (xt 4)) [], xo 10 (.move (xt 0)) [], xo 11 (xb .len [10] [24]) [10], xo 12 (.binOp .lss 3 (xt 9) (xt 11) 3) []])
 (.cond 12 (.skip) (.exit 0)))
 (.seq (.block 1 (.regionG [xo 15 (.move (xt 3)) [], xo 16 (.move (xt 0)) [], xo 17 (.move (xt 4)) [], xo 18 (.indexAddr 24 (xt 16) (xt 17)) [16,17], xo 19 (.load 36 (xt 18)) [18], xo 20 (xc 64 [19] [36]) [19], xo 21 (.buildSlice 24 1 #[(0, (xt 20))]) [20], xo 22 (xb .append [15,21] [24,24]) [15,21], xo 3 (.assign (xt 22)) []]))
 (.region [xo 13 (.move (xt 4)) [], xo 14 (.binOp .add 3 (xt 13) (.const (.int .i64 1)) 3) [13], xo 4 (.assign (xt 14)) []]))))))
 (.seq (.regionG [xo 23 (.move (xt 3)) [], xo 24 (.build 36 #[(0, (.const (.string { data := #[115, 112, 97, 114, 101] })))]) [], xo 25 (.buildSlice 24 1 #[(0, (xt 24))]) [24], xo 26 (xb .append [23,25] [24,24]) [23,25], xo 27 (.move (xt 0)) [], xo 28 (xb .len [27] [24]) [27], xo 29 (.slice 24 (xt 26) none (some (xt 28)) none) [26,28], xo 2 (.assign (xt 29)) []])
 (.ret))))
theorem c43_ok : Tryd.f43.body.map (strip (tab.ann 43)) = some c43 := by kernel_rfl
def c49 : XC :=
  .seq (.region [xo 1 (.box 36 (xt 0)) [], xo 2 (.assign (.const (.int .i64 0))) []])
 (.seq (.region [xo 4 (.fieldAddr 36 (xt 1) 0) [], xo 5 (.load 9 (xt 4)) [4], xo 6 (xb .len [5] [9]) [5], xo 7 (.binOp .add 3 (.const (.int .i64 1)) (xt 6) 3) [6], xo 3 (.assign (xt 7)) []])
 (.seq (.seq (.region [xo 8 (.move (xt 3)) [], xo 9 (.binOp .leq 3 (xt 8) (.const (.int .i64 1048576)) 3) []])
 (.cond 9 (.region [xo 10 (.move (xt 3)) [], xo 11 (.fieldAddr 36 (xt 1) 1) [], xo 12 (.load 27 (xt 11)) [11], xo 13 (xc 14 [12] [27]) [12], xo 14 (.binOp .add 3 (xt 10) (xt 13) 3) [10,13], xo 3 (.assign (xt 14)) []]) (.skip)))
 (.seq (.region [xo 15 (.move (xt 3)) [], xo 2 (.assign (xt 15)) []])
 (.ret))))
theorem c49_ok : Tryd.f49.body.map (strip (tab.ann 49)) = some c49 := by kernel_rfl
def c50 : XC :=
  .seq (.region [xo 4 (.box 27 (xt 0)) [], xo 6 (.assign (.const (.bool false))) []])
 (.seq (.seq (.region [xo 11 (.load 60 (xt 2)) [], xo 12 (.load 27 (xt 4)) [], xo 13 (.move (xt 1)) [], xo 14 (.call { callee := (.value (xt 11)), args := #[(xt 12), (xt 13)], argTypes := #[27, 3] }) [11,12,13], xo 15 (.unOp .not 4 (xt 14)) []])
 (.cond 15 (.seq (.region [xo 6 (.assign (.const (.bool false))) []])
 (.ret)) (.skip)))
 (.seq (.seq (.region [xo 16 (.fieldAddr 27 (xt 4) 3) [], xo 17 (.load 23 (xt 16)) [16], xo 18 (xb .len [17] [23]) [], xo 19 (.move (.const (.int .i64 0))) []])
 (.block 0 (.loop (.seq (.region [xo 20 (.binOp .lss 3 (xt 19) (xt 18) 3) []])
 (.seq (.cond 20 (.skip) (.exit 0))
 (.seq (.block 1 (.seq (.region [xo 21 (.indexAddr 23 (xt 17) (xt 19)) [], xo 22 (.load 27 (xt 21)) [21], xo 8 (.alloc 27) [], xn (.store 27 (xt 8) (xt 22))])
 (.seq (.region [xo 23 (.load 60 (xt 3)) [], xo 24 (.load 27 (xt 8)) [], xo 25 (.move (xt 1)) [], xo 26 (.binOp .add 3 (xt 25) (.const (.int .i64 1)) 3) [25], xo 27 (.call { callee := (.value (xt 23)), args := #[(xt 24), (xt 26)], argTypes := #[27, 3] }) [23,24,26], xo 28 (.unOp .not 4 (xt 27)) []])
 (.cond 28 (.seq (.region [xo 6 (.assign (.const (.bool false))) []])
 (.ret)) (.skip)))))
 (.region [xo 29 (.binOp .add 3 (xt 19) (.const (.int .i64 1)) 3) [], xo 19 (.move (xt 29)) []])))))))
 (.seq (.seq (.region [xo 30 (.fieldAddr 27 (xt 4) 4) [], xo 31 (.load 24 (xt 30)) [30], xo 32 (xb .len [31] [24]) [], xo 33 (.move (.const (.int .i64 0))) []])
 (.block 2 (.loop (.seq (.region [xo 34 (.binOp .lss 3 (xt 33) (xt 32) 3) []])
 (.seq (.cond 34 (.skip) (.exit 2))
 (.seq (.block 3 (.seq (.region [xo 35 (.indexAddr 24 (xt 31) (xt 33)) [], xo 36 (.load 36 (xt 35)) [35], xo 10 (.alloc 36) [], xn (.store 36 (xt 10) (xt 36))])
 (.seq (.region [xo 37 (.load 60 (xt 3)) [], xo 38 (.fieldAddr 36 (xt 10) 1) [], xo 39 (.load 27 (xt 38)) [38], xo 40 (.move (xt 1)) [], xo 41 (.binOp .add 3 (xt 40) (.const (.int .i64 1)) 3) [40], xo 42 (.call { callee := (.value (xt 37)), args := #[(xt 39), (xt 41)], argTypes := #[27, 3] }) [37,39,41], xo 43 (.unOp .not 4 (xt 42)) []])
 (.cond 43 (.seq (.region [xo 6 (.assign (.const (.bool false))) []])
 (.ret)) (.skip)))))
 (.region [xo 44 (.binOp .add 3 (xt 33) (.const (.int .i64 1)) 3) [], xo 33 (.move (xt 44)) []])))))))
 (.seq (.region [xo 6 (.assign (.const (.bool true))) []])
 (.ret)))))
theorem c50_ok : Tryd.f50.body.map (strip (tab.ann 50)) = some c50 := by kernel_rfl
def c51 : XC :=
  .seq (.region [xo 2 (.assign (.const (.bool false))) []])
 (.seq (.regionG [xo 3 (.move (xt 0)) [], xo 4 (.binOp .neq 9 (xt 3) (.const (.string { data := #[] })) 9) [3], xo 5 (.move (xt 4)) [4], xg 6 (.move (xt 0)) 5 true [], xg 7 (xb .len [6] [9]) 5 true [6], xg 8 (.binOp .leq 3 (xt 7) (.const (.int .i64 4096)) 3) 5 true [7], xo 9 (.pick (xt 5) (xt 8) (.const (.bool false))) [5,8], xo 2 (.assign (xt 9)) []])
 (.ret))
theorem c51_ok : Tryd.f51.body.map (strip (tab.ann 51)) = some c51 := by kernel_rfl
def c52 : XC :=
  .seq (.region [xo 1 (.box 27 (xt 0)) [], xo 2 (.assign (.const (.bool false))) []])
 (.seq (.seq (.regionG [xo 5 (.fieldAddr 27 (xt 1) 1) [], xo 6 (.load 2 (xt 5)) [5], xo 7 (.binOp .neq 2 (xt 6) (.const (.int .i64 0)) 2) [6], xo 8 (.move (xt 7)) [7], xg 9 (.fieldAddr 27 (xt 1) 5) 8 false [], xg 10 (.load 25 (xt 9)) 8 false [9], xg 11 (.binOp .leq 25 (xt 10) (.const (.int .u8 0)) 25) 8 false [10], xo 12 (.pick (xt 8) (.const (.bool true)) (xt 11)) [8,11], xo 13 (.move (xt 12)) [12], xg 14 (.fieldAddr 27 (xt 1) 5) 13 false [], xg 15 (.load 25 (xt 14)) 13 false [14], xg 16 (.binOp .geq 25 (xt 15) (.const (.int .u8 9)) 25) 13 false [15], xo 17 (.pick (xt 13) (.const (.bool true)) (xt 16)) [13,16], xo 18 (.move (xt 17)) [17], xg 19 (.fieldAddr 27 (xt 1) 6) 18 false [], xg 20 (.load 9 (xt 19)) 18 false [19], xg 21 (xb .len [20] [9]) 18 false [20], xg 22 (.binOp .gtr 3 (xt 21) (.const (.int .i64 4096)) 3) 18 false [21], xo 23 (.pick (xt 18) (.const (.bool true)) (xt 22)) [18,22], xo 24 (.move (xt 23)) [23], xg 25 (.fieldAddr 27 (xt 1) 7) 24 false [], xg 26 (.load 4 (xt 25)) 24 false [25], xg 27 (.unOp .not 4 (xt 26)) 24 false [26], xg 28 (.move (xt 27)) 24 false [27], xg 29 (.fieldAddr 27 (xt 1) 6) 28 true [], xg 30 (.load 9 (xt 29)) 28 true [29], xg 31 (.binOp .neq 9 (xt 30) (.const (.string { data := #[] })) 9) 28 true [30], xg 32 (.pick (xt 28) (xt 31) (.const (.bool false))) 24 false [28,31], xo 33 (.pick (xt 24) (.const (.bool true)) (xt 32)) []])
 (.cond 33 (.seq (.region [xo 2 (.assign (.const (.bool false))) []])
 (.ret)) (.skip)))
 (.seq (.seq (.region [xo 35 (.fieldAddr 27 (xt 1) 5) [], xo 36 (.load 25 (xt 35)) [35], xo 37 (xc 84 [36] [25]) [36], xo 34 (.move (xt 37)) [37], xo 38 (.extract (xt 34) 0) [], xo 39 (.extract (xt 34) 1) [34], xo 3 (.assign (xt 38)) [38], xo 4 (.assign (xt 39)) []])
 (.seq (.regionG [xo 40 (.move (xt 4)) [], xo 41 (.move (xt 40)) [40], xg 42 (.fieldAddr 27 (xt 1) 4) 41 true [], xg 43 (.load 24 (xt 42)) 41 true [42], xg 44 (.move (xt 3)) 41 true [], xg 45 (.call { callee := (.value (.func 85)), args := #[(xt 43), (xt 44), (.func 86)], argTypes := #[24, 54, 108] }) 41 true [43,44], xg 46 (.unOp .not 4 (xt 45)) 41 true [45], xo 47 (.pick (xt 41) (xt 46) (.const (.bool false))) []])
 (.cond 47 (.seq (.region [xo 2 (.assign (.const (.bool false))) []])
 (.ret)) (.skip))))
 (.seq (.seq (.region [xo 48 (.fieldAddr 27 (xt 1) 5) [], xo 49 (.load 25 (xt 48)) []])
 (.block 0 (.seq (.seq (.region [xo 51 (.binOp .eql 25 (xt 49) (.const (.int .u8 4)) 25) [], xo 50 (.assign (xt 51)) []])
 (.cond 50 (.skip) (.seq (.region [xo 52 (.binOp .eql 25 (xt 49) (.const (.int .u8 7)) 25) [], xo 50 (.assign (xt 52)) []])
 (.cond 50 (.skip) (.region [xo 53 (.binOp .eql 25 (xt 49) (.const (.int .u8 8)) 25) [], xo 50 (.assign (xt 53)) []])))))
 (.cond 50 (.seq (.region [xo 54 (.fieldAddr 27 (xt 1) 2) [], xo 55 (.load 9 (xt 54)) [54], xo 56 (.binOp .eql 9 (xt 55) (.const (.string { data := #[] })) 9) [55], xo 2 (.assign (xt 56)) []])
 (.ret)) (.skip)))))
 (.seq (.region [xo 57 (.fieldAddr 27 (xt 1) 2) [], xo 58 (.load 9 (xt 57)) [57], xo 59 (xc 51 [58] [9]) [58], xo 2 (.assign (xt 59)) []])
 (.ret)))))
theorem c52_ok : Tryd.f52.body.map (strip (tab.ann 52)) = some c52 := by kernel_rfl
def c53 : XC :=
  .seq (.region [xo 3 (.assign (.const (.bool false))) []])
 (.seq (.region [xo 4 (.move (xt 0)) [], xo 5 (.fieldAddr 27 (xt 1) 0) [], xo 6 (.load 22 (xt 5)) [5], xo 7 (xc 54 [4,6] [83,22]) [4,6], xo 3 (.assign (xt 7)) []])
 (.ret))
theorem c53_ok : Tryd.f53.body.map (strip (tab.ann 53)) = some c53 := by kernel_rfl
def c54 : XC :=
  .seq (.region [xo 4 (.assign (.const (.bool false))) []])
 (.seq (.region [xo 5 (.move (xt 0)) [], xo 6 (.move (xt 1)) [], xo 7 (xc 87 [5,6] [83,22]) [5,6], xo 8 (.binOp .geq 3 (xt 7) (.const (.int .i64 0)) 3) [7], xo 4 (.assign (xt 8)) []])
 (.ret))
theorem c54_ok : Tryd.f54.body.map (strip (tab.ann 54)) = some c54 := by kernel_rfl
def c62 : XC :=
  .seq (.region [xo 6 (.assign (.const (.bool false))) []])
 (.seq (.seq (.region [xo 10 (.move (xt 0)) [], xo 11 (xb .len [10] [24]) [10], xo 12 (.move (xt 1)) [], xo 13 (xb .len [12] [24]) [12], xo 14 (.binOp .neq 3 (xt 11) (xt 13) 3) []])
 (.cond 14 (.seq (.region [xo 6 (.assign (.const (.bool false))) []])
 (.ret)) (.skip)))
 (.seq (.seq (.region [xo 15 (.move (xt 0)) [], xo 16 (xb .len [15] [24]) [], xo 17 (.move (.const (.int .i64 0))) []])
 (.block 0 (.loop (.seq (.region [xo 18 (.binOp .lss 3 (xt 17) (xt 16) 3) []])
 (.seq (.cond 18 (.skip) (.exit 0))
 (.seq (.block 1 (.seq (.region [xo 19 (.move (xt 17)) [], xo 20 (.indexAddr 24 (xt 15) (xt 17)) [], xo 21 (.load 36 (xt 20)) [20], xo 8 (.alloc 36) [], xo 7 (.assign (xt 19)) [19], xn (.store 36 (xt 8) (xt 21))])
 (.seq (.region [xo 22 (.move (xt 1)) [], xo 23 (.move (xt 7)) [], xo 24 (.indexAddr 24 (xt 22) (xt 23)) [22,23], xo 25 (.load 36 (xt 24)) [24], xo 9 (.alloc 36) [], xn (.store 36 (xt 9) (xt 25))])
 (.seq (.region [xo 26 (.move (xt 2)) [], xo 27 (.load 36 (xt 8)) [], xo 28 (.load 36 (xt 9)) [], xo 29 (.call { callee := (.value (xt 26)), args := #[(xt 27), (xt 28)], argTypes := #[36, 36] }) [26,27,28], xo 30 (.unOp .not 4 (xt 29)) []])
 (.cond 30 (.seq (.region [xo 6 (.assign (.const (.bool false))) []])
 (.ret)) (.skip))))))
 (.region [xo 31 (.binOp .add 3 (xt 17) (.const (.int .i64 1)) 3) [], xo 17 (.move (xt 31)) []])))))))
 (.seq (.region [xo 6 (.assign (.const (.bool true))) []])
 (.ret))))
theorem c62_ok : Tryd.f62.body.map (strip (tab.ann 62)) = some c62 := by kernel_rfl
def c63 : XC :=
  .seq (.region [xo 2 (.box 36 (xt 0)) [], xo 3 (.box 36 (xt 1)) [], xo 4 (.assign (.const (.bool false))) []])
 (.seq (.regionG [xo 5 (.fieldAddr 36 (xt 2) 0) [], xo 6 (.load 9 (xt 5)) [5], xo 7 (.fieldAddr 36 (xt 3) 0) [], xo 8 (.load 9 (xt 7)) [7], xo 9 (.binOp .eql 9 (xt 6) (xt 8) 9) [6,8], xo 10 (.move (xt 9)) [9], xg 11 (.fieldAddr 36 (xt 2) 1) 10 true [], xg 12 (.load 27 (xt 11)) 10 true [11], xg 13 (.fieldAddr 36 (xt 3) 1) 10 true [], xg 14 (.load 27 (xt 13)) 10 true [13], xg 15 (xc 17 [12,14] [27,27]) 10 true [12,14], xo 16 (.pick (xt 10) (xt 15) (.const (.bool false))) [10,15], xo 4 (.assign (xt 16)) []])
 (.ret))
theorem c63_ok : Tryd.f63.body.map (strip (tab.ann 63)) = some c63 := by kernel_rfl
def c64 : XC :=
  .seq (.region [xo 1 (.box 36 (xt 0)) [], xo 2 (.alloc 36) []])
 (.seq (.region [xo 3 (.fieldAddr 36 (xt 1) 0) [], xo 4 (.load 9 (xt 3)) [], xo 5 (.fieldAddr 36 (xt 1) 1) [], xo 6 (.load 27 (xt 5)) [], xk 7 (xc 21 [6] [27]) [], xo 8 (.build 36 #[(0, (xt 4)), (1, (xt 7))]) [], xn (.store 36 (xt 2) (xt 8))])
 (.ret))
theorem c64_ok : Tryd.f64.body.map (strip (tab.ann 64)) = some c64 := by kernel_rfl
def c84 : XC :=
  .seq (.region [xo 2 (.assign (.const (.slice none 0 0))) [13], xo 3 (.assign (.const (.bool false))) []])
 (.seq (.seq (.region [xo 4 (.move (xt 0)) []])
 (.block 0 (.seq (.region [xo 6 (.binOp .eql 25 (xt 4) (.const (.int .u8 6)) 25) [], xo 5 (.assign (xt 6)) []])
 (.cond 5 (.seq (.region [xo 7 (.buildSlice 54 1 #[(0, (.const (.string { data := #[118, 97, 108, 117, 101] })))]) [], xo 2 (.assign (xt 7)) [13], xo 3 (.assign (.const (.bool true))) []])
 (.ret)) (.seq (.region [xo 9 (.binOp .eql 25 (xt 4) (.const (.int .u8 7)) 25) [], xo 8 (.assign (xt 9)) []])
 (.cond 8 (.seq (.region [xo 10 (.buildSlice 54 2 #[(0, (.const (.string { data := #[97, 103, 97, 105, 110] }))), (1, (.const (.string { data := #[101, 108, 115, 101] })))]) [], xo 2 (.assign (xt 10)) [13], xo 3 (.assign (.const (.bool true))) []])
 (.ret)) (.seq (.region [xo 12 (.binOp .eql 25 (xt 4) (.const (.int .u8 8)) 25) [], xo 11 (.assign (xt 12)) []])
 (.cond 11 (.seq (.region [xo 13 (.buildSlice 54 1 #[(0, (.const (.string { data := #[101, 108, 115, 101] })))]) [], xo 2 (.assign (xt 13)) [13], xo 3 (.assign (.const (.bool true))) []])
 (.ret)) (.seq (.seq (.region [xo 15 (.binOp .eql 25 (xt 4) (.const (.int .u8 4)) 25) [], xo 14 (.assign (xt 15)) []])
 (.cond 14 (.skip) (.region [xo 16 (.binOp .eql 25 (xt 4) (.const (.int .u8 5)) 25) [], xo 14 (.assign (xt 16)) []])))
 (.cond 14 (.seq (.region [xo 2 (.assign (.const (.slice none 0 0))) [13], xo 3 (.assign (.const (.bool true))) []])
 (.ret)) (.skip)))))))))))
 (.seq (.region [xo 2 (.assign (.const (.slice none 0 0))) [13], xo 3 (.assign (.const (.bool false))) []])
 (.ret)))
theorem c84_ok : Tryd.f84.body.map (strip (tab.ann 84)) = some c84 := by kernel_rfl
def c85 : XC :=
  .seq (.region [xo 6 (.assign (.const (.bool false))) []])
 (.seq (.seq (.region [xo 10 (.move (xt 0)) [], xo 11 (xb .len [10] [24]) [10], xo 12 (.move (xt 1)) [], xo 13 (xb .len [12] [54]) [12], xo 14 (.binOp .neq 3 (xt 11) (xt 13) 3) []])
 (.cond 14 (.seq (.region [xo 6 (.assign (.const (.bool false))) []])
 (.ret)) (.skip)))
 (.seq (.seq (.region [xo 15 (.move (xt 0)) [], xo 16 (xb .len [15] [24]) [], xo 17 (.move (.const (.int .i64 0))) []])
 (.block 0 (.loop (.seq (.region [xo 18 (.binOp .lss 3 (xt 17) (xt 16) 3) []])
 (.seq (.cond 18 (.skip) (.exit 0))
 (.seq (.block 1 (.seq (.region [xo 19 (.move (xt 17)) [], xo 20 (.indexAddr 24 (xt 15) (xt 17)) [], xo 21 (.load 36 (xt 20)) [20], xo 8 (.alloc 36) [], xo 7 (.assign (xt 19)) [19], xn (.store 36 (xt 8) (xt 21))])
 (.seq (.region [xo 22 (.move (xt 1)) [], xo 23 (.move (xt 7)) [], xo 24 (.indexAddr 54 (xt 22) (xt 23)) [22,23], xo 25 (.load 9 (xt 24)) [24], xo 9 (.assign (xt 25)) []])
 (.seq (.region [xo 26 (.move (xt 2)) [], xo 27 (.load 36 (xt 8)) [], xo 28 (.move (xt 9)) [], xo 29 (.call { callee := (.value (xt 26)), args := #[(xt 27), (xt 28)], argTypes := #[36, 9] }) [26,27,28], xo 30 (.unOp .not 4 (xt 29)) []])
 (.cond 30 (.seq (.region [xo 6 (.assign (.const (.bool false))) []])
 (.ret)) (.skip))))))
 (.region [xo 31 (.binOp .add 3 (xt 17) (.const (.int .i64 1)) 3) [], xo 17 (.move (xt 31)) []])))))))
 (.seq (.region [xo 6 (.assign (.const (.bool true))) []])
 (.ret))))
theorem c85_ok : Tryd.f85.body.map (strip (tab.ann 85)) = some c85 := by kernel_rfl
def c86 : XC :=
  .seq (.region [xo 2 (.box 36 (xt 0)) [], xo 4 (.assign (.const (.bool false))) []])
 (.seq (.region [xo 5 (.fieldAddr 36 (xt 2) 0) [], xo 6 (.load 9 (xt 5)) [5], xo 7 (.move (xt 1)) [], xo 8 (.binOp .eql 9 (xt 6) (xt 7) 9) [6,7], xo 4 (.assign (xt 8)) []])
 (.ret))
theorem c86_ok : Tryd.f86.body.map (strip (tab.ann 86)) = some c86 := by kernel_rfl
def c87 : XC :=
  .seq (.region [xo 4 (.assign (.const (.int .i64 0))) []])
 (.seq (.seq (.region [xo 6 (.move (xt 0)) [], xo 7 (xb .len [6] [83]) [6], xo 8 (.move (.const (.int .i64 0))) []])
 (.block 0 (.loop (.seq (.region [xo 9 (.binOp .lss 3 (xt 8) (xt 7) 3) []])
 (.seq (.cond 9 (.skip) (.exit 0))
 (.seq (.block 1 (.seq (.region [xo 10 (.move (xt 8)) [], xo 5 (.assign (xt 10)) []])
 (.seq (.region [xo 11 (.move (xt 1)) [], xo 12 (.move (xt 0)) [], xo 13 (.move (xt 5)) [], xo 14 (.indexAddr 83 (xt 12) (xt 13)) [12,13], xo 15 (.load 22 (xt 14)) [14], xo 16 (.binOp .eql 22 (xt 11) (xt 15) 22) []])
 (.cond 16 (.seq (.region [xo 17 (.move (xt 5)) [], xo 4 (.assign (xt 17)) []])
 (.ret)) (.skip)))))
 (.region [xo 18 (.binOp .add 3 (xt 8) (.const (.int .i64 1)) 3) [], xo 8 (.move (xt 18)) []])))))))
 (.seq (.region [xo 4 (.assign (.const (.int .i64 (-1)))) []])
 (.ret)))
theorem c87_ok : Tryd.f87.body.map (strip (tab.ann 87)) = some c87 := by kernel_rfl
end Go.Proofs.YtdmpjlpkmokllaaDoor
