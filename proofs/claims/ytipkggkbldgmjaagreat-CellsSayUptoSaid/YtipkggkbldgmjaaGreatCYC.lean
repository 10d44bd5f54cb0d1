/- The code of the functions, as little of it as is needed: printed by a small program, held against the loaded program by evaluation. -/
import Derived.Test.YtipkggkbldgmjaaGreatXTabCY
namespace Go.Proofs.YtipkggkbldgmjaaGreat
open Go Go.X
set_option linter.unusedVariables false
set_option linter.unusedSimpArgs false
set_option maxRecDepth 100000
def c3 : XC :=
 .seq (.region [xo 6 (.assign xF) []])
 (.seq (.region [oM 13 0 [], xo 14 (xc 4 [13] [22]) [13], oA 7 14 []])
 (.seq (.region [oM 15 1 [], xo 16 (xc 4 [15] [22]) [15], oA 8 16 []])
 (.seq (.region [oM 18 7 [], oM 19 2 [], xo 20 (xc 5 [18,19] [22,9]) [18,19], oM 17 20 [20], xo 21 (.extract (xt 17) 0) [], xo 22 (.extract (xt 17) 1) [17], xo 9 (.alloc 29) [], xn (.store 29 (xt 9) (xt 21)), oA 10 22 []])
 (.seq (.region [oM 24 0 [], oM 25 2 [2], xo 26 (xc 6 [24,25] [22,9]) [24,25], oM 23 26 [26], xo 27 (.extract (xt 23) 0) [], xo 28 (.extract (xt 23) 1) [23], xo 11 (.alloc 29) [], xn (.store 29 (xt 11) (xt 27)), oA 12 28 []])
 (.seq (.seq (.bV [oM 29 7 [], oM 30 8 [], xo 31 (xc 7 [29,30] [22,22]) [29,30], oM 32 0 [], oM 33 1 [], xo 34 (xc 8 [32,33] [22,22]) [32,33], xo 35 (.binOp .neq 4 (xt 31) (xt 34) 4) [31,34], oM 36 35 [35], gM 37 7 36 false [], xg 38 (xc 9 [37] [22]) 36 false [37], gM 39 0 36 false [], xg 40 (xc 10 [39] [22]) 36 false [39], xg 41 (.binOp .neq 4 (xt 38) (xt 40) 4) 36 false [38,40], xo 42 (.pick (xt 36) xT (xt 41)) [36,41], oM 43 42 [42], gM 44 7 43 false [], xg 45 (xc 11 [44] [22]) 43 false [44], gM 46 0 43 false [], xg 47 (xc 12 [46] [22]) 43 false [46], xg 48 (.binOp .neq 4 (xt 45) (xt 47) 4) 43 false [45,47], xo 49 (.pick (xt 43) xT (xt 48)) []])
 (.cond 49 (.seq (.region [xo 6 (.assign xF) []])
 (.ret)) (.skip)))
 (.seq (.bV [oM 50 10 [], oM 51 12 [], xo 52 (.binOp .eql 4 (xt 50) (xt 51) 4) [50,51], oM 53 52 [52], gL 54 29 9 53 true [], gL 55 29 11 53 true [], xg 56 (xc 13 [54,55] [29,29]) 53 true [54,55], xo 57 (.pick (xt 53) (xt 56) xF) [53,56], oM 58 57 [57], gM 59 7 58 true [], gM 60 0 58 true [0], xg 61 (xc 14 [59,60] [22,22]) 58 true [59,60], xo 62 (.pick (xt 58) (xt 61) xF) [58,61], oM 63 62 [62], gM 64 8 63 true [], gM 65 1 63 true [1], xg 66 (xc 14 [64,65] [22,22]) 63 true [64,65], xo 67 (.pick (xt 63) (xt 66) xF) [63,66], oM 68 67 [67], xg 69 (xc 15 [] []) 68 true [], xo 70 (.pick (xt 68) (xt 69) xF) [68,69], oA 6 70 []])
 (.ret)))))))
theorem apB : Tryz.f3.body.map (strip (tab.ann 3)) = some c3 := by kernel_rfl
def c4 : XC :=
 .seq (.region [xo 2 (.assign (.const (.slice none 0 0))) []])
 (.seq (.region [oM 5 0 [], xo 6 (xb .len [5] [22]) [5], xo 7 (.binOp .add 3 (xt 6) (xi .i64 1) 3) [6], xo 8 (.makeSlice 22 (xi .i64 0) (xt 7)) [7], oA 3 8 []])
 (.seq (.seq (.region [xo 4 (.assign (xi .i64 0)) []])
 (.block 0 (.loop (.seq (.seq (.region [oM 9 4 [], oM 10 0 [], xo 11 (xb .len [10] [22]) [10], xo 12 (.binOp .lss 3 (xt 9) (xt 11) 3) []])
 (.cond 12 (.skip) (.exit 0)))
 (.seq (.block 1 (.bV [oM 15 3 [], oM 16 0 [], oM 17 4 [], oI 18 22 16 17 [16,17], oL 19 40 18 [18], xo 20 (xc 16 [19] [40]) [19], xo 21 (.buildSlice 22 1 #[(0, (xt 20))]) [20], xo 22 (xb .append [15,21] [22,22]) [15,21], oA 3 22 []]))
 (.region [oM 13 4 [], xo 14 (.binOp .add 3 (xt 13) (xi .i64 1) 3) [13], oA 4 14 []]))))))
 (.seq (.bV [oM 23 3 [], xo 24 (.build 40 #[(1, (.const (.string { data := #[115, 112, 97, 114, 101] })))]) [], xo 25 (.buildSlice 22 1 #[(0, (xt 24))]) [24], xo 26 (xb .append [23,25] [22,22]) [23,25], oM 27 0 [0], xo 28 (xb .len [27] [22]) [27], xo 29 (.slice 22 (xt 26) none (some (xt 28)) none) [26,28], oA 2 29 []])
 (.ret))))
theorem apC : Tryz.f4.body.map (strip (tab.ann 4)) = some c4 := by kernel_rfl
def c5 : XC :=
 .seq (.region [xo 4 (.alloc 29) [], xo 5 (.assign xF) []])
 (.seq (.region [oM 7 0 [], oM 8 1 [1], xo 9 (xc 17 [7,8] [22,9]) [7,8], oA 6 9 []])
 (.seq (.seq (.region [oM 10 6 [], xo 11 (.binOp .lss 3 (xt 10) (xi .i64 0) 3) []])
 (.cond 11 (.seq (.region [xo 12 (.build 29 #[]) [], xn (.store 29 (xt 4) (xt 12)), xo 5 (.assign xF) []])
 (.ret)) (.skip)))
 (.seq (.region [oM 13 0 [0], oM 14 6 [], oI 15 22 13 14 [13,14], oF 16 40 15 3 [15], oL 17 29 16 [16], xo 18 (xc 18 [17] [29]) [17], xn (.store 29 (xt 4) (xt 18)), xo 5 (.assign xT) []])
 (.ret))))
theorem apD : Tryz.f5.body.map (strip (tab.ann 5)) = some c5 := by kernel_rfl
def c6 : XC :=
 .seq (.region [xo 4 (.alloc 29) [], xo 5 (.assign xF) []])
 (.seq (.region [oM 7 0 [], oM 8 1 [1], xo 9 (xc 19 [7,8] [22,9]) [7,8], oA 6 9 []])
 (.seq (.seq (.region [oM 10 6 [], xo 11 (.binOp .lss 3 (xt 10) (xi .i64 0) 3) []])
 (.cond 11 (.seq (.region [xo 12 (.build 29 #[]) [], xn (.store 29 (xt 4) (xt 12)), xo 5 (.assign xF) []])
 (.ret)) (.skip)))
 (.seq (.region [oM 13 0 [0], oM 14 6 [], oI 15 22 13 14 [13,14], oF 16 40 15 3 [15], oL 17 29 16 [16], xn (.store 29 (xt 4) (xt 17)), xo 5 (.assign xT) []])
 (.ret))))
theorem apE : Tryz.f6.body.map (strip (tab.ann 6)) = some c6 := by kernel_rfl
def c7 : XC :=
 .seq (.region [xo 4 (.assign xF) []])
 (.seq (.region [oM 5 0 [0], oM 6 1 [1], xo 7 (.call { callee := (.value (.func 20)), args := #[(xt 5), (xt 6), (.func 21)], argTypes := #[22, 22, 45] }) [5,6], oA 4 7 []])
 (.ret))
theorem ajk : Tryz.f7.body.map (strip (tab.ann 7)) = some c7 := by kernel_rfl
def c8 : XC :=
 .seq (.region [xo 4 (.assign xF) []])
 (.seq (.seq (.region [oM 6 0 [], xo 7 (xb .len [6] [22]) [6], oM 8 1 [], xo 9 (xb .len [8] [22]) [8], xo 10 (.binOp .neq 3 (xt 7) (xt 9) 3) []])
 (.cond 10 (.seq (.region [xo 4 (.assign xF) []])
 (.ret)) (.skip)))
 (.seq (.seq (.region [xo 5 (.assign (xi .i64 0)) []])
 (.block 0 (.loop (.seq (.seq (.region [oM 11 5 [], oM 12 0 [], xo 13 (xb .len [12] [22]) [12], xo 14 (.binOp .lss 3 (xt 11) (xt 13) 3) []])
 (.cond 14 (.skip) (.exit 0)))
 (.seq (.block 1 (.seq (.bV [oM 17 0 [], oM 18 5 [], oI 19 22 17 18 [], oF 20 40 19 0 [], oL 21 37 20 [], oM 22 1 [], oM 23 5 [], oI 24 22 22 23 [], oF 25 40 24 0 [], oL 26 37 25 [], xo 27 (.binOp .neq 37 (xt 21) (xt 26) 37) [], oM 28 27 [], gM 29 0 28 false [], gM 30 5 28 false [], xg 31 (.indexAddr 22 (xt 29) (xt 30)) 28 false [], gF 32 40 31 1 28 false [], gL 33 9 32 28 false [], gM 34 1 28 false [], gM 35 5 28 false [], xg 36 (.indexAddr 22 (xt 34) (xt 35)) 28 false [], gF 37 40 36 1 28 false [], gL 38 9 37 28 false [], xg 39 (.binOp .neq 9 (xt 33) (xt 38) 9) 28 false [], xo 40 (.pick (xt 28) xT (xt 39)) []])
 (.cond 40 (.seq (.region [xo 4 (.assign xF) []])
 (.ret)) (.skip))))
 (.region [oM 15 5 [], xo 16 (.binOp .add 3 (xt 15) (xi .i64 1) 3) [15], oA 5 16 []]))))))
 (.seq (.region [xo 4 (.assign xT) []])
 (.ret))))
theorem apF : Tryz.f8.body.map (strip (tab.ann 8)) = some c8 := by kernel_rfl
def c9 : XC :=
 .seq (.region [xo 2 (.assign xF) []])
 (.seq (.region [oM 3 0 [0], xo 4 (.buildSlice 56 1 #[(0, (xi .u8 1))]) [], xo 5 (.call { callee := (.value (.func 22)), args := #[(xt 3), (.func 23), (xt 4)], argTypes := #[22, 47, 56] }) [3,4], xo 6 (.binOp .geq 3 (xt 5) (xi .i64 0) 3) [5], oA 2 6 []])
 (.ret))
theorem ajl : Tryz.f9.body.map (strip (tab.ann 9)) = some c9 := by kernel_rfl
def c10 : XC :=
 .seq (.region [xo 2 (.assign xF) []])
 (.seq (.seq (.region [xo 3 (.assign (xi .i64 0)) []])
 (.block 0 (.loop (.seq (.seq (.region [oM 4 3 [], oM 5 0 [], xo 6 (xb .len [5] [22]) [5], xo 7 (.binOp .lss 3 (xt 4) (xt 6) 3) []])
 (.cond 7 (.skip) (.exit 0)))
 (.seq (.block 1 (.seq (.bV [oM 10 0 [], oM 11 3 [], oI 12 22 10 11 [], oF 13 40 12 0 [], oL 14 37 13 [], xo 15 (.binOp .eql 37 (xt 14) (xi .u8 1) 37) [], oM 16 15 [], gM 17 0 16 true [], gM 18 3 16 true [], xg 19 (.indexAddr 22 (xt 17) (xt 18)) 16 true [], gF 20 40 19 2 16 true [], gL 21 29 20 16 true [], gM 22 0 16 true [], gM 23 3 16 true [], xg 24 (.indexAddr 22 (xt 22) (xt 23)) 16 true [], gF 25 40 24 3 16 true [], gL 26 29 25 16 true [], xg 27 (xc 25 [21,26] [29,29]) 16 true [], xg 28 (.unOp .not 4 (xt 27)) 16 true [], xo 29 (.pick (xt 16) (xt 28) xF) []])
 (.cond 29 (.seq (.region [xo 2 (.assign xT) []])
 (.ret)) (.skip))))
 (.region [oM 8 3 [], xo 9 (.binOp .add 3 (xt 8) (xi .i64 1) 3) [8], oA 3 9 []]))))))
 (.seq (.region [xo 2 (.assign xF) []])
 (.ret)))
theorem akB : Tryz.f10.body.map (strip (tab.ann 10)) = some c10 := by kernel_rfl
def c11 : XC :=
 .seq (.region [xo 2 (.assign xF) []])
 (.seq (.seq (.region [oM 5 0 [], xo 6 (xb .len [5] [22]) [5], xo 7 (.binOp .gtr 3 (xt 6) (xi .i64 4096) 3) []])
 (.cond 7 (.seq (.region [xo 2 (.assign xF) []])
 (.ret)) (.skip)))
 (.seq (.seq (.region [oM 8 0 [], xo 9 (xb .len [8] [22]) [], xo 10 (.move (xi .i64 0)) []])
 (.block 0 (.loop (.seq (.region [xo 11 (.binOp .lss 3 (xt 10) (xt 9) 3) []])
 (.seq (.cond 11 (.skip) (.exit 0))
 (.seq (.block 1 (.seq (.region [oM 12 10 [], oI 13 22 8 10 [], oL 14 40 13 [13], xo 4 (.alloc 40) [], oA 3 12 [12], xn (.store 40 (xt 4) (xt 14))])
 (.seq (.bV [oL 15 40 4 [], xo 16 (xc 26 [15] [40]) [15], xo 17 (.unOp .not 4 (xt 16)) [16], oM 18 17 [17], gF 19 40 4 0 18 false [], gL 20 37 19 18 false [19], xg 21 (.binOp .eql 37 (xt 20) (xi .u8 1) 37) 18 false [20], gM 22 21 18 false [21], gM 23 0 22 true [], gF 24 40 4 1 22 true [], gL 25 9 24 22 true [24], xg 26 (xc 17 [23,25] [22,9]) 22 true [23,25], gM 27 3 22 true [], xg 28 (.binOp .neq 3 (xt 26) (xt 27) 3) 22 true [26,27], xg 29 (.pick (xt 22) (xt 28) xF) 18 false [22,28], xo 30 (.pick (xt 18) xT (xt 29)) []])
 (.cond 30 (.seq (.region [xo 2 (.assign xF) []])
 (.ret)) (.skip)))))
 (.region [xo 31 (.binOp .add 3 (xt 10) (xi .i64 1) 3) [], oM 10 31 []])))))))
 (.seq (.region [xo 2 (.assign xT) []])
 (.ret))))
theorem aby : Tryz.f11.body.map (strip (tab.ann 11)) = some c11 := by kernel_rfl
def c12 : XC :=
 .seq (.region [xo 2 (.assign xF) []])
 (.seq (.seq (.region [oM 4 0 [], xo 5 (xb .len [4] [22]) [4], xo 6 (.binOp .gtr 3 (xt 5) (xi .i64 4096) 3) []])
 (.cond 6 (.seq (.region [xo 2 (.assign xF) []])
 (.ret)) (.skip)))
 (.seq (.seq (.region [xo 3 (.assign (xi .i64 0)) []])
 (.block 0 (.loop (.seq (.seq (.region [oM 7 3 [], oM 8 0 [], xo 9 (xb .len [8] [22]) [8], xo 10 (.binOp .lss 3 (xt 7) (xt 9) 3) []])
 (.cond 10 (.skip) (.exit 0)))
 (.seq (.block 1 (.seq (.bV [oM 13 0 [], oM 14 3 [], oI 15 22 13 14 [13,14], oL 16 40 15 [15], xo 17 (xc 27 [16] [40]) [16], xo 18 (.unOp .not 4 (xt 17)) [17], oM 19 18 [18], gM 20 0 19 false [], gM 21 3 19 false [], xg 22 (.indexAddr 22 (xt 20) (xt 21)) 19 false [20,21], gF 23 40 22 0 19 false [22], gL 24 37 23 19 false [23], xg 25 (.binOp .eql 37 (xt 24) (xi .u8 1) 37) 19 false [24], gM 26 25 19 false [25], gM 27 0 26 true [], gM 28 0 26 true [], gM 29 3 26 true [], xg 30 (.indexAddr 22 (xt 28) (xt 29)) 26 true [28,29], gF 31 40 30 1 26 true [30], gL 32 9 31 26 true [31], xg 33 (xc 19 [27,32] [22,9]) 26 true [27,32], gM 34 3 26 true [], xg 35 (.binOp .neq 3 (xt 33) (xt 34) 3) 26 true [33,34], xg 36 (.pick (xt 26) (xt 35) xF) 19 false [26,35], xo 37 (.pick (xt 19) xT (xt 36)) []])
 (.cond 37 (.seq (.region [xo 2 (.assign xF) []])
 (.ret)) (.skip))))
 (.region [oM 11 3 [], xo 12 (.binOp .add 3 (xt 11) (xi .i64 1) 3) [11], oA 3 12 []]))))))
 (.seq (.region [xo 2 (.assign xT) []])
 (.ret))))
theorem akC : Tryz.f12.body.map (strip (tab.ann 12)) = some c12 := by kernel_rfl
def c13 : XC :=
 .seq (.region [oB 2 29 0 [0], oB 3 29 1 [1], xo 4 (.assign xF) []])
 (.seq (.bV [oF 5 29 2 0 [], oL 6 24 5 [5], oF 7 29 3 0 [], oL 8 24 7 [7], xo 9 (.binOp .eql 24 (xt 6) (xt 8) 24) [6,8], oM 10 9 [9], gF 11 29 2 1 10 true [], gL 12 2 11 10 true [11], gF 13 29 3 1 10 true [], gL 14 2 13 10 true [13], xg 15 (.binOp .eql 2 (xt 12) (xt 14) 2) 10 true [12,14], xo 16 (.pick (xt 10) (xt 15) xF) [10,15], oM 17 16 [16], gF 18 29 2 2 17 true [], gL 19 9 18 17 true [18], gF 20 29 3 2 17 true [], gL 21 9 20 17 true [20], xg 22 (.binOp .eql 9 (xt 19) (xt 21) 9) 17 true [19,21], xo 23 (.pick (xt 17) (xt 22) xF) [17,22], oM 24 23 [23], gF 25 29 2 3 24 true [], gL 26 25 25 24 true [25], gF 27 29 3 3 24 true [], gL 28 25 27 24 true [27], xg 29 (xc 28 [26,28] [25,25]) 24 true [26,28], xo 30 (.pick (xt 24) (xt 29) xF) [24,29], oM 31 30 [30], gF 32 29 2 4 31 true [], gL 33 26 32 31 true [32], gF 34 29 3 4 31 true [], gL 35 26 34 31 true [34], xg 36 (xc 29 [33,35] [26,26]) 31 true [33,35], xo 37 (.pick (xt 31) (xt 36) xF) [31,36], oM 38 37 [37], gF 39 29 2 5 38 true [], gL 40 27 39 38 true [39], gF 41 29 3 5 38 true [], gL 42 27 41 38 true [41], xg 43 (.binOp .eql 27 (xt 40) (xt 42) 27) 38 true [40,42], xo 44 (.pick (xt 38) (xt 43) xF) [38,43], oM 45 44 [44], gF 46 29 2 6 45 true [], gL 47 9 46 45 true [46], gF 48 29 3 6 45 true [], gL 49 9 48 45 true [48], xg 50 (.binOp .eql 9 (xt 47) (xt 49) 9) 45 true [47,49], xo 51 (.pick (xt 45) (xt 50) xF) [45,50], oM 52 51 [51], gF 53 29 2 7 52 true [], gL 54 4 53 52 true [53], gF 55 29 3 7 52 true [], gL 56 4 55 52 true [55], xg 57 (.binOp .eql 4 (xt 54) (xt 56) 4) 52 true [54,56], xo 58 (.pick (xt 52) (xt 57) xF) [52,57], oA 4 58 []])
 (.ret))
theorem akD : Tryz.f13.body.map (strip (tab.ann 13)) = some c13 := by kernel_rfl
def c14 : XC :=
 .seq (.region [xo 4 (.assign xF) []])
 (.seq (.seq (.bV [oM 7 0 [], xo 8 (xb .len [7] [22]) [7], oM 9 1 [], xo 10 (xb .len [9] [22]) [9], xo 11 (.binOp .neq 3 (xt 8) (xt 10) 3) [8,10], oM 12 11 [11], gM 13 0 12 false [], xg 14 (xb .cap [13] [22]) 12 false [13], gM 15 1 12 false [], xg 16 (xb .len [15] [22]) 12 false [15], xg 17 (.binOp .leq 3 (xt 14) (xt 16) 3) 12 false [14,16], xo 18 (.pick (xt 12) xT (xt 17)) []])
 (.cond 18 (.seq (.region [xo 4 (.assign xF) []])
 (.ret)) (.skip)))
 (.seq (.seq (.region [xo 5 (.assign (xi .i64 0)) []])
 (.block 0 (.loop (.seq (.seq (.region [oM 19 5 [], oM 20 1 [], xo 21 (xb .len [20] [22]) [20], xo 22 (.binOp .lss 3 (xt 19) (xt 21) 3) []])
 (.cond 22 (.skip) (.exit 0)))
 (.seq (.block 1 (.seq (.region [oM 25 0 [], oM 26 5 [], oI 27 22 25 26 [], oL 28 40 27 [], oM 29 1 [], oM 30 5 [], oI 31 22 29 30 [], oL 32 40 31 [], xo 33 (xc 30 [28,32] [40,40]) [], xo 34 (.unOp .not 4 (xt 33)) []])
 (.cond 34 (.seq (.region [xo 4 (.assign xF) []])
 (.ret)) (.skip))))
 (.region [oM 23 5 [], xo 24 (.binOp .add 3 (xt 23) (xi .i64 1) 3) [23], oA 5 24 []]))))))
 (.seq (.region [oM 35 0 [0], oM 36 1 [], xo 37 (xb .len [36] [22]) [36], xo 38 (.binOp .add 3 (xt 37) (xi .i64 1) 3) [37], xo 39 (.slice 22 (xt 35) none (some (xt 38)) none) [35,38], oM 40 1 [1], xo 41 (xb .len [40] [22]) [40], oI 42 22 39 41 [39,41], oL 43 40 42 [42], xo 6 (.alloc 40) [], xn (.store 40 (xt 6) (xt 43))])
 (.seq (.region [oF 44 40 6 1 [], oL 45 9 44 [44], xo 46 (.binOp .eql 9 (xt 45) (.const (.string { data := #[115, 112, 97, 114, 101] })) 9) [45], oA 4 46 []])
 (.ret)))))
theorem abz : Tryz.f14.body.map (strip (tab.ann 14)) = some c14 := by kernel_rfl
def c16 : XC :=
 .seq (.region [oB 1 40 0 [0], xo 2 (.alloc 40) []])
 (.seq (.region [oF 3 40 1 0 [], oL 4 37 3 [], oF 5 40 1 1 [], oL 6 9 5 [], oF 7 40 1 2 [], oL 8 29 7 [], xk 9 (xc 34 [8] [29]) [], oF 10 40 1 3 [], oL 11 29 10 [], xk 12 (xc 34 [11] [29]) [], oF 13 40 1 4 [], oL 14 25 13 [], xk 15 (xc 35 [14] [25]) [], oF 16 40 1 5 [], oL 17 38 16 [], xk 18 (xc 36 [17] [38]) [], oF 19 40 1 6 [], oL 20 38 19 [], xk 21 (xc 36 [20] [38]) [], oF 22 40 1 7 [], oL 23 26 22 [], xk 24 (xc 37 [23] [26]) [], oF 25 40 1 8 [], oL 26 4 25 [], oF 27 40 1 9 [], oL 28 4 27 [], oF 29 40 1 10 [], oL 30 38 29 [], xk 31 (xc 36 [30] [38]) [], oF 32 40 1 11 [], oL 33 26 32 [], xk 34 (xc 37 [33] [26]) [], xo 35 (.build 40 #[(0, (xt 4)), (1, (xt 6)), (2, (xt 9)), (3, (xt 12)), (4, (xt 15)), (5, (xt 18)), (6, (xt 21)), (7, (xt 24)), (8, (xt 26)), (9, (xt 28)), (10, (xt 31)), (11, (xt 34))]) [], xn (.store 40 (xt 2) (xt 35))])
 (.ret))
theorem akE : Tryz.f16.body.map (strip (tab.ann 16)) = some c16 := by kernel_rfl
def c17 : XC :=
 .seq (.region [oB 3 9 1 [1], xo 4 (.assign (xi .i64 0)) []])
 (.seq (.region [oM 5 0 [0], xo 6 (.makeFunc (.func 38) #[] #[(xt 3)]) [], xo 7 (.buildSlice 56 1 #[(0, (xi .u8 1))]) [], xo 8 (xc 22 [5,6,7] [22,47,56]) [5,6,7], oA 4 8 []])
 (.ret))
theorem abA : Tryz.f17.body.map (strip (tab.ann 17)) = some c17 := by kernel_rfl
def c18 : XC :=
 .seq (.region [oB 1 29 0 [0], xo 2 (.alloc 29) []])
 (.seq (.region [oF 3 29 1 3 [], oL 4 25 3 [], xk 5 (xc 39 [4] [25]) [], oF 6 29 1 4 [], oL 7 26 6 [], xk 8 (xc 40 [7] [26]) [], oF 9 29 1 3 [], xn (.store 25 (xt 9) (xt 5)), oF 10 29 1 4 [], xn (.store 26 (xt 10) (xt 8))])
 (.seq (.region [oL 11 29 1 [], xn (.store 29 (xt 2) (xt 11))])
 (.ret)))
theorem abB : Tryz.f18.body.map (strip (tab.ann 18)) = some c18 := by kernel_rfl
def c19 : XC :=
 .seq (.region [xo 4 (.assign (xi .i64 0)) []])
 (.seq (.seq (.region [xo 5 (.assign (xi .i64 0)) []])
 (.block 0 (.loop (.seq (.seq (.region [oM 6 5 [], oM 7 0 [], xo 8 (xb .len [7] [22]) [7], xo 9 (.binOp .lss 3 (xt 6) (xt 8) 3) []])
 (.cond 9 (.skip) (.exit 0)))
 (.seq (.block 1 (.seq (.bV [oM 12 0 [], oM 13 5 [], oI 14 22 12 13 [12,13], oF 15 40 14 0 [14], oL 16 37 15 [15], xo 17 (.binOp .eql 37 (xt 16) (xi .u8 1) 37) [16], oM 18 17 [17], gM 19 0 18 true [], gM 20 5 18 true [], xg 21 (.indexAddr 22 (xt 19) (xt 20)) 18 true [19,20], gF 22 40 21 1 18 true [21], gL 23 9 22 18 true [22], gM 24 1 18 true [], xg 25 (.binOp .eql 9 (xt 23) (xt 24) 9) 18 true [23,24], xo 26 (.pick (xt 18) (xt 25) xF) []])
 (.cond 26 (.seq (.region [oM 27 5 [], oA 4 27 []])
 (.ret)) (.skip))))
 (.region [oM 10 5 [], xo 11 (.binOp .add 3 (xt 10) (xi .i64 1) 3) [10], oA 5 11 []]))))))
 (.seq (.region [xo 4 (.assign (.const (.int .i64 (-1)))) []])
 (.ret)))
theorem akF : Tryz.f19.body.map (strip (tab.ann 19)) = some c19 := by kernel_rfl
def c20 : XC :=
 .seq (.region [xo 6 (.assign xF) []])
 (.seq (.seq (.region [oM 10 0 [], xo 11 (xb .len [10] [22]) [10], oM 12 1 [], xo 13 (xb .len [12] [22]) [12], xo 14 (.binOp .neq 3 (xt 11) (xt 13) 3) []])
 (.cond 14 (.seq (.region [xo 6 (.assign xF) []])
 (.ret)) (.skip)))
 (.seq (.seq (.region [oM 15 0 [0], xo 16 (xb .len [15] [22]) [], xo 17 (.move (xi .i64 0)) []])
 (.block 0 (.loop (.seq (.region [xo 18 (.binOp .lss 3 (xt 17) (xt 16) 3) []])
 (.seq (.cond 18 (.skip) (.exit 0))
 (.seq (.block 1 (.seq (.region [oM 19 17 [], oI 20 22 15 17 [], oL 21 40 20 [20], xo 8 (.alloc 40) [], oA 7 19 [19], xn (.store 40 (xt 8) (xt 21))])
 (.seq (.region [oM 22 1 [], oM 23 7 [], oI 24 22 22 23 [22,23], oL 25 40 24 [24], xo 9 (.alloc 40) [], xn (.store 40 (xt 9) (xt 25))])
 (.seq (.region [oM 26 2 [], oL 27 40 8 [], oL 28 40 9 [], xo 29 (.call { callee := (.value (xt 26)), args := #[(xt 27), (xt 28)], argTypes := #[40, 40] }) [26,27,28], xo 30 (.unOp .not 4 (xt 29)) []])
 (.cond 30 (.seq (.region [xo 6 (.assign xF) []])
 (.ret)) (.skip))))))
 (.region [xo 31 (.binOp .add 3 (xt 17) (xi .i64 1) 3) [], oM 17 31 []])))))))
 (.seq (.region [xo 6 (.assign xT) []])
 (.ret))))
theorem abC : Tryz.f20.body.map (strip (tab.ann 20)) = some c20 := by kernel_rfl
def c21 : XC :=
 .seq (.region [oB 2 40 0 [0], oB 3 40 1 [1], xo 4 (.assign xF) []])
 (.seq (.bV [oF 5 40 2 0 [], oL 6 37 5 [5], oF 7 40 3 0 [], oL 8 37 7 [7], xo 9 (.binOp .eql 37 (xt 6) (xt 8) 37) [6,8], oM 10 9 [9], gF 11 40 2 1 10 true [], gL 12 9 11 10 true [11], gF 13 40 3 1 10 true [], gL 14 9 13 10 true [13], xg 15 (.binOp .eql 9 (xt 12) (xt 14) 9) 10 true [12,14], xo 16 (.pick (xt 10) (xt 15) xF) [10,15], oA 4 16 []])
 (.ret))
theorem abD : Tryz.f21.body.map (strip (tab.ann 21)) = some c21 := by kernel_rfl
def c22 : XC :=
 .seq (.region [oB 4 47 1 [1], oB 5 56 2 [2], xo 6 (.assign (xi .i64 0)) []])
 (.seq (.region [oM 7 0 [0], xo 8 (.makeFunc (.func 42) #[] #[(xt 5), (xt 4)]) [], xo 9 (xc 41 [7,8] [22,47]) [7,8], oA 6 9 []])
 (.ret))
theorem Vn : Tryz.f22.body.map (strip (tab.ann 22)) = some c22 := by kernel_rfl
def c23 : XC :=
 .seq (.region [oB 1 40 0 [0], xo 2 (.assign xF) []])
 (.seq (.region [oF 3 40 1 2 [], oL 4 29 3 [3], oF 5 40 1 3 [], oL 6 29 5 [5], xo 7 (xc 24 [4,6] [29,29]) [4,6], xo 8 (.unOp .not 4 (xt 7)) [7], oA 2 8 []])
 (.ret))
theorem abE : Tryz.f23.body.map (strip (tab.ann 23)) = some c23 := by kernel_rfl
def c24 : XC :=
 .seq (.region [oB 2 29 0 [0], oB 3 29 1 [1], xo 4 (.assign xF) []])
 (.seq (.bV [oF 5 29 2 0 [], oL 6 24 5 [5], oF 7 29 3 0 [], oL 8 24 7 [7], xo 9 (.binOp .eql 24 (xt 6) (xt 8) 24) [6,8], oM 10 9 [9], gF 11 29 2 1 10 true [], gL 12 2 11 10 true [11], gF 13 29 3 1 10 true [], gL 14 2 13 10 true [13], xg 15 (.binOp .eql 2 (xt 12) (xt 14) 2) 10 true [12,14], xo 16 (.pick (xt 10) (xt 15) xF) [10,15], oM 17 16 [16], gF 18 29 2 2 17 true [], gL 19 9 18 17 true [18], gF 20 29 3 2 17 true [], gL 21 9 20 17 true [20], xg 22 (.binOp .eql 9 (xt 19) (xt 21) 9) 17 true [19,21], xo 23 (.pick (xt 17) (xt 22) xF) [17,22], oM 24 23 [23], gF 25 29 2 5 24 true [], gL 26 27 25 24 true [25], gF 27 29 3 5 24 true [], gL 28 27 27 24 true [27], xg 29 (.binOp .eql 27 (xt 26) (xt 28) 27) 24 true [26,28], xo 30 (.pick (xt 24) (xt 29) xF) [24,29], oM 31 30 [30], gF 32 29 2 6 31 true [], gL 33 9 32 31 true [32], gF 34 29 3 6 31 true [], gL 35 9 34 31 true [34], xg 36 (.binOp .eql 9 (xt 33) (xt 35) 9) 31 true [33,35], xo 37 (.pick (xt 31) (xt 36) xF) [31,36], oM 38 37 [37], gF 39 29 2 7 38 true [], gL 40 4 39 38 true [39], gF 41 29 3 7 38 true [], gL 42 4 41 38 true [41], xg 43 (.binOp .eql 4 (xt 40) (xt 42) 4) 38 true [40,42], xo 44 (.pick (xt 38) (xt 43) xF) [38,43], oM 45 44 [44], gF 46 29 2 3 45 true [], gL 47 25 46 45 true [46], gF 48 29 3 3 45 true [], gL 49 25 48 45 true [48], xg 50 (.call { callee := (.value (.func 44)), args := #[(xt 47), (xt 49), (.func 24)], argTypes := #[25, 25, 34] }) 45 true [47,49], xo 51 (.pick (xt 45) (xt 50) xF) [45,50], oM 52 51 [51], gF 53 29 2 4 52 true [], gL 54 26 53 52 true [53], gF 55 29 3 4 52 true [], gL 56 26 55 52 true [55], xg 57 (xc 45 [54,56] [26,26]) 52 true [54,56], xo 58 (.pick (xt 52) (xt 57) xF) [52,57], oA 4 58 []])
 (.ret))
theorem abF : Tryz.f24.body.map (strip (tab.ann 24)) = some c24 := by kernel_rfl
def c25 : XC :=
 .seq (.region [oB 2 29 0 [0], oB 3 29 1 [1], xo 4 (.assign xF) []])
 (.seq (.seq (.bV [oF 6 29 2 0 [], oL 7 24 6 [6], oF 8 29 3 0 [], oL 9 24 8 [8], xo 10 (.binOp .neq 24 (xt 7) (xt 9) 24) [7,9], oM 11 10 [10], gF 12 29 2 1 11 false [], gL 13 2 12 11 false [12], gF 14 29 3 1 11 false [], gL 15 2 14 11 false [14], xg 16 (.binOp .neq 2 (xt 13) (xt 15) 2) 11 false [13,15], xo 17 (.pick (xt 11) xT (xt 16)) [11,16], oM 18 17 [17], gF 19 29 2 2 18 false [], gL 20 9 19 18 false [19], gF 21 29 3 2 18 false [], gL 22 9 21 18 false [21], xg 23 (.binOp .neq 9 (xt 20) (xt 22) 9) 18 false [20,22], xo 24 (.pick (xt 18) xT (xt 23)) [18,23], oM 25 24 [24], gF 26 29 2 5 25 false [], gL 27 27 26 25 false [26], gF 28 29 3 5 25 false [], gL 29 27 28 25 false [28], xg 30 (.binOp .neq 27 (xt 27) (xt 29) 27) 25 false [27,29], xo 31 (.pick (xt 25) xT (xt 30)) [25,30], oM 32 31 [31], gF 33 29 2 6 32 false [], gL 34 9 33 32 false [33], gF 35 29 3 6 32 false [], gL 36 9 35 32 false [35], xg 37 (.binOp .neq 9 (xt 34) (xt 36) 9) 32 false [34,36], xo 38 (.pick (xt 32) xT (xt 37)) [32,37], oM 39 38 [38], gF 40 29 2 7 39 false [], gL 41 4 40 39 false [40], gF 42 29 3 7 39 false [], gL 43 4 42 39 false [42], xg 44 (.binOp .neq 4 (xt 41) (xt 43) 4) 39 false [41,43], xo 45 (.pick (xt 39) xT (xt 44)) [39,44], oM 46 45 [45], gF 47 29 2 3 46 false [], gL 48 25 47 46 false [47], xg 49 (xb .len [48] [25]) 46 false [48], gF 50 29 3 3 46 false [], gL 51 25 50 46 false [50], xg 52 (xb .len [51] [25]) 46 false [51], xg 53 (.binOp .neq 3 (xt 49) (xt 52) 3) 46 false [49,52], xo 54 (.pick (xt 46) xT (xt 53)) []])
 (.cond 54 (.seq (.region [xo 4 (.assign xF) []])
 (.ret)) (.skip)))
 (.seq (.seq (.region [xo 5 (.assign (xi .i64 0)) []])
 (.block 0 (.loop (.seq (.seq (.region [oM 55 5 [], oF 56 29 2 3 [], oL 57 25 56 [56], xo 58 (xb .len [57] [25]) [57], xo 59 (.binOp .lss 3 (xt 55) (xt 58) 3) []])
 (.cond 59 (.skip) (.exit 0)))
 (.seq (.block 1 (.seq (.region [oF 62 29 2 3 [], oL 63 25 62 [], oM 64 5 [], oI 65 25 63 64 [], oL 66 29 65 [], oF 67 29 3 3 [], oL 68 25 67 [], oM 69 5 [], oI 70 25 68 69 [], oL 71 29 70 [], xo 72 (xc 25 [66,71] [29,29]) [], xo 73 (.unOp .not 4 (xt 72)) []])
 (.cond 73 (.seq (.region [xo 4 (.assign xF) []])
 (.ret)) (.skip))))
 (.region [oM 60 5 [], xo 61 (.binOp .add 3 (xt 60) (xi .i64 1) 3) [60], oA 5 61 []]))))))
 (.seq (.region [oF 74 29 2 4 [], oL 75 26 74 [74], oF 76 29 3 4 [], oL 77 26 76 [76], xo 78 (xc 46 [75,77] [26,26]) [75,77], oA 4 78 []])
 (.ret))))
theorem akG : Tryz.f25.body.map (strip (tab.ann 25)) = some c25 := by kernel_rfl
def c26 : XC :=
 .seq (.region [oB 1 40 0 [0], xo 2 (.assign xF) []])
 (.seq (.eZ [[oF 5 40 1 5 [], oL 6 38 5 [5], xo 7 (xb .len [6] [38]) [6], oF 8 40 1 6 [], oL 9 38 8 [8], xo 10 (xb .len [9] [38]) [9], xo 11 (.binOp .add 3 (xt 7) (xt 10) 3) [7,10], oF 12 40 1 7 [], oL 13 26 12 [12], xo 14 (xb .len [13] [26]) [13], xo 15 (.binOp .add 3 (xt 11) (xt 14) 3) [11,14], oF 16 40 1 10 [], oL 17 38 16 [16], xo 18 (xb .len [17] [38]) [17], xo 19 (.binOp .add 3 (xt 15) (xt 18) 3) [15,18], oF 20 40 1 11 [], oL 21 26 20 [20], xo 22 (xb .len [21] [26]) [21], xo 23 (.binOp .add 3 (xt 19) (xt 22) 3) [19,22], xo 24 (.binOp .gtr 3 (xt 23) (xi .i64 0) 3) [23], oM 25 24 [24], gF 26 40 1 8 25 false [], gL 27 4 26 25 false [26], xo 28 (.pick (xt 25) xT (xt 27)) [25,27]], [oM 29 28 [28], gF 30 40 1 9 29 false [], gL 31 4 30 29 false [30], xo 32 (.pick (xt 29) xT (xt 31)) [29,31]], [oA 3 32 []]])
 (.seq (.region [oF 33 40 1 4 [], oL 34 25 33 [33], xo 35 (.call { callee := (.value (.func 47)), args := #[(xt 34), (.func 48)], argTypes := #[25, 61] }) [34], xo 36 (.unOp .not 4 (xt 35)) [35], oA 4 36 []])
 (.seq (.seq (.region [oF 37 40 1 0 [], oL 38 37 37 []])
 (.block 0 (.seq (.region [xo 40 (.binOp .eql 37 (xt 38) (xi .u8 1) 37) [], oA 39 40 []])
 (.cond 39 (.seq (.eZ [[oF 41 40 1 1 [], oL 42 9 41 [41], xo 43 (xc 50 [42] [9]) [42], oM 44 43 [43], gF 45 40 1 2 44 true [], gL 46 29 45 44 true [45], xg 47 (xc 49 [46] [29]) 44 true [46], xo 48 (.pick (xt 44) (xt 47) xF) [44,47]], [oM 49 48 [48], gF 50 40 1 3 49 true [], gL 51 29 50 49 true [50], xg 52 (xc 49 [51] [29]) 49 true [51], xo 53 (.pick (xt 49) (xt 52) xF) [49,52]], [oM 54 53 [53], gF 55 40 1 4 54 true [], gL 56 25 55 54 true [55], xg 57 (xb .len [56] [25]) 54 true [56], xg 58 (.binOp .eql 3 (xt 57) (xi .i64 0) 3) 54 true [57], xo 59 (.pick (xt 54) (xt 58) xF) [54,58]], [oM 60 59 [59], gM 61 3 60 true [], xg 62 (.unOp .not 4 (xt 61)) 60 true [61], xo 63 (.pick (xt 60) (xt 62) xF) [60,62]], [oA 2 63 []]])
 (.ret)) (.seq (.region [xo 65 (.binOp .eql 37 (xt 38) (xi .u8 2) 37) [], oA 64 65 []])
 (.cond 64 (.seq (.eZ [[oF 66 40 1 1 [], oL 67 9 66 [66], xo 68 (xc 50 [67] [9]) [67], oM 69 68 [68], gF 70 40 1 2 69 true [], gL 71 29 70 69 true [70], xg 72 (xc 49 [71] [29]) 69 true [71], xo 73 (.pick (xt 69) (xt 72) xF) [69,72]], [oM 74 73 [73], gF 75 40 1 3 74 true [], gL 76 29 75 74 true [75], xg 77 (xc 51 [76] [29]) 74 true [76], xo 78 (.pick (xt 74) (xt 77) xF) [74,77]], [oM 79 78 [78], gM 80 4 79 true [], xo 81 (.pick (xt 79) (xt 80) xF) [79,80]], [oM 82 81 [81], gM 83 3 82 true [], xg 84 (.unOp .not 4 (xt 83)) 82 true [83], xo 85 (.pick (xt 82) (xt 84) xF) [82,84]], [oA 2 85 []]])
 (.ret)) (.seq (.region [xo 87 (.binOp .eql 37 (xt 38) (xi .u8 3) 37) [], oA 86 87 []])
 (.cond 86 (.seq (.eZ [[oF 88 40 1 1 [], oL 89 9 88 [88], xo 90 (xc 50 [89] [9]) [89], oM 91 90 [90], gF 92 40 1 2 91 true [], gL 93 29 92 91 true [92], xg 94 (xc 49 [93] [29]) 91 true [93], xo 95 (.pick (xt 91) (xt 94) xF) [91,94]], [oM 96 95 [95], gF 97 40 1 3 96 true [], gL 98 29 97 96 true [97], xg 99 (xc 51 [98] [29]) 96 true [98], xo 100 (.pick (xt 96) (xt 99) xF) [96,99]], [oM 101 100 [100], gF 102 40 1 4 101 true [], gL 103 25 102 101 true [102], xg 104 (xb .len [103] [25]) 101 true [103], xg 105 (.binOp .eql 3 (xt 104) (xi .i64 0) 3) 101 true [104], xo 106 (.pick (xt 101) (xt 105) xF) [101,105]], [oM 107 106 [106], gM 108 3 107 true [], xg 109 (.unOp .not 4 (xt 108)) 107 true [108], xo 110 (.pick (xt 107) (xt 109) xF) [107,109]], [oA 2 110 []]])
 (.ret)) (.seq (.seq (.region [xo 112 (.binOp .eql 37 (xt 38) (xi .u8 4) 37) [], oA 111 112 []])
 (.cond 111 (.skip) (.region [xo 113 (.binOp .eql 37 (xt 38) (xi .u8 5) 37) [], oA 111 113 []])))
 (.cond 111 (.seq (.eZ [[oF 114 40 1 1 [], oL 115 9 114 [114], xo 116 (.binOp .eql 9 (xt 115) (.const (.string { data := #[] })) 9) [115], oM 117 116 [116], gF 118 40 1 2 117 true [], gL 119 29 118 117 true [118], xg 120 (xc 51 [119] [29]) 117 true [119], xo 121 (.pick (xt 117) (xt 120) xF) [117,120]], [oM 122 121 [121], gF 123 40 1 3 122 true [], gL 124 29 123 122 true [123], xg 125 (xc 51 [124] [29]) 122 true [124], xo 126 (.pick (xt 122) (xt 125) xF) [122,125]], [oM 127 126 [126], gM 128 4 127 true [], xo 129 (.pick (xt 127) (xt 128) xF) [127,128]], [oM 130 129 [129], gF 131 40 1 7 130 true [], gL 132 26 131 130 true [131], xg 133 (xc 52 [132] [26]) 130 true [132], xo 134 (.pick (xt 130) (xt 133) xF) [130,133]], [oM 135 134 [134], gF 136 40 1 11 135 true [], gL 137 26 136 135 true [136], xg 138 (xc 52 [137] [26]) 135 true [137], xo 139 (.pick (xt 135) (xt 138) xF) [135,138]], [oM 140 139 [139], gF 141 40 1 9 140 true [], gL 142 4 141 140 true [141], gM 143 142 140 true [142], gF 144 40 1 10 143 false [], gL 145 38 144 143 false [144], xg 146 (xb .len [145] [38]) 143 false [145], gF 147 40 1 11 143 false [], gL 148 26 147 143 false [147], xg 149 (xb .len [148] [26]) 143 false [148], xg 150 (.binOp .add 3 (xt 146) (xt 149) 3) 143 false [146,149], xg 151 (.binOp .eql 3 (xt 150) (xi .i64 0) 3) 143 false [150], xg 152 (.pick (xt 143) xT (xt 151)) 140 true [143,151], xo 153 (.pick (xt 140) (xt 152) xF) [140,152]], [oA 2 153 []]])
 (.ret)) (.skip)))))))))))
 (.seq (.region [xo 2 (.assign xF) []])
 (.ret)))))
theorem abG : Tryz.f26.body.map (strip (tab.ann 26)) = some c26 := by kernel_rfl
def c27 : XC :=
 .seq (.region [oB 1 40 0 [0], xo 2 (.assign xF) []])
 (.seq (.seq (.region [oF 3 40 1 0 [], oL 4 37 3 []])
 (.block 0 (.seq (.region [xo 6 (.binOp .eql 37 (xt 4) (xi .u8 1) 37) [], oA 5 6 []])
 (.cond 5 (.seq (.eZ [[oF 7 40 1 1 [], oL 8 9 7 [7], xo 9 (xc 53 [8] [9]) [8], oM 10 9 [9], gF 11 40 1 2 10 true [], gL 12 29 11 10 true [11], xg 13 (xc 54 [12] [29]) 10 true [12], xo 14 (.pick (xt 10) (xt 13) xF) [10,13]], [oM 15 14 [14], gF 16 40 1 3 15 true [], gL 17 29 16 15 true [16], xg 18 (xc 54 [17] [29]) 15 true [17], xo 19 (.pick (xt 15) (xt 18) xF) [15,18]], [oM 20 19 [19], gF 21 40 1 4 20 true [], gL 22 25 21 20 true [21], xg 23 (xb .len [22] [25]) 20 true [22], xg 24 (.binOp .eql 3 (xt 23) (xi .i64 0) 3) 20 true [23], xo 25 (.pick (xt 20) (xt 24) xF) [20,24]], [oM 26 25 [25], gL 27 40 1 26 true [], xg 28 (xc 55 [27] [40]) 26 true [27], xo 29 (.pick (xt 26) (xt 28) xF) [26,28]], [oA 2 29 []]])
 (.ret)) (.seq (.region [xo 31 (.binOp .eql 37 (xt 4) (xi .u8 2) 37) [], oA 30 31 []])
 (.cond 30 (.seq (.eZ [[oF 32 40 1 1 [], oL 33 9 32 [32], xo 34 (xc 53 [33] [9]) [33], oM 35 34 [34], gF 36 40 1 2 35 true [], gL 37 29 36 35 true [36], xg 38 (xc 54 [37] [29]) 35 true [37], xo 39 (.pick (xt 35) (xt 38) xF) [35,38]], [oM 40 39 [39], gF 41 40 1 3 40 true [], gL 42 29 41 40 true [41], xg 43 (xc 56 [42] [29]) 40 true [42], xo 44 (.pick (xt 40) (xt 43) xF) [40,43]], [oM 45 44 [44], gF 46 40 1 4 45 true [], gL 47 25 46 45 true [46], xg 48 (xc 57 [47] [25]) 45 true [47], xo 49 (.pick (xt 45) (xt 48) xF) [45,48]], [oM 50 49 [49], gL 51 40 1 50 true [], xg 52 (xc 55 [51] [40]) 50 true [51], xo 53 (.pick (xt 50) (xt 52) xF) [50,52]], [oA 2 53 []]])
 (.ret)) (.seq (.region [xo 55 (.binOp .eql 37 (xt 4) (xi .u8 3) 37) [], oA 54 55 []])
 (.cond 54 (.seq (.eZ [[oF 56 40 1 1 [], oL 57 9 56 [56], xo 58 (xc 53 [57] [9]) [57], oM 59 58 [58], gF 60 40 1 2 59 true [], gL 61 29 60 59 true [60], xg 62 (xc 54 [61] [29]) 59 true [61], xo 63 (.pick (xt 59) (xt 62) xF) [59,62]], [oM 64 63 [63], gF 65 40 1 3 64 true [], gL 66 29 65 64 true [65], xg 67 (xc 56 [66] [29]) 64 true [66], xo 68 (.pick (xt 64) (xt 67) xF) [64,67]], [oM 69 68 [68], gF 70 40 1 4 69 true [], gL 71 25 70 69 true [70], xg 72 (xb .len [71] [25]) 69 true [71], xg 73 (.binOp .eql 3 (xt 72) (xi .i64 0) 3) 69 true [72], xo 74 (.pick (xt 69) (xt 73) xF) [69,73]], [oM 75 74 [74], gL 76 40 1 75 true [], xg 77 (xc 55 [76] [40]) 75 true [76], xo 78 (.pick (xt 75) (xt 77) xF) [75,77]], [oA 2 78 []]])
 (.ret)) (.seq (.seq (.region [xo 80 (.binOp .eql 37 (xt 4) (xi .u8 4) 37) [], oA 79 80 []])
 (.cond 79 (.skip) (.region [xo 81 (.binOp .eql 37 (xt 4) (xi .u8 5) 37) [], oA 79 81 []])))
 (.cond 79 (.seq (.eZ [[oF 82 40 1 1 [], oL 83 9 82 [82], xo 84 (.binOp .eql 9 (xt 83) (.const (.string { data := #[] })) 9) [83], oM 85 84 [84], gF 86 40 1 2 85 true [], gL 87 29 86 85 true [86], xg 88 (xc 56 [87] [29]) 85 true [87], xo 89 (.pick (xt 85) (xt 88) xF) [85,88]], [oM 90 89 [89], gF 91 40 1 3 90 true [], gL 92 29 91 90 true [91], xg 93 (xc 56 [92] [29]) 90 true [92], xo 94 (.pick (xt 90) (xt 93) xF) [90,93]], [oM 95 94 [94], gF 96 40 1 4 95 true [], gL 97 25 96 95 true [96], xg 98 (xc 57 [97] [25]) 95 true [97], xo 99 (.pick (xt 95) (xt 98) xF) [95,98]], [oM 100 99 [99], gF 101 40 1 7 100 true [], gL 102 26 101 100 true [101], xg 103 (xc 58 [102] [26]) 100 true [102], xo 104 (.pick (xt 100) (xt 103) xF) [100,103]], [oM 105 104 [104], gF 106 40 1 11 105 true [], gL 107 26 106 105 true [106], xg 108 (xc 58 [107] [26]) 105 true [107], xo 109 (.pick (xt 105) (xt 108) xF) [105,108]], [oM 110 109 [109], gF 111 40 1 9 110 true [], gL 112 4 111 110 true [111], gM 113 112 110 true [112], gF 114 40 1 10 113 false [], gL 115 38 114 113 false [114], xg 116 (xb .len [115] [38]) 113 false [115], gF 117 40 1 11 113 false [], gL 118 26 117 113 false [117], xg 119 (xb .len [118] [26]) 113 false [118], xg 120 (.binOp .add 3 (xt 116) (xt 119) 3) 113 false [116,119], xg 121 (.binOp .eql 3 (xt 120) (xi .i64 0) 3) 113 false [120], xg 122 (.pick (xt 113) xT (xt 121)) 110 true [113,121], xo 123 (.pick (xt 110) (xt 122) xF) [110,122]], [oA 2 123 []]])
 (.ret)) (.skip)))))))))))
 (.seq (.region [xo 2 (.assign xF) []])
 (.ret)))
theorem akH : Tryz.f27.body.map (strip (tab.ann 27)) = some c27 := by kernel_rfl
def c28 : XC :=
 .seq (.region [xo 4 (.assign xF) []])
 (.seq (.seq (.region [oM 6 0 [], xo 7 (xb .len [6] [25]) [6], oM 8 1 [], xo 9 (xb .len [8] [25]) [8], xo 10 (.binOp .neq 3 (xt 7) (xt 9) 3) []])
 (.cond 10 (.seq (.region [xo 4 (.assign xF) []])
 (.ret)) (.skip)))
 (.seq (.seq (.region [xo 5 (.assign (xi .i64 0)) []])
 (.block 0 (.loop (.seq (.seq (.region [oM 11 5 [], oM 12 0 [], xo 13 (xb .len [12] [25]) [12], xo 14 (.binOp .lss 3 (xt 11) (xt 13) 3) []])
 (.cond 14 (.skip) (.exit 0)))
 (.seq (.block 1 (.seq (.region [oM 17 0 [], oM 18 5 [], oI 19 25 17 18 [], oL 20 29 19 [], oM 21 1 [], oM 22 5 [], oI 23 25 21 22 [], oL 24 29 23 [], xo 25 (xc 13 [20,24] [29,29]) [], xo 26 (.unOp .not 4 (xt 25)) []])
 (.cond 26 (.seq (.region [xo 4 (.assign xF) []])
 (.ret)) (.skip))))
 (.region [oM 15 5 [], xo 16 (.binOp .add 3 (xt 15) (xi .i64 1) 3) [15], oA 5 16 []]))))))
 (.seq (.region [xo 4 (.assign xT) []])
 (.ret))))
theorem akI : Tryz.f28.body.map (strip (tab.ann 28)) = some c28 := by kernel_rfl
def c29 : XC :=
 .seq (.region [xo 4 (.assign xF) []])
 (.seq (.seq (.region [oM 6 0 [], xo 7 (xb .len [6] [26]) [6], oM 8 1 [], xo 9 (xb .len [8] [26]) [8], xo 10 (.binOp .neq 3 (xt 7) (xt 9) 3) []])
 (.cond 10 (.seq (.region [xo 4 (.assign xF) []])
 (.ret)) (.skip)))
 (.seq (.seq (.region [xo 5 (.assign (xi .i64 0)) []])
 (.block 0 (.loop (.seq (.seq (.region [oM 11 5 [], oM 12 0 [], xo 13 (xb .len [12] [26]) [12], xo 14 (.binOp .lss 3 (xt 11) (xt 13) 3) []])
 (.cond 14 (.skip) (.exit 0)))
 (.seq (.block 1 (.seq (.region [oM 17 0 [], oM 18 5 [], oI 19 26 17 18 [], oL 20 67 19 [], oM 21 1 [], oM 22 5 [], oI 23 26 21 22 [], oL 24 67 23 [], xo 25 (xc 59 [20,24] [67,67]) [], xo 26 (.unOp .not 4 (xt 25)) []])
 (.cond 26 (.seq (.region [xo 4 (.assign xF) []])
 (.ret)) (.skip))))
 (.region [oM 15 5 [], xo 16 (.binOp .add 3 (xt 15) (xi .i64 1) 3) [15], oA 5 16 []]))))))
 (.seq (.region [xo 4 (.assign xT) []])
 (.ret))))
theorem akJ : Tryz.f29.body.map (strip (tab.ann 29)) = some c29 := by kernel_rfl
def c30 : XC :=
 .seq (.region [oB 2 40 0 [0], oB 3 40 1 [1], xo 4 (.assign xF) []])
 (.seq (.bV [oF 5 40 2 0 [], oL 6 37 5 [5], oF 7 40 3 0 [], oL 8 37 7 [7], xo 9 (.binOp .eql 37 (xt 6) (xt 8) 37) [6,8], oM 10 9 [9], gF 11 40 2 1 10 true [], gL 12 9 11 10 true [11], gF 13 40 3 1 10 true [], gL 14 9 13 10 true [13], xg 15 (.binOp .eql 9 (xt 12) (xt 14) 9) 10 true [12,14], xo 16 (.pick (xt 10) (xt 15) xF) [10,15], oM 17 16 [16], gF 18 40 2 2 17 true [], gL 19 29 18 17 true [18], gF 20 40 3 2 17 true [], gL 21 29 20 17 true [20], xg 22 (xc 60 [19,21] [29,29]) 17 true [19,21], xo 23 (.pick (xt 17) (xt 22) xF) [17,22], oM 24 23 [23], gF 25 40 2 3 24 true [], gL 26 29 25 24 true [25], gF 27 40 3 3 24 true [], gL 28 29 27 24 true [27], xg 29 (xc 60 [26,28] [29,29]) 24 true [26,28], xo 30 (.pick (xt 24) (xt 29) xF) [24,29], oM 31 30 [30], gF 32 40 2 4 31 true [], gL 33 25 32 31 true [32], gF 34 40 3 4 31 true [], gL 35 25 34 31 true [34], xg 36 (xc 61 [33,35] [25,25]) 31 true [33,35], xo 37 (.pick (xt 31) (xt 36) xF) [31,36], oM 38 37 [37], gF 39 40 2 5 38 true [], gL 40 38 39 38 true [39], gF 41 40 3 5 38 true [], gL 42 38 41 38 true [41], xg 43 (xc 62 [40,42] [38,38]) 38 true [40,42], xo 44 (.pick (xt 38) (xt 43) xF) [38,43], oM 45 44 [44], gF 46 40 2 6 45 true [], gL 47 38 46 45 true [46], gF 48 40 3 6 45 true [], gL 49 38 48 45 true [48], xg 50 (xc 62 [47,49] [38,38]) 45 true [47,49], xo 51 (.pick (xt 45) (xt 50) xF) [45,50], oM 52 51 [51], gF 53 40 2 7 52 true [], gL 54 26 53 52 true [53], gF 55 40 3 7 52 true [], gL 56 26 55 52 true [55], xg 57 (xc 63 [54,56] [26,26]) 52 true [54,56], xo 58 (.pick (xt 52) (xt 57) xF) [52,57], oM 59 58 [58], gF 60 40 2 8 59 true [], gL 61 4 60 59 true [60], gF 62 40 3 8 59 true [], gL 63 4 62 59 true [62], xg 64 (.binOp .eql 4 (xt 61) (xt 63) 4) 59 true [61,63], xo 65 (.pick (xt 59) (xt 64) xF) [59,64], oM 66 65 [65], gF 67 40 2 9 66 true [], gL 68 4 67 66 true [67], gF 69 40 3 9 66 true [], gL 70 4 69 66 true [69], xg 71 (.binOp .eql 4 (xt 68) (xt 70) 4) 66 true [68,70], xo 72 (.pick (xt 66) (xt 71) xF) [66,71], oM 73 72 [72], gF 74 40 2 10 73 true [], gL 75 38 74 73 true [74], gF 76 40 3 10 73 true [], gL 77 38 76 73 true [76], xg 78 (xc 62 [75,77] [38,38]) 73 true [75,77], xo 79 (.pick (xt 73) (xt 78) xF) [73,78], oM 80 79 [79], gF 81 40 2 11 80 true [], gL 82 26 81 80 true [81], gF 83 40 3 11 80 true [], gL 84 26 83 80 true [83], xg 85 (xc 63 [82,84] [26,26]) 80 true [82,84], xo 86 (.pick (xt 80) (xt 85) xF) [80,85], oA 4 86 []])
 (.ret))
theorem akK : Tryz.f30.body.map (strip (tab.ann 30)) = some c30 := by kernel_rfl
def c34 : XC :=
 .seq (.region [oB 1 29 0 [0], xo 2 (.alloc 29) []])
 (.seq (.region [oF 3 29 1 0 [], oL 4 24 3 [], oF 5 29 1 1 [], oL 6 2 5 [], oF 7 29 1 2 [], oL 8 9 7 [], oF 9 29 1 3 [], oL 10 25 9 [], xk 11 (xc 35 [10] [25]) [], oF 12 29 1 4 [], oL 13 26 12 [], xk 14 (xc 37 [13] [26]) [], oF 15 29 1 5 [], oL 16 27 15 [], oF 17 29 1 6 [], oL 18 9 17 [], oF 19 29 1 7 [], oL 20 4 19 [], xo 21 (.build 29 #[(0, (xt 4)), (1, (xt 6)), (2, (xt 8)), (3, (xt 11)), (4, (xt 14)), (5, (xt 16)), (6, (xt 18)), (7, (xt 20))]) [], xn (.store 29 (xt 2) (xt 21))])
 (.ret))
theorem akL : Tryz.f34.body.map (strip (tab.ann 34)) = some c34 := by kernel_rfl
def c35 : XC :=
 .seq (.region [xo 2 (.assign (.const (.slice none 0 0))) []])
 (.seq (.region [oM 5 0 [], xo 6 (xb .len [5] [25]) [5], xo 7 (.binOp .add 3 (xt 6) (xi .i64 1) 3) [6], xo 8 (.makeSlice 25 (xi .i64 0) (xt 7)) [7], oA 3 8 []])
 (.seq (.seq (.region [xo 4 (.assign (xi .i64 0)) []])
 (.block 0 (.loop (.seq (.seq (.region [oM 9 4 [], oM 10 0 [], xo 11 (xb .len [10] [25]) [10], xo 12 (.binOp .lss 3 (xt 9) (xt 11) 3) []])
 (.cond 12 (.skip) (.exit 0)))
 (.seq (.block 1 (.bV [oM 15 3 [], oM 16 0 [], oM 17 4 [], oI 18 25 16 17 [16,17], oL 19 29 18 [18], xo 20 (xc 34 [19] [29]) [19], xo 21 (.buildSlice 25 1 #[(0, (xt 20))]) [20], xo 22 (xb .append [15,21] [25,25]) [15,21], oA 3 22 []]))
 (.region [oM 13 4 [], xo 14 (.binOp .add 3 (xt 13) (xi .i64 1) 3) [13], oA 4 14 []]))))))
 (.seq (.bV [oM 23 3 [], xo 24 (.build 29 #[(2, (.const (.string { data := #[115, 112, 97, 114, 101] })))]) [], xo 25 (.buildSlice 25 1 #[(0, (xt 24))]) [24], xo 26 (xb .append [23,25] [25,25]) [23,25], oM 27 0 [0], xo 28 (xb .len [27] [25]) [27], xo 29 (.slice 25 (xt 26) none (some (xt 28)) none) [26,28], oA 2 29 []])
 (.ret))))
theorem akM : Tryz.f35.body.map (strip (tab.ann 35)) = some c35 := by kernel_rfl
def c36 : XC :=
 .seq (.region [xo 2 (.assign (.const (.slice none 0 0))) []])
 (.seq (.region [oM 5 0 [], xo 6 (xb .len [5] [38]) [5], xo 7 (.binOp .add 3 (xt 6) (xi .i64 1) 3) [6], xo 8 (.makeSlice 38 (xi .i64 0) (xt 7)) [7], oA 3 8 []])
 (.seq (.seq (.region [xo 4 (.assign (xi .i64 0)) []])
 (.block 0 (.loop (.seq (.seq (.region [oM 9 4 [], oM 10 0 [], xo 11 (xb .len [10] [38]) [10], xo 12 (.binOp .lss 3 (xt 9) (xt 11) 3) []])
 (.cond 12 (.skip) (.exit 0)))
 (.seq (.block 1 (.bV [oM 15 3 [], oM 16 0 [], oM 17 4 [], oI 18 38 16 17 [16,17], oL 19 76 18 [18], xo 20 (xc 65 [19] [76]) [19], xo 21 (.buildSlice 38 1 #[(0, (xt 20))]) [20], xo 22 (xb .append [15,21] [38,38]) [15,21], oA 3 22 []]))
 (.region [oM 13 4 [], xo 14 (.binOp .add 3 (xt 13) (xi .i64 1) 3) [13], oA 4 14 []]))))))
 (.seq (.bV [oM 23 3 [], xo 24 (.build 76 #[(1, (.const (.string { data := #[115, 112, 97, 114, 101] })))]) [], xo 25 (.buildSlice 38 1 #[(0, (xt 24))]) [24], xo 26 (xb .append [23,25] [38,38]) [23,25], oM 27 0 [0], xo 28 (xb .len [27] [38]) [27], xo 29 (.slice 38 (xt 26) none (some (xt 28)) none) [26,28], oA 2 29 []])
 (.ret))))
theorem akN : Tryz.f36.body.map (strip (tab.ann 36)) = some c36 := by kernel_rfl
def c37 : XC :=
 .seq (.region [xo 2 (.assign (.const (.slice none 0 0))) []])
 (.seq (.region [oM 5 0 [], xo 6 (xb .len [5] [26]) [5], xo 7 (.binOp .add 3 (xt 6) (xi .i64 1) 3) [6], xo 8 (.makeSlice 26 (xi .i64 0) (xt 7)) [7], oA 3 8 []])
 (.seq (.seq (.region [xo 4 (.assign (xi .i64 0)) []])
 (.block 0 (.loop (.seq (.seq (.region [oM 9 4 [], oM 10 0 [], xo 11 (xb .len [10] [26]) [10], xo 12 (.binOp .lss 3 (xt 9) (xt 11) 3) []])
 (.cond 12 (.skip) (.exit 0)))
 (.seq (.block 1 (.bV [oM 15 3 [], oM 16 0 [], oM 17 4 [], oI 18 26 16 17 [16,17], oL 19 67 18 [18], xo 20 (xc 66 [19] [67]) [19], xo 21 (.buildSlice 26 1 #[(0, (xt 20))]) [20], xo 22 (xb .append [15,21] [26,26]) [15,21], oA 3 22 []]))
 (.region [oM 13 4 [], xo 14 (.binOp .add 3 (xt 13) (xi .i64 1) 3) [13], oA 4 14 []]))))))
 (.seq (.bV [oM 23 3 [], xo 24 (.build 67 #[(0, (.const (.string { data := #[115, 112, 97, 114, 101] })))]) [], xo 25 (.buildSlice 26 1 #[(0, (xt 24))]) [24], xo 26 (xb .append [23,25] [26,26]) [23,25], oM 27 0 [0], xo 28 (xb .len [27] [26]) [27], xo 29 (.slice 26 (xt 26) none (some (xt 28)) none) [26,28], oA 2 29 []])
 (.ret))))
theorem akO : Tryz.f37.body.map (strip (tab.ann 37)) = some c37 := by kernel_rfl
def c38 : XC :=
 .seq (.region [oB 2 40 0 [0], xo 3 (.assign xF) []])
 (.seq (.region [oF 4 40 2 1 [], oL 5 9 4 [4], oL 6 9 1 [], xo 7 (.binOp .eql 9 (xt 5) (xt 6) 9) [5,6], oA 3 7 []])
 (.ret))
theorem abH : Tryz.f38.body.map (strip (tab.ann 38)) = some c38 := by kernel_rfl
def c39 : XC :=
 .seq (.region [xo 2 (.assign (.const (.slice none 0 0))) []])
 (.seq (.region [oM 5 0 [0], xo 6 (xc 67 [5] [25]) [5], oA 3 6 []])
 (.seq (.seq (.region [oM 7 3 [], xo 8 (xb .len [7] [25]) [7], xo 9 (.move (xi .i64 0)) []])
 (.block 0 (.loop (.seq (.region [xo 10 (.binOp .lss 3 (xt 9) (xt 8) 3) []])
 (.seq (.cond 10 (.skip) (.exit 0))
 (.seq (.block 1 (.seq (.region [oM 11 9 [], oA 4 11 []])
 (.region [oM 12 3 [], oM 13 4 [], oM 14 3 [], oM 15 4 [], oI 16 25 14 15 [14,15], oL 17 29 16 [16], xo 18 (xc 18 [17] [29]) [17], oI 19 25 12 13 [12,13], xn (.store 29 (xt 19) (xt 18))])))
 (.region [xo 20 (.binOp .add 3 (xt 9) (xi .i64 1) 3) [], oM 9 20 []])))))))
 (.seq (.region [oM 21 3 [], xo 22 (xc 68 [21] [25]) [21], oA 2 22 []])
 (.ret))))
theorem abI : Tryz.f39.body.map (strip (tab.ann 39)) = some c39 := by kernel_rfl
def c40 : XC :=
 .seq (.region [xo 2 (.assign (.const (.slice none 0 0))) []])
 (.seq (.region [oM 5 0 [0], xo 6 (xc 69 [5] [26]) [5], oA 3 6 []])
 (.seq (.seq (.region [oM 7 3 [], xo 8 (xb .len [7] [26]) [7], xo 9 (.move (xi .i64 0)) []])
 (.block 0 (.loop (.seq (.region [xo 10 (.binOp .lss 3 (xt 9) (xt 8) 3) []])
 (.seq (.cond 10 (.skip) (.exit 0))
 (.seq (.block 1 (.seq (.region [oM 11 9 [], oA 4 11 []])
 (.region [oM 12 3 [], oM 13 4 [], oM 14 3 [], oM 15 4 [], oI 16 26 14 15 [14,15], oF 17 67 16 1 [16], oL 18 29 17 [17], xo 19 (xc 18 [18] [29]) [18], oI 20 26 12 13 [12,13], oF 21 67 20 1 [20], xn (.store 29 (xt 21) (xt 19))])))
 (.region [xo 22 (.binOp .add 3 (xt 9) (xi .i64 1) 3) [], oM 9 22 []])))))))
 (.seq (.region [oM 23 3 [], xo 24 (xc 70 [23] [26]) [23], oA 2 24 []])
 (.ret))))
theorem abJ : Tryz.f40.body.map (strip (tab.ann 40)) = some c40 := by kernel_rfl
def c41 : XC :=
 .seq (.region [xo 4 (.assign (xi .i64 0)) []])
 (.seq (.seq (.region [oM 6 0 [], xo 7 (xb .len [6] [22]) [6], xo 8 (.move (xi .i64 0)) []])
 (.block 0 (.loop (.seq (.region [xo 9 (.binOp .lss 3 (xt 8) (xt 7) 3) []])
 (.seq (.cond 9 (.skip) (.exit 0))
 (.seq (.block 1 (.seq (.region [oM 10 8 [], oA 5 10 []])
 (.seq (.region [oM 11 1 [], oM 12 0 [], oM 13 5 [], oI 14 22 12 13 [12,13], oL 15 40 14 [14], xo 16 (.call { callee := (.value (xt 11)), args := #[(xt 15)], argTypes := #[40] }) []])
 (.cond 16 (.seq (.region [oM 17 5 [], oA 4 17 []])
 (.ret)) (.skip)))))
 (.region [xo 18 (.binOp .add 3 (xt 8) (xi .i64 1) 3) [], oM 8 18 []])))))))
 (.seq (.region [xo 4 (.assign (.const (.int .i64 (-1)))) []])
 (.ret)))
theorem Vo : Tryz.f41.body.map (strip (tab.ann 41)) = some c41 := by kernel_rfl
def c42 : XC :=
 .seq (.region [oB 3 40 0 [0], xo 4 (.assign xF) []])
 (.seq (.bV [oL 5 56 1 [], oF 6 40 3 0 [], oL 7 37 6 [6], xo 8 (xc 43 [5,7] [56,37]) [5,7], oM 9 8 [8], gL 10 47 2 9 true [], gL 11 40 3 9 true [], xg 12 (.call { callee := (.value (xt 10)), args := #[(xt 11)], argTypes := #[40] }) 9 true [10,11], xo 13 (.pick (xt 9) (xt 12) xF) [9,12], oA 4 13 []])
 (.ret))
theorem Vp : Tryz.f42.body.map (strip (tab.ann 42)) = some c42 := by kernel_rfl
def c43 : XC :=
 .seq (.region [xo 4 (.assign xF) []])
 (.seq (.region [oM 5 0 [0], oM 6 1 [1], xo 7 (xc 71 [5,6] [56,37]) [5,6], xo 8 (.binOp .geq 3 (xt 7) (xi .i64 0) 3) [7], oA 4 8 []])
 (.ret))
theorem abK : Tryz.f43.body.map (strip (tab.ann 43)) = some c43 := by kernel_rfl
def c44 : XC :=
 .seq (.region [xo 6 (.assign xF) []])
 (.seq (.seq (.region [oM 10 0 [], xo 11 (xb .len [10] [25]) [10], oM 12 1 [], xo 13 (xb .len [12] [25]) [12], xo 14 (.binOp .neq 3 (xt 11) (xt 13) 3) []])
 (.cond 14 (.seq (.region [xo 6 (.assign xF) []])
 (.ret)) (.skip)))
 (.seq (.seq (.region [oM 15 0 [0], xo 16 (xb .len [15] [25]) [], xo 17 (.move (xi .i64 0)) []])
 (.block 0 (.loop (.seq (.region [xo 18 (.binOp .lss 3 (xt 17) (xt 16) 3) []])
 (.seq (.cond 18 (.skip) (.exit 0))
 (.seq (.block 1 (.seq (.region [oM 19 17 [], oI 20 25 15 17 [], oL 21 29 20 [20], xo 8 (.alloc 29) [], oA 7 19 [19], xn (.store 29 (xt 8) (xt 21))])
 (.seq (.region [oM 22 1 [], oM 23 7 [], oI 24 25 22 23 [22,23], oL 25 29 24 [24], xo 9 (.alloc 29) [], xn (.store 29 (xt 9) (xt 25))])
 (.seq (.region [oM 26 2 [], oL 27 29 8 [], oL 28 29 9 [], xo 29 (.call { callee := (.value (xt 26)), args := #[(xt 27), (xt 28)], argTypes := #[29, 29] }) [26,27,28], xo 30 (.unOp .not 4 (xt 29)) []])
 (.cond 30 (.seq (.region [xo 6 (.assign xF) []])
 (.ret)) (.skip))))))
 (.region [xo 31 (.binOp .add 3 (xt 17) (xi .i64 1) 3) [], oM 17 31 []])))))))
 (.seq (.region [xo 6 (.assign xT) []])
 (.ret))))
theorem abL : Tryz.f44.body.map (strip (tab.ann 44)) = some c44 := by kernel_rfl
def c45 : XC :=
 .seq (.region [xo 4 (.assign xF) []])
 (.seq (.region [oM 5 0 [0], oM 6 1 [1], xo 7 (.call { callee := (.value (.func 72)), args := #[(xt 5), (xt 6), (.func 73)], argTypes := #[26, 26, 65] }) [5,6], oA 4 7 []])
 (.ret))
theorem abM : Tryz.f45.body.map (strip (tab.ann 45)) = some c45 := by kernel_rfl
def c46 : XC :=
 .seq (.region [xo 4 (.assign xF) []])
 (.seq (.seq (.region [oM 6 0 [], xo 7 (xb .len [6] [26]) [6], oM 8 1 [], xo 9 (xb .len [8] [26]) [8], xo 10 (.binOp .neq 3 (xt 7) (xt 9) 3) []])
 (.cond 10 (.seq (.region [xo 4 (.assign xF) []])
 (.ret)) (.skip)))
 (.seq (.seq (.region [xo 5 (.assign (xi .i64 0)) []])
 (.block 0 (.loop (.seq (.seq (.region [oM 11 5 [], oM 12 0 [], xo 13 (xb .len [12] [26]) [12], xo 14 (.binOp .lss 3 (xt 11) (xt 13) 3) []])
 (.cond 14 (.skip) (.exit 0)))
 (.seq (.block 1 (.seq (.bV [oM 17 0 [], oM 18 5 [], oI 19 26 17 18 [], oF 20 67 19 0 [], oL 21 9 20 [], oM 22 1 [], oM 23 5 [], oI 24 26 22 23 [], oF 25 67 24 0 [], oL 26 9 25 [], xo 27 (.binOp .neq 9 (xt 21) (xt 26) 9) [], oM 28 27 [], gM 29 0 28 false [], gM 30 5 28 false [], xg 31 (.indexAddr 26 (xt 29) (xt 30)) 28 false [], gF 32 67 31 1 28 false [], gL 33 29 32 28 false [], gM 34 1 28 false [], gM 35 5 28 false [], xg 36 (.indexAddr 26 (xt 34) (xt 35)) 28 false [], gF 37 67 36 1 28 false [], gL 38 29 37 28 false [], xg 39 (xc 25 [33,38] [29,29]) 28 false [], xg 40 (.unOp .not 4 (xt 39)) 28 false [], xo 41 (.pick (xt 28) xT (xt 40)) []])
 (.cond 41 (.seq (.region [xo 4 (.assign xF) []])
 (.ret)) (.skip))))
 (.region [oM 15 5 [], xo 16 (.binOp .add 3 (xt 15) (xi .i64 1) 3) [15], oA 5 16 []]))))))
 (.seq (.region [xo 4 (.assign xT) []])
 (.ret))))
theorem akP : Tryz.f46.body.map (strip (tab.ann 46)) = some c46 := by kernel_rfl
def c47 : XC :=
 .seq (.region [xo 4 (.assign xF) []])
 (.seq (.region [oM 5 0 [0], oM 6 1 [1], xo 7 (xc 74 [5,6] [25,61]) [5,6], xo 8 (.binOp .geq 3 (xt 7) (xi .i64 0) 3) [7], oA 4 8 []])
 (.ret))
theorem abN : Tryz.f47.body.map (strip (tab.ann 47)) = some c47 := by kernel_rfl
def c48 : XC :=
 .seq (.region [oB 1 29 0 [0], xo 2 (.assign xF) []])
 (.seq (.region [oL 3 29 1 [], xo 4 (xc 49 [3] [29]) [3], xo 5 (.unOp .not 4 (xt 4)) [4], oA 2 5 []])
 (.ret))
theorem abO : Tryz.f48.body.map (strip (tab.ann 48)) = some c48 := by kernel_rfl
def c49 : XC :=
 .seq (.region [oB 1 29 0 [0], xo 2 (.assign xF) []])
 (.seq (.region [xo 3 (.alloc 3) [], xo 4 (.alloc 4) [], xn (.store 3 (xt 3) (xi .i64 0)), xn (.store 4 (xt 4) xT)])
 (.seq (.region [oL 5 29 1 [], xo 6 (.makeFunc (.func 76) #[] #[(xt 3), (xt 4)]) [], xo 7 (xc 75 [5,6] [29,83]) []])
 (.seq (.region [oL 8 4 4 [], oA 2 8 []])
 (.ret))))
theorem abP : Tryz.f49.body.map (strip (tab.ann 49)) = some c49 := by kernel_rfl
def c50 : XC :=
 .seq (.region [xo 2 (.assign xF) []])
 (.seq (.bV [oM 3 0 [], xo 4 (.binOp .neq 9 (xt 3) (.const (.string { data := #[] })) 9) [3], oM 5 4 [4], gM 6 0 5 true [0], xg 7 (xb .len [6] [9]) 5 true [6], xg 8 (.binOp .leq 3 (xt 7) (xi .i64 4096) 3) 5 true [7], xo 9 (.pick (xt 5) (xt 8) xF) [5,8], oA 2 9 []])
 (.ret))
theorem abQ : Tryz.f50.body.map (strip (tab.ann 50)) = some c50 := by kernel_rfl
def c51 : XC :=
 .seq (.region [oB 1 29 0 [0], xo 2 (.assign xF) []])
 (.seq (.region [oL 3 29 1 [], xo 4 (.build 29 #[]) [], xo 5 (xc 24 [3,4] [29,29]) [3,4], oA 2 5 []])
 (.ret))
theorem abR : Tryz.f51.body.map (strip (tab.ann 51)) = some c51 := by kernel_rfl
def c52 : XC :=
 .seq (.region [xo 2 (.assign xF) []])
 (.seq (.seq (.region [oM 5 0 [], xo 6 (xb .len [5] [26]) [], xo 7 (.move (xi .i64 0)) []])
 (.block 0 (.loop (.seq (.region [xo 8 (.binOp .lss 3 (xt 7) (xt 6) 3) []])
 (.seq (.cond 8 (.skip) (.exit 0))
 (.seq (.block 1 (.seq (.region [oM 9 7 [], oI 10 26 5 7 [], oL 11 67 10 [10], xo 4 (.alloc 67) [], oA 3 9 [9], xn (.store 67 (xt 4) (xt 11))])
 (.seq (.eZ [[oF 12 67 4 0 [], oL 13 9 12 [], xo 14 (xc 50 [13] [9]) [], xo 15 (.unOp .not 4 (xt 14)) [], oM 16 15 [], gM 17 3 16 false [], xg 18 (.binOp .gtr 3 (xt 17) (xi .i64 0) 3) 16 false [], gM 19 18 16 false [], gF 20 67 4 0 19 true [], gL 21 9 20 19 true [], gM 22 0 19 true [], gM 23 3 19 true [], xg 24 (.binOp .sub 3 (xt 23) (xi .i64 1) 3) 19 true [], xg 25 (.indexAddr 26 (xt 22) (xt 24)) 19 true [], gF 26 67 25 0 19 true [], gL 27 9 26 19 true [], xg 28 (.binOp .leq 9 (xt 21) (xt 27) 9) 19 true [], xg 29 (.pick (xt 19) (xt 28) xF) 16 false [], xo 30 (.pick (xt 16) xT (xt 29)) []], [oM 31 30 [], gF 32 67 4 1 31 false [], gL 33 29 32 31 false [], xg 34 (xc 49 [33] [29]) 31 false [], xg 35 (.unOp .not 4 (xt 34)) 31 false [], xo 36 (.pick (xt 31) xT (xt 35)) []]])
 (.cond 36 (.seq (.region [xo 2 (.assign xF) []])
 (.ret)) (.skip)))))
 (.region [xo 37 (.binOp .add 3 (xt 7) (xi .i64 1) 3) [], oM 7 37 []])))))))
 (.seq (.region [xo 2 (.assign xT) []])
 (.ret)))
theorem abS : Tryz.f52.body.map (strip (tab.ann 52)) = some c52 := by kernel_rfl
def c53 : XC :=
 .seq (.region [xo 2 (.assign xF) []])
 (.seq (.bV [oM 3 0 [], xo 4 (xb .len [3] [9]) [3], xo 5 (.binOp .geq 3 (xt 4) (xi .i64 1) 3) [4], oM 6 5 [5], gM 7 0 6 true [0], xg 8 (xb .len [7] [9]) 6 true [7], xg 9 (.binOp .leq 3 (xt 8) (xi .i64 4096) 3) 6 true [8], xo 10 (.pick (xt 6) (xt 9) xF) [6,9], oA 2 10 []])
 (.ret))
theorem akQ : Tryz.f53.body.map (strip (tab.ann 53)) = some c53 := by kernel_rfl
def c54 : XC :=
 .seq (.region [oB 1 29 0 [0], xo 2 (.assign xF) []])
 (.seq (.bV [oL 3 29 1 [], xo 4 (xc 78 [3] [29]) [3], oM 5 4 [4], gL 6 29 1 5 true [], xg 7 (xc 79 [6] [29]) 5 true [6], xg 8 (.binOp .leq 3 (xt 7) (xi .i64 4096) 3) 5 true [7], xo 9 (.pick (xt 5) (xt 8) xF) [5,8], oM 10 9 [9], gL 11 29 1 10 true [], xg 12 (xc 80 [11] [29]) 10 true [11], xg 13 (.binOp .leq 3 (xt 12) (xi .i64 64) 3) 10 true [12], xo 14 (.pick (xt 10) (xt 13) xF) [10,13], oA 2 14 []])
 (.ret))
theorem akR : Tryz.f54.body.map (strip (tab.ann 54)) = some c54 := by kernel_rfl
def c55 : XC :=
 .seq (.region [oB 1 40 0 [0], xo 2 (.assign xF) []])
 (.seq (.eZ [[oF 3 40 1 5 [], oL 4 38 3 [3], xo 5 (xb .len [4] [38]) [4], oF 6 40 1 6 [], oL 7 38 6 [6], xo 8 (xb .len [7] [38]) [7], xo 9 (.binOp .add 3 (xt 5) (xt 8) 3) [5,8], oF 10 40 1 7 [], oL 11 26 10 [10], xo 12 (xb .len [11] [26]) [11], xo 13 (.binOp .add 3 (xt 9) (xt 12) 3) [9,12], oF 14 40 1 10 [], oL 15 38 14 [14], xo 16 (xb .len [15] [38]) [15], xo 17 (.binOp .add 3 (xt 13) (xt 16) 3) [13,16], oF 18 40 1 11 [], oL 19 26 18 [18], xo 20 (xb .len [19] [26]) [19], xo 21 (.binOp .add 3 (xt 17) (xt 20) 3) [17,20], xo 22 (.binOp .eql 3 (xt 21) (xi .i64 0) 3) [21], oM 23 22 [22], gF 24 40 1 8 23 true [], gL 25 4 24 23 true [24], xg 26 (.unOp .not 4 (xt 25)) 23 true [25], xo 27 (.pick (xt 23) (xt 26) xF) [23,26]], [oM 28 27 [27], gF 29 40 1 9 28 true [], gL 30 4 29 28 true [29], xg 31 (.unOp .not 4 (xt 30)) 28 true [30], xo 32 (.pick (xt 28) (xt 31) xF) [28,31]], [oA 2 32 []]])
 (.ret))
theorem akS : Tryz.f55.body.map (strip (tab.ann 55)) = some c55 := by kernel_rfl
def c56 : XC :=
 .seq (.region [oB 1 29 0 [0], xo 2 (.assign xF) []])
 (.seq (.region [oL 3 29 1 [], xo 4 (.build 29 #[]) [], xo 5 (xc 25 [3,4] [29,29]) [3,4], oA 2 5 []])
 (.ret))
theorem akT : Tryz.f56.body.map (strip (tab.ann 56)) = some c56 := by kernel_rfl
def c57 : XC :=
 .seq (.region [xo 2 (.assign xF) []])
 (.seq (.seq (.region [xo 3 (.assign (xi .i64 0)) []])
 (.block 0 (.loop (.seq (.seq (.region [oM 4 3 [], oM 5 0 [], xo 6 (xb .len [5] [25]) [5], xo 7 (.binOp .lss 3 (xt 4) (xt 6) 3) []])
 (.cond 7 (.skip) (.exit 0)))
 (.seq (.block 1 (.seq (.region [oM 10 0 [], oM 11 3 [], oI 12 25 10 11 [10,11], oL 13 29 12 [12], xo 14 (xc 54 [13] [29]) [13], xo 15 (.unOp .not 4 (xt 14)) []])
 (.cond 15 (.seq (.region [xo 2 (.assign xF) []])
 (.ret)) (.skip))))
 (.region [oM 8 3 [], xo 9 (.binOp .add 3 (xt 8) (xi .i64 1) 3) [8], oA 3 9 []]))))))
 (.seq (.region [xo 2 (.assign xT) []])
 (.ret)))
theorem akU : Tryz.f57.body.map (strip (tab.ann 57)) = some c57 := by kernel_rfl
def c58 : XC :=
 .seq (.region [xo 2 (.assign xF) []])
 (.seq (.seq (.region [xo 3 (.assign (xi .i64 0)) []])
 (.block 0 (.loop (.seq (.seq (.region [oM 4 3 [], oM 5 0 [], xo 6 (xb .len [5] [26]) [5], xo 7 (.binOp .lss 3 (xt 4) (xt 6) 3) []])
 (.cond 7 (.skip) (.exit 0)))
 (.seq (.block 1 (.seq (.eZ [[oM 10 0 [], oM 11 3 [], oI 12 26 10 11 [], oF 13 67 12 0 [], oL 14 9 13 [], xo 15 (xc 53 [14] [9]) [], xo 16 (.unOp .not 4 (xt 15)) [], oM 17 16 [], gM 18 3 17 false [], xg 19 (.binOp .gtr 3 (xt 18) (xi .i64 0) 3) 17 false [], gM 20 19 17 false [], gM 21 0 20 true [], gM 22 3 20 true [], xg 23 (.indexAddr 26 (xt 21) (xt 22)) 20 true [], gF 24 67 23 0 20 true [], gL 25 9 24 20 true [], gM 26 0 20 true [], gM 27 3 20 true [], xg 28 (.binOp .sub 3 (xt 27) (xi .i64 1) 3) 20 true [], xg 29 (.indexAddr 26 (xt 26) (xt 28)) 20 true [], gF 30 67 29 0 20 true [], gL 31 9 30 20 true [], xg 32 (.binOp .leq 9 (xt 25) (xt 31) 9) 20 true [], xg 33 (.pick (xt 20) (xt 32) xF) 17 false [], xo 34 (.pick (xt 17) xT (xt 33)) []], [oM 35 34 [], gM 36 0 35 false [], gM 37 3 35 false [], xg 38 (.indexAddr 26 (xt 36) (xt 37)) 35 false [], gF 39 67 38 1 35 false [], gL 40 29 39 35 false [], xg 41 (xc 54 [40] [29]) 35 false [], xg 42 (.unOp .not 4 (xt 41)) 35 false [], xo 43 (.pick (xt 35) xT (xt 42)) []]])
 (.cond 43 (.seq (.region [xo 2 (.assign xF) []])
 (.ret)) (.skip))))
 (.region [oM 8 3 [], xo 9 (.binOp .add 3 (xt 8) (xi .i64 1) 3) [8], oA 3 9 []]))))))
 (.seq (.region [xo 2 (.assign xT) []])
 (.ret)))
theorem akV : Tryz.f58.body.map (strip (tab.ann 58)) = some c58 := by kernel_rfl
def c59 : XC :=
 .seq (.region [oB 2 67 0 [0], oB 3 67 1 [1], xo 4 (.assign xF) []])
 (.seq (.bV [oF 5 67 2 0 [], oL 6 9 5 [5], oF 7 67 3 0 [], oL 8 9 7 [7], xo 9 (.binOp .eql 9 (xt 6) (xt 8) 9) [6,8], oM 10 9 [9], gF 11 67 2 1 10 true [], gL 12 29 11 10 true [11], gF 13 67 3 1 10 true [], gL 14 29 13 10 true [13], xg 15 (xc 13 [12,14] [29,29]) 10 true [12,14], xo 16 (.pick (xt 10) (xt 15) xF) [10,15], oA 4 16 []])
 (.ret))
theorem akW : Tryz.f59.body.map (strip (tab.ann 59)) = some c59 := by kernel_rfl
def c60 : XC :=
 .seq (.region [oB 2 29 0 [0], oB 3 29 1 [1], xo 4 (.assign xF) []])
 (.seq (.bV [oF 5 29 2 0 [], oL 6 24 5 [5], oF 7 29 3 0 [], oL 8 24 7 [7], xo 9 (.binOp .eql 24 (xt 6) (xt 8) 24) [6,8], oM 10 9 [9], gF 11 29 2 1 10 true [], gL 12 2 11 10 true [11], gF 13 29 3 1 10 true [], gL 14 2 13 10 true [13], xg 15 (.binOp .eql 2 (xt 12) (xt 14) 2) 10 true [12,14], xo 16 (.pick (xt 10) (xt 15) xF) [10,15], oM 17 16 [16], gF 18 29 2 2 17 true [], gL 19 9 18 17 true [18], gF 20 29 3 2 17 true [], gL 21 9 20 17 true [20], xg 22 (.binOp .eql 9 (xt 19) (xt 21) 9) 17 true [19,21], xo 23 (.pick (xt 17) (xt 22) xF) [17,22], oM 24 23 [23], gF 25 29 2 3 24 true [], gL 26 25 25 24 true [25], gF 27 29 3 3 24 true [], gL 28 25 27 24 true [27], xg 29 (xc 61 [26,28] [25,25]) 24 true [26,28], xo 30 (.pick (xt 24) (xt 29) xF) [24,29], oM 31 30 [30], gF 32 29 2 4 31 true [], gL 33 26 32 31 true [32], gF 34 29 3 4 31 true [], gL 35 26 34 31 true [34], xg 36 (xc 63 [33,35] [26,26]) 31 true [33,35], xo 37 (.pick (xt 31) (xt 36) xF) [31,36], oM 38 37 [37], gF 39 29 2 5 38 true [], gL 40 27 39 38 true [39], gF 41 29 3 5 38 true [], gL 42 27 41 38 true [41], xg 43 (.binOp .eql 27 (xt 40) (xt 42) 27) 38 true [40,42], xo 44 (.pick (xt 38) (xt 43) xF) [38,43], oM 45 44 [44], gF 46 29 2 6 45 true [], gL 47 9 46 45 true [46], gF 48 29 3 6 45 true [], gL 49 9 48 45 true [48], xg 50 (.binOp .eql 9 (xt 47) (xt 49) 9) 45 true [47,49], xo 51 (.pick (xt 45) (xt 50) xF) [45,50], oM 52 51 [51], gF 53 29 2 7 52 true [], gL 54 4 53 52 true [53], gF 55 29 3 7 52 true [], gL 56 4 55 52 true [55], xg 57 (.binOp .eql 4 (xt 54) (xt 56) 4) 52 true [54,56], xo 58 (.pick (xt 52) (xt 57) xF) [52,57], oA 4 58 []])
 (.ret))
theorem akX : Tryz.f60.body.map (strip (tab.ann 60)) = some c60 := by kernel_rfl
def c61 : XC :=
 .seq (.region [xo 4 (.assign xF) []])
 (.seq (.seq (.bV [oM 7 0 [], xo 8 (xb .len [7] [25]) [7], oM 9 1 [], xo 10 (xb .len [9] [25]) [9], xo 11 (.binOp .neq 3 (xt 8) (xt 10) 3) [8,10], oM 12 11 [11], gM 13 0 12 false [], xg 14 (xb .cap [13] [25]) 12 false [13], gM 15 1 12 false [], xg 16 (xb .len [15] [25]) 12 false [15], xg 17 (.binOp .leq 3 (xt 14) (xt 16) 3) 12 false [14,16], xo 18 (.pick (xt 12) xT (xt 17)) []])
 (.cond 18 (.seq (.region [xo 4 (.assign xF) []])
 (.ret)) (.skip)))
 (.seq (.seq (.region [xo 5 (.assign (xi .i64 0)) []])
 (.block 0 (.loop (.seq (.seq (.region [oM 19 5 [], oM 20 1 [], xo 21 (xb .len [20] [25]) [20], xo 22 (.binOp .lss 3 (xt 19) (xt 21) 3) []])
 (.cond 22 (.skip) (.exit 0)))
 (.seq (.block 1 (.seq (.region [oM 25 0 [], oM 26 5 [], oI 27 25 25 26 [], oL 28 29 27 [], oM 29 1 [], oM 30 5 [], oI 31 25 29 30 [], oL 32 29 31 [], xo 33 (xc 60 [28,32] [29,29]) [], xo 34 (.unOp .not 4 (xt 33)) []])
 (.cond 34 (.seq (.region [xo 4 (.assign xF) []])
 (.ret)) (.skip))))
 (.region [oM 23 5 [], xo 24 (.binOp .add 3 (xt 23) (xi .i64 1) 3) [23], oA 5 24 []]))))))
 (.seq (.region [oM 35 0 [0], oM 36 1 [], xo 37 (xb .len [36] [25]) [36], xo 38 (.binOp .add 3 (xt 37) (xi .i64 1) 3) [37], xo 39 (.slice 25 (xt 35) none (some (xt 38)) none) [35,38], oM 40 1 [1], xo 41 (xb .len [40] [25]) [40], oI 42 25 39 41 [39,41], oL 43 29 42 [42], xo 6 (.alloc 29) [], xn (.store 29 (xt 6) (xt 43))])
 (.seq (.region [oF 44 29 6 2 [], oL 45 9 44 [44], xo 46 (.binOp .eql 9 (xt 45) (.const (.string { data := #[115, 112, 97, 114, 101] })) 9) [45], oA 4 46 []])
 (.ret)))))
theorem abT : Tryz.f61.body.map (strip (tab.ann 61)) = some c61 := by kernel_rfl
def c62 : XC :=
 .seq (.region [xo 4 (.assign xF) []])
 (.seq (.seq (.bV [oM 7 0 [], xo 8 (xb .len [7] [38]) [7], oM 9 1 [], xo 10 (xb .len [9] [38]) [9], xo 11 (.binOp .neq 3 (xt 8) (xt 10) 3) [8,10], oM 12 11 [11], gM 13 0 12 false [], xg 14 (xb .cap [13] [38]) 12 false [13], gM 15 1 12 false [], xg 16 (xb .len [15] [38]) 12 false [15], xg 17 (.binOp .leq 3 (xt 14) (xt 16) 3) 12 false [14,16], xo 18 (.pick (xt 12) xT (xt 17)) []])
 (.cond 18 (.seq (.region [xo 4 (.assign xF) []])
 (.ret)) (.skip)))
 (.seq (.seq (.region [xo 5 (.assign (xi .i64 0)) []])
 (.block 0 (.loop (.seq (.seq (.region [oM 19 5 [], oM 20 1 [], xo 21 (xb .len [20] [38]) [20], xo 22 (.binOp .lss 3 (xt 19) (xt 21) 3) []])
 (.cond 22 (.skip) (.exit 0)))
 (.seq (.block 1 (.seq (.region [oM 25 0 [], oM 26 5 [], oI 27 38 25 26 [], oL 28 76 27 [], oM 29 1 [], oM 30 5 [], oI 31 38 29 30 [], oL 32 76 31 [], xo 33 (xc 81 [28,32] [76,76]) [], xo 34 (.unOp .not 4 (xt 33)) []])
 (.cond 34 (.seq (.region [xo 4 (.assign xF) []])
 (.ret)) (.skip))))
 (.region [oM 23 5 [], xo 24 (.binOp .add 3 (xt 23) (xi .i64 1) 3) [23], oA 5 24 []]))))))
 (.seq (.region [oM 35 0 [0], oM 36 1 [], xo 37 (xb .len [36] [38]) [36], xo 38 (.binOp .add 3 (xt 37) (xi .i64 1) 3) [37], xo 39 (.slice 38 (xt 35) none (some (xt 38)) none) [35,38], oM 40 1 [1], xo 41 (xb .len [40] [38]) [40], oI 42 38 39 41 [39,41], oL 43 76 42 [42], xo 6 (.alloc 76) [], xn (.store 76 (xt 6) (xt 43))])
 (.seq (.region [oF 44 76 6 1 [], oL 45 9 44 [44], xo 46 (.binOp .eql 9 (xt 45) (.const (.string { data := #[115, 112, 97, 114, 101] })) 9) [45], oA 4 46 []])
 (.ret)))))
theorem abU : Tryz.f62.body.map (strip (tab.ann 62)) = some c62 := by kernel_rfl
def c63 : XC :=
 .seq (.region [xo 4 (.assign xF) []])
 (.seq (.seq (.bV [oM 7 0 [], xo 8 (xb .len [7] [26]) [7], oM 9 1 [], xo 10 (xb .len [9] [26]) [9], xo 11 (.binOp .neq 3 (xt 8) (xt 10) 3) [8,10], oM 12 11 [11], gM 13 0 12 false [], xg 14 (xb .cap [13] [26]) 12 false [13], gM 15 1 12 false [], xg 16 (xb .len [15] [26]) 12 false [15], xg 17 (.binOp .leq 3 (xt 14) (xt 16) 3) 12 false [14,16], xo 18 (.pick (xt 12) xT (xt 17)) []])
 (.cond 18 (.seq (.region [xo 4 (.assign xF) []])
 (.ret)) (.skip)))
 (.seq (.seq (.region [xo 5 (.assign (xi .i64 0)) []])
 (.block 0 (.loop (.seq (.seq (.region [oM 19 5 [], oM 20 1 [], xo 21 (xb .len [20] [26]) [20], xo 22 (.binOp .lss 3 (xt 19) (xt 21) 3) []])
 (.cond 22 (.skip) (.exit 0)))
 (.seq (.block 1 (.seq (.region [oM 25 0 [], oM 26 5 [], oI 27 26 25 26 [], oL 28 67 27 [], oM 29 1 [], oM 30 5 [], oI 31 26 29 30 [], oL 32 67 31 [], xo 33 (xc 82 [28,32] [67,67]) [], xo 34 (.unOp .not 4 (xt 33)) []])
 (.cond 34 (.seq (.region [xo 4 (.assign xF) []])
 (.ret)) (.skip))))
 (.region [oM 23 5 [], xo 24 (.binOp .add 3 (xt 23) (xi .i64 1) 3) [23], oA 5 24 []]))))))
 (.seq (.region [oM 35 0 [0], oM 36 1 [], xo 37 (xb .len [36] [26]) [36], xo 38 (.binOp .add 3 (xt 37) (xi .i64 1) 3) [37], xo 39 (.slice 26 (xt 35) none (some (xt 38)) none) [35,38], oM 40 1 [1], xo 41 (xb .len [40] [26]) [40], oI 42 26 39 41 [39,41], oL 43 67 42 [42], xo 6 (.alloc 67) [], xn (.store 67 (xt 6) (xt 43))])
 (.seq (.region [oF 44 67 6 0 [], oL 45 9 44 [44], xo 46 (.binOp .eql 9 (xt 45) (.const (.string { data := #[115, 112, 97, 114, 101] })) 9) [45], oA 4 46 []])
 (.ret)))))
theorem abV : Tryz.f63.body.map (strip (tab.ann 63)) = some c63 := by kernel_rfl
def c65 : XC :=
 .seq (.region [oB 1 76 0 [0], xo 2 (.alloc 76) []])
 (.seq (.region [oF 3 76 1 0 [], oL 4 69 3 [], oF 5 76 1 1 [], oL 6 9 5 [], oF 7 76 1 2 [], oL 8 74 7 [], xk 9 (xc 86 [8] [74]) [], xo 10 (.build 76 #[(0, (xt 4)), (1, (xt 6)), (2, (xt 9))]) [], xn (.store 76 (xt 2) (xt 10))])
 (.ret))
theorem akY : Tryz.f65.body.map (strip (tab.ann 65)) = some c65 := by kernel_rfl
def c66 : XC :=
 .seq (.region [oB 1 67 0 [0], xo 2 (.alloc 67) []])
 (.seq (.region [oF 3 67 1 0 [], oL 4 9 3 [], oF 5 67 1 1 [], oL 6 29 5 [], xk 7 (xc 34 [6] [29]) [], xo 8 (.build 67 #[(0, (xt 4)), (1, (xt 7))]) [], xn (.store 67 (xt 2) (xt 8))])
 (.ret))
theorem akZ : Tryz.f66.body.map (strip (tab.ann 66)) = some c66 := by kernel_rfl
def c67 : XC :=
 .seq (.region [xo 2 (.assign (.const (.slice none 0 0))) []])
 (.seq (.seq (.bV [oM 3 0 [], xo 4 (.binOp .eql 25 (xt 3) (.const (.slice none 0 0)) 25) []])
 (.cond 4 (.seq (.region [xo 2 (.assign (.const (.slice none 0 0))) []])
 (.ret)) (.skip)))
 (.seq (.bV [xo 5 (.buildSlice 25 0 #[]) [], oM 6 0 [0], xo 7 (xb .append [5,6] [25,25]) [5,6], oA 2 7 []])
 (.ret)))
theorem abW : Tryz.f67.body.map (strip (tab.ann 67)) = some c67 := by kernel_rfl
def c68 : XC :=
 .seq (.region [xo 2 (.assign (.const (.slice none 0 0))) []])
 (.seq (.region [oM 3 0 [], oM 4 0 [], xo 5 (xb .len [4] [25]) [4], oM 6 0 [0], xo 7 (xb .len [6] [25]) [6], xo 8 (.slice 25 (xt 3) none (some (xt 5)) (some (xt 7))) [3,5,7], oA 2 8 []])
 (.ret))
theorem abX : Tryz.f68.body.map (strip (tab.ann 68)) = some c68 := by kernel_rfl
def c69 : XC :=
 .seq (.region [xo 2 (.assign (.const (.slice none 0 0))) []])
 (.seq (.seq (.bV [oM 3 0 [], xo 4 (.binOp .eql 26 (xt 3) (.const (.slice none 0 0)) 26) []])
 (.cond 4 (.seq (.region [xo 2 (.assign (.const (.slice none 0 0))) []])
 (.ret)) (.skip)))
 (.seq (.bV [xo 5 (.buildSlice 26 0 #[]) [], oM 6 0 [0], xo 7 (xb .append [5,6] [26,26]) [5,6], oA 2 7 []])
 (.ret)))
theorem abY : Tryz.f69.body.map (strip (tab.ann 69)) = some c69 := by kernel_rfl
def c70 : XC :=
 .seq (.region [xo 2 (.assign (.const (.slice none 0 0))) []])
 (.seq (.region [oM 3 0 [], oM 4 0 [], xo 5 (xb .len [4] [26]) [4], oM 6 0 [0], xo 7 (xb .len [6] [26]) [6], xo 8 (.slice 26 (xt 3) none (some (xt 5)) (some (xt 7))) [3,5,7], oA 2 8 []])
 (.ret))
theorem abZ : Tryz.f70.body.map (strip (tab.ann 70)) = some c70 := by kernel_rfl
def c71 : XC :=
 .seq (.region [xo 4 (.assign (xi .i64 0)) []])
 (.seq (.seq (.region [oM 6 0 [], xo 7 (xb .len [6] [56]) [6], xo 8 (.move (xi .i64 0)) []])
 (.block 0 (.loop (.seq (.region [xo 9 (.binOp .lss 3 (xt 8) (xt 7) 3) []])
 (.seq (.cond 9 (.skip) (.exit 0))
 (.seq (.block 1 (.seq (.region [oM 10 8 [], oA 5 10 []])
 (.seq (.region [oM 11 1 [], oM 12 0 [], oM 13 5 [], oI 14 56 12 13 [12,13], oL 15 37 14 [14], xo 16 (.binOp .eql 37 (xt 11) (xt 15) 37) []])
 (.cond 16 (.seq (.region [oM 17 5 [], oA 4 17 []])
 (.ret)) (.skip)))))
 (.region [xo 18 (.binOp .add 3 (xt 8) (xi .i64 1) 3) [], oM 8 18 []])))))))
 (.seq (.region [xo 4 (.assign (.const (.int .i64 (-1)))) []])
 (.ret)))
theorem ab0 : Tryz.f71.body.map (strip (tab.ann 71)) = some c71 := by kernel_rfl
def c72 : XC :=
 .seq (.region [xo 6 (.assign xF) []])
 (.seq (.seq (.region [oM 10 0 [], xo 11 (xb .len [10] [26]) [10], oM 12 1 [], xo 13 (xb .len [12] [26]) [12], xo 14 (.binOp .neq 3 (xt 11) (xt 13) 3) []])
 (.cond 14 (.seq (.region [xo 6 (.assign xF) []])
 (.ret)) (.skip)))
 (.seq (.seq (.region [oM 15 0 [0], xo 16 (xb .len [15] [26]) [], xo 17 (.move (xi .i64 0)) []])
 (.block 0 (.loop (.seq (.region [xo 18 (.binOp .lss 3 (xt 17) (xt 16) 3) []])
 (.seq (.cond 18 (.skip) (.exit 0))
 (.seq (.block 1 (.seq (.region [oM 19 17 [], oI 20 26 15 17 [], oL 21 67 20 [20], xo 8 (.alloc 67) [], oA 7 19 [19], xn (.store 67 (xt 8) (xt 21))])
 (.seq (.region [oM 22 1 [], oM 23 7 [], oI 24 26 22 23 [22,23], oL 25 67 24 [24], xo 9 (.alloc 67) [], xn (.store 67 (xt 9) (xt 25))])
 (.seq (.region [oM 26 2 [], oL 27 67 8 [], oL 28 67 9 [], xo 29 (.call { callee := (.value (xt 26)), args := #[(xt 27), (xt 28)], argTypes := #[67, 67] }) [26,27,28], xo 30 (.unOp .not 4 (xt 29)) []])
 (.cond 30 (.seq (.region [xo 6 (.assign xF) []])
 (.ret)) (.skip))))))
 (.region [xo 31 (.binOp .add 3 (xt 17) (xi .i64 1) 3) [], oM 17 31 []])))))))
 (.seq (.region [xo 6 (.assign xT) []])
 (.ret))))
theorem ab1 : Tryz.f72.body.map (strip (tab.ann 72)) = some c72 := by kernel_rfl
def c73 : XC :=
 .seq (.region [oB 2 67 0 [0], oB 3 67 1 [1], xo 4 (.assign xF) []])
 (.seq (.bV [oF 5 67 2 0 [], oL 6 9 5 [5], oF 7 67 3 0 [], oL 8 9 7 [7], xo 9 (.binOp .eql 9 (xt 6) (xt 8) 9) [6,8], oM 10 9 [9], gF 11 67 2 1 10 true [], gL 12 29 11 10 true [11], gF 13 67 3 1 10 true [], gL 14 29 13 10 true [13], xg 15 (xc 24 [12,14] [29,29]) 10 true [12,14], xo 16 (.pick (xt 10) (xt 15) xF) [10,15], oA 4 16 []])
 (.ret))
theorem ab2 : Tryz.f73.body.map (strip (tab.ann 73)) = some c73 := by kernel_rfl
def c74 : XC :=
 .seq (.region [xo 4 (.assign (xi .i64 0)) []])
 (.seq (.seq (.region [oM 6 0 [], xo 7 (xb .len [6] [25]) [6], xo 8 (.move (xi .i64 0)) []])
 (.block 0 (.loop (.seq (.region [xo 9 (.binOp .lss 3 (xt 8) (xt 7) 3) []])
 (.seq (.cond 9 (.skip) (.exit 0))
 (.seq (.block 1 (.seq (.region [oM 10 8 [], oA 5 10 []])
 (.seq (.region [oM 11 1 [], oM 12 0 [], oM 13 5 [], oI 14 25 12 13 [12,13], oL 15 29 14 [14], xo 16 (.call { callee := (.value (xt 11)), args := #[(xt 15)], argTypes := #[29] }) []])
 (.cond 16 (.seq (.region [oM 17 5 [], oA 4 17 []])
 (.ret)) (.skip)))))
 (.region [xo 18 (.binOp .add 3 (xt 8) (xi .i64 1) 3) [], oM 8 18 []])))))))
 (.seq (.region [xo 4 (.assign (.const (.int .i64 (-1)))) []])
 (.ret)))
theorem ab3 : Tryz.f74.body.map (strip (tab.ann 74)) = some c74 := by kernel_rfl
def c75 : XC :=
 .seq (.region [oB 2 29 0 [0], oB 3 83 1 []])
 (.seq (.region [xo 4 (.alloc 83) []])
 (.seq (.region [xo 5 (.makeFunc (.func 87) #[] #[(xt 3), (xt 4)]) [], xn (.store 83 (xt 4) (xt 5))])
 (.region [oL 6 83 4 [], oL 7 29 2 [], xo 8 (.call { callee := (.value (xt 6)), args := #[(xt 7), (xi .i64 1)], argTypes := #[29, 3] }) []])))
theorem ab4 : Tryz.f75.body.map (strip (tab.ann 75)) = some c75 := by kernel_rfl
def c76 : XC :=
 .seq (.region [oB 4 29 0 [0], xo 6 (.assign xF) []])
 (.seq (.region [oL 7 3 2 [], xo 8 (.binOp .add 3 (xt 7) (xi .i64 1) 3) [7], xn (.store 3 (xt 2) (xt 8))])
 (.seq (.bV [oL 9 29 4 [], xo 10 (xc 77 [9] [29]) [9], oM 11 10 [10], gL 12 3 2 11 true [], xg 13 (.binOp .leq 3 (xt 12) (xi .i64 4096) 3) 11 true [12], xo 14 (.pick (xt 11) (xt 13) xF) [11,13], oM 15 14 [14], gM 16 1 15 true [1], xg 17 (.binOp .leq 3 (xt 16) (xi .i64 64) 3) 15 true [16], xo 18 (.pick (xt 15) (xt 17) xF) [15,17], xn (.store 4 (xt 3) (xt 18))])
 (.seq (.region [oL 19 4 3 [], oA 6 19 []])
 (.ret))))
theorem ab5 : Tryz.f76.body.map (strip (tab.ann 76)) = some c76 := by kernel_rfl
def c77 : XC :=
 .seq (.region [oB 1 29 0 [0], xo 2 (.assign xF) []])
 (.seq (.seq (.region [oF 6 29 1 4 [], oL 7 26 6 [6], xo 8 (xb .len [7] [26]) [], xo 9 (.move (xi .i64 0)) []])
 (.block 0 (.loop (.seq (.region [xo 10 (.binOp .lss 3 (xt 9) (xt 8) 3) []])
 (.seq (.cond 10 (.skip) (.exit 0))
 (.seq (.block 1 (.seq (.region [oM 11 9 [], oI 12 26 7 9 [], oL 13 67 12 [12], xo 4 (.alloc 67) [], oA 3 11 [11], xn (.store 67 (xt 4) (xt 13))])
 (.seq (.eZ [[oF 14 67 4 0 [], oL 15 9 14 [], xo 16 (xc 88 [15] [9]) [], xo 17 (.unOp .not 4 (xt 16)) [], oM 18 17 [], gM 19 3 18 false [], xg 20 (.binOp .gtr 3 (xt 19) (xi .i64 0) 3) 18 false [], gM 21 20 18 false [], gF 22 29 1 4 21 true [], gL 23 26 22 21 true [], gM 24 3 21 true [], xg 25 (.binOp .sub 3 (xt 24) (xi .i64 1) 3) 21 true [], xg 26 (.indexAddr 26 (xt 23) (xt 25)) 21 true [], gF 27 67 26 0 21 true [], gL 28 9 27 21 true [], gF 29 67 4 0 21 true [], gL 30 9 29 21 true [], xg 31 (.binOp .geq 9 (xt 28) (xt 30) 9) 21 true [], xg 32 (.pick (xt 21) (xt 31) xF) 18 false [], xo 33 (.pick (xt 18) xT (xt 32)) []]])
 (.cond 33 (.seq (.region [xo 2 (.assign xF) []])
 (.ret)) (.skip)))))
 (.region [xo 34 (.binOp .add 3 (xt 9) (xi .i64 1) 3) [], oM 9 34 []])))))))
 (.seq (.seq (.region [oF 35 29 1 0 [], oL 36 24 35 [35], xo 37 (.binOp .eql 24 (xt 36) (xi .u8 6) 24) []])
 (.cond 37 (.seq (.region [oL 38 29 1 [], xo 39 (xc 89 [38] [29]) [38], oA 2 39 []])
 (.ret)) (.skip)))
 (.seq (.region [xo 40 (.makeFunc (.func 90) #[] #[(xt 1)]) [], oA 5 40 []])
 (.seq (.eZ [[oF 41 29 1 0 [], oL 42 24 41 [41], xo 43 (.binOp .leq 24 (xt 42) (xi .u8 7) 24) [42], oM 44 43 [43], gF 45 29 1 5 44 true [], gL 46 27 45 44 true [45], xg 47 (.binOp .eql 27 (xt 46) (xi .u8 0) 27) 44 true [46], xo 48 (.pick (xt 44) (xt 47) xF) [44,47]], [oM 49 48 [48], gF 50 29 1 6 49 true [], gL 51 9 50 49 true [50], xg 52 (.binOp .eql 9 (xt 51) (.const (.string { data := #[] })) 9) 49 true [51], xo 53 (.pick (xt 49) (xt 52) xF) [49,52]], [oM 54 53 [53], gF 55 29 1 7 54 true [], gL 56 4 55 54 true [55], xg 57 (.unOp .not 4 (xt 56)) 54 true [56], xo 58 (.pick (xt 54) (xt 57) xF) [54,57]], [oM 59 58 [58], gF 60 29 1 2 59 true [], gL 61 9 60 59 true [60], xg 62 (xb .len [61] [9]) 59 true [61], xg 63 (.binOp .leq 3 (xt 62) (xi .i64 4096) 3) 59 true [62], xo 64 (.pick (xt 59) (xt 63) xF) [59,63]], [oM 65 64 [64], gF 66 29 1 1 65 true [], gL 67 2 66 65 true [66], xg 68 (.binOp .eql 2 (xt 67) (xi .i64 0) 2) 65 true [67], gM 69 68 65 true [68], gM 70 5 69 false [], xg 71 (.buildSlice 87 2 #[(0, (xi .u8 1)), (1, (xi .u8 7))]) 69 false [], xg 72 (.call { callee := (.value (xt 70)), args := #[(xt 71)], argTypes := #[87] }) 69 false [70,71], xg 73 (.pick (xt 69) xT (xt 72)) 65 true [69,72], gM 74 73 65 true [73], gM 75 5 74 false [], xg 76 (.buildSlice 87 1 #[(0, (xi .u8 2))]) 74 false [], xg 77 (.call { callee := (.value (xt 75)), args := #[(xt 76)], argTypes := #[87] }) 74 false [75,76], gM 78 77 74 false [77], gF 79 29 1 1 78 true [], gL 80 2 79 78 true [79], xg 81 (.binOp .eql 2 (xt 80) (xi .i64 1) 2) 78 true [80], xg 82 (.pick (xt 78) (xt 81) xF) 74 false [78,81], xg 83 (.pick (xt 74) xT (xt 82)) 65 true [74,82], xo 84 (.pick (xt 65) (xt 83) xF) [65,83]], [oM 85 84 [84], gF 86 29 1 2 85 true [], gL 87 9 86 85 true [86], xg 88 (.binOp .eql 9 (xt 87) (.const (.string { data := #[] })) 9) 85 true [87], gM 89 88 85 true [88], gM 90 5 89 false [], xg 91 (.buildSlice 87 2 #[(0, (xi .u8 3)), (1, (xi .u8 7))]) 89 false [], xg 92 (.call { callee := (.value (xt 90)), args := #[(xt 91)], argTypes := #[87] }) 89 false [90,91], xg 93 (.pick (xt 89) xT (xt 92)) 85 true [89,92], xo 94 (.pick (xt 85) (xt 93) xF) [85,93]], [oM 95 94 [94], gF 96 29 1 3 95 true [], gL 97 25 96 95 true [96], xg 98 (xb .len [97] [25]) 95 true [97], xg 99 (.binOp .eql 3 (xt 98) (xi .i64 0) 3) 95 true [98], gM 100 99 95 true [99], gM 101 5 100 false [], xg 102 (.buildSlice 87 1 #[(0, (xi .u8 4))]) 100 false [], xg 103 (.call { callee := (.value (xt 101)), args := #[(xt 102)], argTypes := #[87] }) 100 false [101,102], xg 104 (.pick (xt 100) xT (xt 103)) 95 true [100,103], xo 105 (.pick (xt 95) (xt 104) xF) [95,104]], [oM 106 105 [105], gF 107 29 1 4 106 true [], gL 108 26 107 106 true [107], xg 109 (xb .len [108] [26]) 106 true [108], xg 110 (.binOp .eql 3 (xt 109) (xi .i64 0) 3) 106 true [109], gM 111 110 106 true [110], gM 112 5 111 false [], xg 113 (.buildSlice 87 2 #[(0, (xi .u8 5)), (1, (xi .u8 7))]) 111 false [], xg 114 (.call { callee := (.value (xt 112)), args := #[(xt 113)], argTypes := #[87] }) 111 false [112,113], xg 115 (.pick (xt 111) xT (xt 114)) 106 true [111,114], xo 116 (.pick (xt 106) (xt 115) xF) [106,115]], [oA 2 116 []]])
 (.ret)))))
theorem ab6 : Tryz.f77.body.map (strip (tab.ann 77)) = some c77 := by kernel_rfl
def c78 : XC :=
 .seq (.region [oB 1 29 0 [0], xo 2 (.assign xF) []])
 (.seq (.seq (.region [oF 3 29 1 0 [], oL 4 24 3 []])
 (.block 0 (.seq (.region [xo 6 (.binOp .eql 24 (xt 4) (xi .u8 0) 24) [], oA 5 6 []])
 (.cond 5 (.seq (.region [oL 7 29 1 [], xo 8 (.call { callee := (.value (.func 92)), args := #[(xt 7), xF, xF, xF, xF], argTypes := #[29, 4, 4, 4, 4] }) [7], oA 2 8 []])
 (.ret)) (.seq (.region [xo 10 (.binOp .eql 24 (xt 4) (xi .u8 1) 24) [], oA 9 10 []])
 (.cond 9 (.seq (.region [oL 11 29 1 [], xo 12 (.call { callee := (.value (.func 92)), args := #[(xt 11), xT, xF, xF, xF], argTypes := #[29, 4, 4, 4, 4] }) [11], oA 2 12 []])
 (.ret)) (.seq (.region [xo 14 (.binOp .eql 24 (xt 4) (xi .u8 2) 24) [], oA 13 14 []])
 (.cond 13 (.seq (.eZ [[oL 15 29 1 [], xo 16 (.call { callee := (.value (.func 92)), args := #[(xt 15), xT, xF, xF, xF], argTypes := #[29, 4, 4, 4, 4] }) [15], oM 17 16 [16], gF 18 29 1 1 17 true [], gL 19 2 18 17 true [18], xg 20 (.binOp .eql 2 (xt 19) (xi .i64 0) 2) 17 true [19], gM 21 20 17 true [20], gF 22 29 1 1 21 false [], gL 23 2 22 21 false [22], xg 24 (.binOp .eql 2 (xt 23) (xi .i64 1) 2) 21 false [23], xg 25 (.pick (xt 21) xT (xt 24)) 17 true [21,24], xo 26 (.pick (xt 17) (xt 25) xF) [17,25]], [oA 2 26 []]])
 (.ret)) (.seq (.region [xo 28 (.binOp .eql 24 (xt 4) (xi .u8 3) 24) [], oA 27 28 []])
 (.cond 27 (.seq (.eZ [[oL 29 29 1 [], xo 30 (.call { callee := (.value (.func 92)), args := #[(xt 29), xF, xT, xF, xF], argTypes := #[29, 4, 4, 4, 4] }) [29], oM 31 30 [30], gF 32 29 1 2 31 true [], gL 33 9 32 31 true [32], xg 34 (xb .len [33] [9]) 31 true [33], xg 35 (.binOp .leq 3 (xt 34) (xi .i64 4096) 3) 31 true [34], xo 36 (.pick (xt 31) (xt 35) xF) [31,35]], [oA 2 36 []]])
 (.ret)) (.seq (.region [xo 38 (.binOp .eql 24 (xt 4) (xi .u8 4) 24) [], oA 37 38 []])
 (.cond 37 (.seq (.eZ [[oL 39 29 1 [], xo 40 (.call { callee := (.value (.func 92)), args := #[(xt 39), xF, xF, xT, xF], argTypes := #[29, 4, 4, 4, 4] }) [39], oM 41 40 [40], gF 42 29 1 3 41 true [], gL 43 25 42 41 true [42], xg 44 (xc 93 [43] [25]) 41 true [43], xo 45 (.pick (xt 41) (xt 44) xF) [41,44]], [oA 2 45 []]])
 (.ret)) (.seq (.region [xo 47 (.binOp .eql 24 (xt 4) (xi .u8 5) 24) [], oA 46 47 []])
 (.cond 46 (.seq (.eZ [[oL 48 29 1 [], xo 49 (.call { callee := (.value (.func 92)), args := #[(xt 48), xF, xF, xF, xT], argTypes := #[29, 4, 4, 4, 4] }) [48], oM 50 49 [49], gF 51 29 1 4 50 true [], gL 52 26 51 50 true [51], xg 53 (xc 94 [52] [26]) 50 true [52], xo 54 (.pick (xt 50) (xt 53) xF) [50,53]], [oA 2 54 []]])
 (.ret)) (.seq (.region [xo 56 (.binOp .eql 24 (xt 4) (xi .u8 7) 24) [], oA 55 56 []])
 (.cond 55 (.seq (.eZ [[oL 57 29 1 [], xo 58 (.call { callee := (.value (.func 92)), args := #[(xt 57), xT, xT, xF, xT], argTypes := #[29, 4, 4, 4, 4] }) [57], oM 59 58 [58], gF 60 29 1 2 59 true [], gL 61 9 60 59 true [60], xg 62 (xb .len [61] [9]) 59 true [61], xg 63 (.binOp .leq 3 (xt 62) (xi .i64 4096) 3) 59 true [62], xo 64 (.pick (xt 59) (xt 63) xF) [59,63]], [oM 65 64 [64], gF 66 29 1 4 65 true [], gL 67 26 66 65 true [66], xg 68 (xc 94 [67] [26]) 65 true [67], xo 69 (.pick (xt 65) (xt 68) xF) [65,68]], [oA 2 69 []]])
 (.ret)) (.seq (.region [xo 71 (.binOp .eql 24 (xt 4) (xi .u8 6) 24) [], oA 70 71 []])
 (.cond 70 (.seq (.region [oL 72 29 1 [], xo 73 (xc 95 [72] [29]) [72], oA 2 73 []])
 (.ret)) (.skip)))))))))))))))))))
 (.seq (.region [xo 2 (.assign xF) []])
 (.ret)))
theorem ak0 : Tryz.f78.body.map (strip (tab.ann 78)) = some c78 := by kernel_rfl
def c79 : XC :=
 .seq (.region [oB 1 29 0 [0], xo 2 (.assign (xi .i64 0)) []])
 (.seq (.region [xo 3 (.assign (xi .i64 1)) []])
 (.seq (.seq (.region [xo 4 (.assign (xi .i64 0)) []])
 (.block 0 (.loop (.seq (.seq (.region [oM 6 4 [], oF 7 29 1 3 [], oL 8 25 7 [7], xo 9 (xb .len [8] [25]) [8], xo 10 (.binOp .lss 3 (xt 6) (xt 9) 3) []])
 (.cond 10 (.skip) (.exit 0)))
 (.seq (.block 1 (.region [oM 13 3 [], oF 14 29 1 3 [], oL 15 25 14 [14], oM 16 4 [], oI 17 25 15 16 [15,16], oL 18 29 17 [17], xo 19 (xc 79 [18] [29]) [18], xo 20 (.binOp .add 3 (xt 13) (xt 19) 3) [13,19], oA 3 20 []]))
 (.region [oM 11 4 [], xo 12 (.binOp .add 3 (xt 11) (xi .i64 1) 3) [11], oA 4 12 []]))))))
 (.seq (.seq (.region [xo 5 (.assign (xi .i64 0)) []])
 (.block 2 (.loop (.seq (.seq (.region [oM 21 5 [], oF 22 29 1 4 [], oL 23 26 22 [22], xo 24 (xb .len [23] [26]) [23], xo 25 (.binOp .lss 3 (xt 21) (xt 24) 3) []])
 (.cond 25 (.skip) (.exit 2)))
 (.seq (.block 3 (.region [oM 28 3 [], oF 29 29 1 4 [], oL 30 26 29 [29], oM 31 5 [], oI 32 26 30 31 [30,31], oF 33 67 32 1 [32], oL 34 29 33 [33], xo 35 (xc 79 [34] [29]) [34], xo 36 (.binOp .add 3 (xt 28) (xt 35) 3) [28,35], oA 3 36 []]))
 (.region [oM 26 5 [], xo 27 (.binOp .add 3 (xt 26) (xi .i64 1) 3) [26], oA 5 27 []]))))))
 (.seq (.region [oM 37 3 [], oA 2 37 []])
 (.ret)))))
theorem ak1 : Tryz.f79.body.map (strip (tab.ann 79)) = some c79 := by kernel_rfl
def c80 : XC :=
 .seq (.region [oB 1 29 0 [0], xo 2 (.assign (xi .i64 0)) []])
 (.seq (.region [xo 3 (.assign (xi .i64 0)) []])
 (.seq (.seq (.region [xo 4 (.assign (xi .i64 0)) []])
 (.block 0 (.loop (.seq (.seq (.region [oM 6 4 [], oF 7 29 1 3 [], oL 8 25 7 [7], xo 9 (xb .len [8] [25]) [8], xo 10 (.binOp .lss 3 (xt 6) (xt 9) 3) []])
 (.cond 10 (.skip) (.exit 0)))
 (.seq (.block 1 (.bV [oM 13 3 [], oF 14 29 1 3 [], oL 15 25 14 [14], oM 16 4 [], oI 17 25 15 16 [15,16], oL 18 29 17 [17], xo 19 (xc 80 [18] [29]) [18], xo 20 (xb .max [13,19] [3,3]) [13,19], oA 3 20 []]))
 (.region [oM 11 4 [], xo 12 (.binOp .add 3 (xt 11) (xi .i64 1) 3) [11], oA 4 12 []]))))))
 (.seq (.seq (.region [xo 5 (.assign (xi .i64 0)) []])
 (.block 2 (.loop (.seq (.seq (.region [oM 21 5 [], oF 22 29 1 4 [], oL 23 26 22 [22], xo 24 (xb .len [23] [26]) [23], xo 25 (.binOp .lss 3 (xt 21) (xt 24) 3) []])
 (.cond 25 (.skip) (.exit 2)))
 (.seq (.block 3 (.bV [oM 28 3 [], oF 29 29 1 4 [], oL 30 26 29 [29], oM 31 5 [], oI 32 26 30 31 [30,31], oF 33 67 32 1 [32], oL 34 29 33 [33], xo 35 (xc 80 [34] [29]) [34], xo 36 (xb .max [28,35] [3,3]) [28,35], oA 3 36 []]))
 (.region [oM 26 5 [], xo 27 (.binOp .add 3 (xt 26) (xi .i64 1) 3) [26], oA 5 27 []]))))))
 (.seq (.region [oM 37 3 [], xo 38 (.binOp .add 3 (xt 37) (xi .i64 1) 3) [37], oA 2 38 []])
 (.ret)))))
theorem ak2 : Tryz.f80.body.map (strip (tab.ann 80)) = some c80 := by kernel_rfl
def c81 : XC :=
 .seq (.region [oB 2 76 0 [0], oB 3 76 1 [1], xo 4 (.assign xF) []])
 (.seq (.bV [oF 5 76 2 0 [], oL 6 69 5 [5], oF 7 76 3 0 [], oL 8 69 7 [7], xo 9 (.binOp .eql 69 (xt 6) (xt 8) 69) [6,8], oM 10 9 [9], gF 11 76 2 1 10 true [], gL 12 9 11 10 true [11], gF 13 76 3 1 10 true [], gL 14 9 13 10 true [13], xg 15 (.binOp .eql 9 (xt 12) (xt 14) 9) 10 true [12,14], xo 16 (.pick (xt 10) (xt 15) xF) [10,15], oM 17 16 [16], gF 18 76 2 2 17 true [], gL 19 74 18 17 true [18], gF 20 76 3 2 17 true [], gL 21 74 20 17 true [20], xg 22 (xc 96 [19,21] [74,74]) 17 true [19,21], xo 23 (.pick (xt 17) (xt 22) xF) [17,22], oA 4 23 []])
 (.ret))
theorem ak3 : Tryz.f81.body.map (strip (tab.ann 81)) = some c81 := by kernel_rfl
def c82 : XC :=
 .seq (.region [oB 2 67 0 [0], oB 3 67 1 [1], xo 4 (.assign xF) []])
 (.seq (.bV [oF 5 67 2 0 [], oL 6 9 5 [5], oF 7 67 3 0 [], oL 8 9 7 [7], xo 9 (.binOp .eql 9 (xt 6) (xt 8) 9) [6,8], oM 10 9 [9], gF 11 67 2 1 10 true [], gL 12 29 11 10 true [11], gF 13 67 3 1 10 true [], gL 14 29 13 10 true [13], xg 15 (xc 60 [12,14] [29,29]) 10 true [12,14], xo 16 (.pick (xt 10) (xt 15) xF) [10,15], oA 4 16 []])
 (.ret))
theorem ak4 : Tryz.f82.body.map (strip (tab.ann 82)) = some c82 := by kernel_rfl
def c86 : XC :=
 .seq (.region [oB 1 74 0 [0], xo 2 (.alloc 74) []])
 (.seq (.region [oF 3 74 1 0 [], oL 4 70 3 [], oF 5 74 1 1 [], oL 6 2 5 [], oF 7 74 1 2 [], oL 8 9 7 [], oF 9 74 1 3 [], oL 10 71 9 [], xk 11 (xc 98 [10] [71]) [], oF 12 74 1 4 [], oL 13 72 12 [], xk 14 (xc 99 [13] [72]) [], oF 15 74 1 5 [], oL 16 71 15 [], xk 17 (xc 98 [16] [71]) [], oF 18 74 1 6 [], oL 19 27 18 [], oF 20 74 1 7 [], oL 21 71 20 [], xk 22 (xc 98 [21] [71]) [], oF 23 74 1 8 [], oL 24 38 23 [], xk 25 (xc 36 [24] [38]) [], oF 26 74 1 9 [], oL 27 9 26 [], xo 28 (.build 74 #[(0, (xt 4)), (1, (xt 6)), (2, (xt 8)), (3, (xt 11)), (4, (xt 14)), (5, (xt 17)), (6, (xt 19)), (7, (xt 22)), (8, (xt 25)), (9, (xt 27))]) [], xn (.store 74 (xt 2) (xt 28))])
 (.ret))
theorem ak5 : Tryz.f86.body.map (strip (tab.ann 86)) = some c86 := by kernel_rfl
def c87 : XC :=
 .seq (.region [oB 4 29 0 [0], xo 6 (.assign xF) []])
 (.seq (.seq (.region [oL 11 83 2 [], oL 12 29 4 [], oM 13 1 [], xo 14 (.call { callee := (.value (xt 11)), args := #[(xt 12), (xt 13)], argTypes := #[29, 3] }) [11,12,13], xo 15 (.unOp .not 4 (xt 14)) []])
 (.cond 15 (.seq (.region [xo 6 (.assign xF) []])
 (.ret)) (.skip)))
 (.seq (.seq (.region [oF 16 29 4 3 [], oL 17 25 16 [16], xo 18 (xb .len [17] [25]) [], xo 19 (.move (xi .i64 0)) []])
 (.block 0 (.loop (.seq (.region [xo 20 (.binOp .lss 3 (xt 19) (xt 18) 3) []])
 (.seq (.cond 20 (.skip) (.exit 0))
 (.seq (.block 1 (.seq (.region [oI 21 25 17 19 [], oL 22 29 21 [21], xo 8 (.alloc 29) [], xn (.store 29 (xt 8) (xt 22))])
 (.seq (.region [oL 23 83 3 [], oL 24 29 8 [], oM 25 1 [], xo 26 (.binOp .add 3 (xt 25) (xi .i64 1) 3) [25], xo 27 (.call { callee := (.value (xt 23)), args := #[(xt 24), (xt 26)], argTypes := #[29, 3] }) [23,24,26], xo 28 (.unOp .not 4 (xt 27)) []])
 (.cond 28 (.seq (.region [xo 6 (.assign xF) []])
 (.ret)) (.skip)))))
 (.region [xo 29 (.binOp .add 3 (xt 19) (xi .i64 1) 3) [], oM 19 29 []])))))))
 (.seq (.seq (.region [oF 30 29 4 4 [], oL 31 26 30 [30], xo 32 (xb .len [31] [26]) [], xo 33 (.move (xi .i64 0)) []])
 (.block 2 (.loop (.seq (.region [xo 34 (.binOp .lss 3 (xt 33) (xt 32) 3) []])
 (.seq (.cond 34 (.skip) (.exit 2))
 (.seq (.block 3 (.seq (.region [oI 35 26 31 33 [], oL 36 67 35 [35], xo 10 (.alloc 67) [], xn (.store 67 (xt 10) (xt 36))])
 (.seq (.region [oL 37 83 3 [], oF 38 67 10 1 [], oL 39 29 38 [38], oM 40 1 [], xo 41 (.binOp .add 3 (xt 40) (xi .i64 1) 3) [40], xo 42 (.call { callee := (.value (xt 37)), args := #[(xt 39), (xt 41)], argTypes := #[29, 3] }) [37,39,41], xo 43 (.unOp .not 4 (xt 42)) []])
 (.cond 43 (.seq (.region [xo 6 (.assign xF) []])
 (.ret)) (.skip)))))
 (.region [xo 44 (.binOp .add 3 (xt 33) (xi .i64 1) 3) [], oM 33 44 []])))))))
 (.seq (.region [xo 6 (.assign xT) []])
 (.ret)))))
theorem ab7 : Tryz.f87.body.map (strip (tab.ann 87)) = some c87 := by kernel_rfl
def c88 : XC :=
 .seq (.region [xo 2 (.assign xF) []])
 (.seq (.bV [oM 3 0 [], xo 4 (.binOp .neq 9 (xt 3) (.const (.string { data := #[] })) 9) [3], oM 5 4 [4], gM 6 0 5 true [0], xg 7 (xb .len [6] [9]) 5 true [6], xg 8 (.binOp .leq 3 (xt 7) (xi .i64 4096) 3) 5 true [7], xo 9 (.pick (xt 5) (xt 8) xF) [5,8], oA 2 9 []])
 (.ret))
theorem ab8 : Tryz.f88.body.map (strip (tab.ann 88)) = some c88 := by kernel_rfl
def c89 : XC :=
 .seq (.region [oB 1 29 0 [0], xo 2 (.assign xF) []])
 (.seq (.seq (.eZ [[oF 5 29 1 1 [], oL 6 2 5 [5], xo 7 (.binOp .neq 2 (xt 6) (xi .i64 0) 2) [6], oM 8 7 [7], gF 9 29 1 5 8 false [], gL 10 27 9 8 false [9], xg 11 (.binOp .leq 27 (xt 10) (xi .u8 0) 27) 8 false [10], xo 12 (.pick (xt 8) xT (xt 11)) [8,11]], [oM 13 12 [12], gF 14 29 1 5 13 false [], gL 15 27 14 13 false [14], xg 16 (.binOp .geq 27 (xt 15) (xi .u8 9) 27) 13 false [15], xo 17 (.pick (xt 13) xT (xt 16)) [13,16]], [oM 18 17 [17], gF 19 29 1 6 18 false [], gL 20 9 19 18 false [19], xg 21 (xb .len [20] [9]) 18 false [20], xg 22 (.binOp .gtr 3 (xt 21) (xi .i64 4096) 3) 18 false [21], xo 23 (.pick (xt 18) xT (xt 22)) [18,22]], [oM 24 23 [23], gF 25 29 1 7 24 false [], gL 26 4 25 24 false [25], xg 27 (.unOp .not 4 (xt 26)) 24 false [26], gM 28 27 24 false [27], gF 29 29 1 6 28 true [], gL 30 9 29 28 true [29], xg 31 (.binOp .neq 9 (xt 30) (.const (.string { data := #[] })) 9) 28 true [30], xg 32 (.pick (xt 28) (xt 31) xF) 24 false [28,31], xo 33 (.pick (xt 24) xT (xt 32)) []]])
 (.cond 33 (.seq (.region [xo 2 (.assign xF) []])
 (.ret)) (.skip)))
 (.seq (.seq (.region [oF 35 29 1 5 [], oL 36 27 35 [35], xo 37 (xc 100 [36] [27]) [36], oM 34 37 [37], xo 38 (.extract (xt 34) 0) [], xo 39 (.extract (xt 34) 1) [34], oA 3 38 [38], oA 4 39 []])
 (.seq (.eZ [[oM 40 4 [], oM 41 40 [40], gF 42 29 1 4 41 true [], gL 43 26 42 41 true [42], gM 44 3 41 true [], xg 45 (.call { callee := (.value (.func 101)), args := #[(xt 43), (xt 44), (.func 102)], argTypes := #[26, 72, 97] }) 41 true [43,44], xg 46 (.unOp .not 4 (xt 45)) 41 true [45], xo 47 (.pick (xt 41) (xt 46) xF) []]])
 (.cond 47 (.seq (.region [xo 2 (.assign xF) []])
 (.ret)) (.skip))))
 (.seq (.seq (.region [oF 48 29 1 5 [], oL 49 27 48 []])
 (.block 0 (.seq (.seq (.region [xo 51 (.binOp .eql 27 (xt 49) (xi .u8 4) 27) [], oA 50 51 []])
 (.cond 50 (.skip) (.seq (.region [xo 52 (.binOp .eql 27 (xt 49) (xi .u8 7) 27) [], oA 50 52 []])
 (.cond 50 (.skip) (.region [xo 53 (.binOp .eql 27 (xt 49) (xi .u8 8) 27) [], oA 50 53 []])))))
 (.cond 50 (.seq (.region [oF 54 29 1 2 [], oL 55 9 54 [54], xo 56 (.binOp .eql 9 (xt 55) (.const (.string { data := #[] })) 9) [55], oA 2 56 []])
 (.ret)) (.skip)))))
 (.seq (.region [oF 57 29 1 2 [], oL 58 9 57 [57], xo 59 (xc 88 [58] [9]) [58], oA 2 59 []])
 (.ret)))))
theorem ab9 : Tryz.f89.body.map (strip (tab.ann 89)) = some c89 := by kernel_rfl
def c90 : XC :=
 .seq (.region [xo 3 (.assign xF) []])
 (.seq (.region [oM 4 0 [0], oF 5 29 1 0 [], oL 6 24 5 [5], xo 7 (xc 91 [4,6] [87,24]) [4,6], oA 3 7 []])
 (.ret))
theorem acd : Tryz.f90.body.map (strip (tab.ann 90)) = some c90 := by kernel_rfl
def c91 : XC :=
 .seq (.region [xo 4 (.assign xF) []])
 (.seq (.region [oM 5 0 [0], oM 6 1 [1], xo 7 (xc 103 [5,6] [87,24]) [5,6], xo 8 (.binOp .geq 3 (xt 7) (xi .i64 0) 3) [7], oA 4 8 []])
 (.ret))
theorem ace : Tryz.f91.body.map (strip (tab.ann 91)) = some c91 := by kernel_rfl
def c92 : XC :=
 .seq (.region [oB 5 29 0 [0], xo 10 (.assign xF) []])
 (.seq (.eZ [[oM 11 1 [1], oM 12 11 [11], gF 13 29 5 1 12 false [], gL 14 2 13 12 false [13], xg 15 (.binOp .eql 2 (xt 14) (xi .i64 0) 2) 12 false [14], xo 16 (.pick (xt 12) xT (xt 15)) [12,15]], [oM 17 16 [16], gM 18 2 17 true [2], gM 19 18 17 true [18], gF 20 29 5 2 19 false [], gL 21 9 20 19 false [20], xg 22 (.binOp .eql 9 (xt 21) (.const (.string { data := #[] })) 9) 19 false [21], xg 23 (.pick (xt 19) xT (xt 22)) 17 true [19,22], xo 24 (.pick (xt 17) (xt 23) xF) [17,23]], [oM 25 24 [24], gM 26 3 25 true [3], gM 27 26 25 true [26], gF 28 29 5 3 27 false [], gL 29 25 28 27 false [28], xg 30 (xb .len [29] [25]) 27 false [29], xg 31 (.binOp .eql 3 (xt 30) (xi .i64 0) 3) 27 false [30], xg 32 (.pick (xt 27) xT (xt 31)) 25 true [27,31], xo 33 (.pick (xt 25) (xt 32) xF) [25,32]], [oM 34 33 [33], gM 35 4 34 true [4], gM 36 35 34 true [35], gF 37 29 5 4 36 false [], gL 38 26 37 36 false [37], xg 39 (xb .len [38] [26]) 36 false [38], xg 40 (.binOp .eql 3 (xt 39) (xi .i64 0) 3) 36 false [39], xg 41 (.pick (xt 36) xT (xt 40)) 34 true [36,40], xo 42 (.pick (xt 34) (xt 41) xF) [34,41]], [oM 43 42 [42], gF 44 29 5 5 43 true [], gL 45 27 44 43 true [44], xg 46 (.binOp .eql 27 (xt 45) (xi .u8 0) 27) 43 true [45], xo 47 (.pick (xt 43) (xt 46) xF) [43,46]], [oM 48 47 [47], gF 49 29 5 6 48 true [], gL 50 9 49 48 true [49], xg 51 (.binOp .eql 9 (xt 50) (.const (.string { data := #[] })) 9) 48 true [50], xo 52 (.pick (xt 48) (xt 51) xF) [48,51]], [oM 53 52 [52], gF 54 29 5 7 53 true [], gL 55 4 54 53 true [54], xg 56 (.unOp .not 4 (xt 55)) 53 true [55], xo 57 (.pick (xt 53) (xt 56) xF) [53,56]], [oA 10 57 []]])
 (.ret))
theorem ak6 : Tryz.f92.body.map (strip (tab.ann 92)) = some c92 := by kernel_rfl
def c93 : XC :=
 .seq (.region [xo 2 (.assign xF) []])
 (.seq (.seq (.region [xo 3 (.assign (xi .i64 0)) []])
 (.block 0 (.loop (.seq (.seq (.region [oM 4 3 [], oM 5 0 [], xo 6 (xb .len [5] [25]) [5], xo 7 (.binOp .lss 3 (xt 4) (xt 6) 3) []])
 (.cond 7 (.skip) (.exit 0)))
 (.seq (.block 1 (.seq (.region [oM 10 0 [], oM 11 3 [], oI 12 25 10 11 [10,11], oL 13 29 12 [12], xo 14 (xc 78 [13] [29]) [13], xo 15 (.unOp .not 4 (xt 14)) []])
 (.cond 15 (.seq (.region [xo 2 (.assign xF) []])
 (.ret)) (.skip))))
 (.region [oM 8 3 [], xo 9 (.binOp .add 3 (xt 8) (xi .i64 1) 3) [8], oA 3 9 []]))))))
 (.seq (.region [xo 2 (.assign xT) []])
 (.ret)))
theorem ak7 : Tryz.f93.body.map (strip (tab.ann 93)) = some c93 := by kernel_rfl
def c94 : XC :=
 .seq (.region [xo 2 (.assign xF) []])
 (.seq (.seq (.region [xo 3 (.assign (xi .i64 0)) []])
 (.block 0 (.loop (.seq (.seq (.region [oM 4 3 [], oM 5 0 [], xo 6 (xb .len [5] [26]) [5], xo 7 (.binOp .lss 3 (xt 4) (xt 6) 3) []])
 (.cond 7 (.skip) (.exit 0)))
 (.seq (.block 1 (.seq (.eZ [[oM 10 0 [], oM 11 3 [], oI 12 26 10 11 [], oF 13 67 12 0 [], oL 14 9 13 [], xo 15 (xc 104 [14] [9]) [], xo 16 (.unOp .not 4 (xt 15)) [], oM 17 16 [], gM 18 3 17 false [], xg 19 (.binOp .gtr 3 (xt 18) (xi .i64 0) 3) 17 false [], gM 20 19 17 false [], gM 21 0 20 true [], gM 22 3 20 true [], xg 23 (.binOp .sub 3 (xt 22) (xi .i64 1) 3) 20 true [], xg 24 (.indexAddr 26 (xt 21) (xt 23)) 20 true [], gF 25 67 24 0 20 true [], gL 26 9 25 20 true [], gM 27 0 20 true [], gM 28 3 20 true [], xg 29 (.indexAddr 26 (xt 27) (xt 28)) 20 true [], gF 30 67 29 0 20 true [], gL 31 9 30 20 true [], xg 32 (.binOp .geq 9 (xt 26) (xt 31) 9) 20 true [], xg 33 (.pick (xt 20) (xt 32) xF) 17 false [], xo 34 (.pick (xt 17) xT (xt 33)) []], [oM 35 34 [], gM 36 0 35 false [], gM 37 3 35 false [], xg 38 (.indexAddr 26 (xt 36) (xt 37)) 35 false [], gF 39 67 38 1 35 false [], gL 40 29 39 35 false [], xg 41 (xc 78 [40] [29]) 35 false [], xg 42 (.unOp .not 4 (xt 41)) 35 false [], xo 43 (.pick (xt 35) xT (xt 42)) []]])
 (.cond 43 (.seq (.region [xo 2 (.assign xF) []])
 (.ret)) (.skip))))
 (.region [oM 8 3 [], xo 9 (.binOp .add 3 (xt 8) (xi .i64 1) 3) [8], oA 3 9 []]))))))
 (.seq (.region [xo 2 (.assign xT) []])
 (.ret)))
theorem ak8 : Tryz.f94.body.map (strip (tab.ann 94)) = some c94 := by kernel_rfl
def c95 : XC :=
 .seq (.region [oB 1 29 0 [0], xo 2 (.assign xF) []])
 (.seq (.seq (.eZ [[oF 3 29 1 1 [], oL 4 2 3 [3], xo 5 (.binOp .neq 2 (xt 4) (xi .i64 0) 2) [4], oM 6 5 [5], gF 7 29 1 7 6 false [], gL 8 4 7 6 false [7], xg 9 (.unOp .not 4 (xt 8)) 6 false [8], gM 10 9 6 false [9], gF 11 29 1 6 10 true [], gL 12 9 11 10 true [11], xg 13 (.binOp .neq 9 (xt 12) (.const (.string { data := #[] })) 9) 10 true [12], xg 14 (.pick (xt 10) (xt 13) xF) 6 false [10,13], xo 15 (.pick (xt 6) xT (xt 14)) [6,14]], [oM 16 15 [15], gF 17 29 1 6 16 false [], gL 18 9 17 16 false [17], xg 19 (xb .len [18] [9]) 16 false [18], xg 20 (.binOp .gtr 3 (xt 19) (xi .i64 4096) 3) 16 false [19], xo 21 (.pick (xt 16) xT (xt 20)) [16,20]], [oM 22 21 [21], gF 23 29 1 4 22 false [], gL 24 26 23 22 false [23], xg 25 (xc 94 [24] [26]) 22 false [24], xg 26 (.unOp .not 4 (xt 25)) 22 false [25], xo 27 (.pick (xt 22) xT (xt 26)) [22,26]], [oM 28 27 [27], gF 29 29 1 3 28 false [], gL 30 25 29 28 false [29], xg 31 (xc 93 [30] [25]) 28 false [30], xg 32 (.unOp .not 4 (xt 31)) 28 false [31], xo 33 (.pick (xt 28) xT (xt 32)) []]])
 (.cond 33 (.seq (.region [xo 2 (.assign xF) []])
 (.ret)) (.skip)))
 (.seq (.seq (.region [oF 34 29 1 5 [], oL 35 27 34 []])
 (.block 0 (.seq (.seq (.region [xo 37 (.binOp .eql 27 (xt 35) (xi .u8 1) 27) [], oA 36 37 []])
 (.cond 36 (.skip) (.seq (.region [xo 38 (.binOp .eql 27 (xt 35) (xi .u8 2) 27) [], oA 36 38 []])
 (.cond 36 (.skip) (.region [xo 39 (.binOp .eql 27 (xt 35) (xi .u8 3) 27) [], oA 36 39 []])))))
 (.cond 36 (.seq (.region [oF 40 29 1 2 [], oL 41 9 40 [40], xo 42 (xc 104 [41] [9]) [41], oA 2 42 []])
 (.ret)) (.seq (.region [xo 44 (.binOp .eql 27 (xt 35) (xi .u8 4) 27) [], oA 43 44 []])
 (.cond 43 (.seq (.eZ [[oF 45 29 1 2 [], oL 46 9 45 [45], xo 47 (.binOp .eql 9 (xt 46) (.const (.string { data := #[] })) 9) [46], oM 48 47 [47], gF 49 29 1 4 48 true [], gL 50 26 49 48 true [49], xg 51 (xb .len [50] [26]) 48 true [50], xg 52 (.binOp .eql 3 (xt 51) (xi .i64 0) 3) 48 true [51], xo 53 (.pick (xt 48) (xt 52) xF) [48,52]], [oA 2 53 []]])
 (.ret)) (.seq (.region [xo 55 (.binOp .eql 27 (xt 35) (xi .u8 5) 27) [], oA 54 55 []])
 (.cond 54 (.seq (.eZ [[oF 56 29 1 2 [], oL 57 9 56 [56], xo 58 (xc 104 [57] [9]) [57], oM 59 58 [58], gF 60 29 1 4 59 true [], gL 61 26 60 59 true [60], xg 62 (xb .len [61] [26]) 59 true [61], xg 63 (.binOp .eql 3 (xt 62) (xi .i64 0) 3) 59 true [62], xo 64 (.pick (xt 59) (xt 63) xF) [59,63]], [oA 2 64 []]])
 (.ret)) (.seq (.region [xo 66 (.binOp .eql 27 (xt 35) (xi .u8 6) 27) [], oA 65 66 []])
 (.cond 65 (.seq (.eZ [[oF 67 29 1 2 [], oL 68 9 67 [67], xo 69 (xc 104 [68] [9]) [68], oM 70 69 [69], gF 71 29 1 4 70 true [], gL 72 26 71 70 true [71], xg 73 (.buildSlice 72 1 #[(0, (.const (.string { data := #[118, 97, 108, 117, 101] })))]) 70 true [], xg 74 (xc 105 [72,73] [26,72]) 70 true [72,73], xo 75 (.pick (xt 70) (xt 74) xF) [70,74]], [oA 2 75 []]])
 (.ret)) (.seq (.region [xo 77 (.binOp .eql 27 (xt 35) (xi .u8 7) 27) [], oA 76 77 []])
 (.cond 76 (.seq (.eZ [[oF 78 29 1 2 [], oL 79 9 78 [78], xo 80 (.binOp .eql 9 (xt 79) (.const (.string { data := #[] })) 9) [79], oM 81 80 [80], gF 82 29 1 4 81 true [], gL 83 26 82 81 true [82], xg 84 (.buildSlice 72 2 #[(0, (.const (.string { data := #[97, 103, 97, 105, 110] }))), (1, (.const (.string { data := #[101, 108, 115, 101] })))]) 81 true [], xg 85 (xc 105 [83,84] [26,72]) 81 true [83,84], xo 86 (.pick (xt 81) (xt 85) xF) [81,85]], [oA 2 86 []]])
 (.ret)) (.seq (.region [xo 88 (.binOp .eql 27 (xt 35) (xi .u8 8) 27) [], oA 87 88 []])
 (.cond 87 (.seq (.eZ [[oF 89 29 1 2 [], oL 90 9 89 [89], xo 91 (.binOp .eql 9 (xt 90) (.const (.string { data := #[] })) 9) [90], oM 92 91 [91], gF 93 29 1 4 92 true [], gL 94 26 93 92 true [93], xg 95 (.buildSlice 72 1 #[(0, (.const (.string { data := #[101, 108, 115, 101] })))]) 92 true [], xg 96 (xc 105 [94,95] [26,72]) 92 true [94,95], xo 97 (.pick (xt 92) (xt 96) xF) [92,96]], [oA 2 97 []]])
 (.ret)) (.skip)))))))))))))))
 (.seq (.region [xo 2 (.assign xF) []])
 (.ret))))
theorem ak9 : Tryz.f95.body.map (strip (tab.ann 95)) = some c95 := by kernel_rfl
def c96 : XC :=
 .seq (.region [oB 2 74 0 [0], oB 3 74 1 [1], xo 4 (.assign xF) []])
 (.seq (.bV [oF 5 74 2 0 [], oL 6 70 5 [5], oF 7 74 3 0 [], oL 8 70 7 [7], xo 9 (.binOp .eql 70 (xt 6) (xt 8) 70) [6,8], oM 10 9 [9], gF 11 74 2 1 10 true [], gL 12 2 11 10 true [11], gF 13 74 3 1 10 true [], gL 14 2 13 10 true [13], xg 15 (.binOp .eql 2 (xt 12) (xt 14) 2) 10 true [12,14], xo 16 (.pick (xt 10) (xt 15) xF) [10,15], oM 17 16 [16], gF 18 74 2 2 17 true [], gL 19 9 18 17 true [18], gF 20 74 3 2 17 true [], gL 21 9 20 17 true [20], xg 22 (.binOp .eql 9 (xt 19) (xt 21) 9) 17 true [19,21], xo 23 (.pick (xt 17) (xt 22) xF) [17,22], oM 24 23 [23], gF 25 74 2 3 24 true [], gL 26 71 25 24 true [25], gF 27 74 3 3 24 true [], gL 28 71 27 24 true [27], xg 29 (xc 106 [26,28] [71,71]) 24 true [26,28], xo 30 (.pick (xt 24) (xt 29) xF) [24,29], oM 31 30 [30], gF 32 74 2 4 31 true [], gL 33 72 32 31 true [32], gF 34 74 3 4 31 true [], gL 35 72 34 31 true [34], xg 36 (xc 107 [33,35] [72,72]) 31 true [33,35], xo 37 (.pick (xt 31) (xt 36) xF) [31,36], oM 38 37 [37], gF 39 74 2 5 38 true [], gL 40 71 39 38 true [39], gF 41 74 3 5 38 true [], gL 42 71 41 38 true [41], xg 43 (xc 106 [40,42] [71,71]) 38 true [40,42], xo 44 (.pick (xt 38) (xt 43) xF) [38,43], oM 45 44 [44], gF 46 74 2 6 45 true [], gL 47 27 46 45 true [46], gF 48 74 3 6 45 true [], gL 49 27 48 45 true [48], xg 50 (.binOp .eql 27 (xt 47) (xt 49) 27) 45 true [47,49], xo 51 (.pick (xt 45) (xt 50) xF) [45,50], oM 52 51 [51], gF 53 74 2 7 52 true [], gL 54 71 53 52 true [53], gF 55 74 3 7 52 true [], gL 56 71 55 52 true [55], xg 57 (xc 106 [54,56] [71,71]) 52 true [54,56], xo 58 (.pick (xt 52) (xt 57) xF) [52,57], oM 59 58 [58], gF 60 74 2 8 59 true [], gL 61 38 60 59 true [60], gF 62 74 3 8 59 true [], gL 63 38 62 59 true [62], xg 64 (xc 62 [61,63] [38,38]) 59 true [61,63], xo 65 (.pick (xt 59) (xt 64) xF) [59,64], oM 66 65 [65], gF 67 74 2 9 66 true [], gL 68 9 67 66 true [67], gF 69 74 3 9 66 true [], gL 70 9 69 66 true [69], xg 71 (.binOp .eql 9 (xt 68) (xt 70) 9) 66 true [68,70], xo 72 (.pick (xt 66) (xt 71) xF) [66,71], oA 4 72 []])
 (.ret))
theorem ala : Tryz.f96.body.map (strip (tab.ann 96)) = some c96 := by kernel_rfl
def c98 : XC :=
 .seq (.region [xo 2 (.assign (.const (.slice none 0 0))) []])
 (.seq (.region [oM 5 0 [], xo 6 (xb .len [5] [71]) [5], xo 7 (.binOp .add 3 (xt 6) (xi .i64 1) 3) [6], xo 8 (.makeSlice 71 (xi .i64 0) (xt 7)) [7], oA 3 8 []])
 (.seq (.seq (.region [xo 4 (.assign (xi .i64 0)) []])
 (.block 0 (.loop (.seq (.seq (.region [oM 9 4 [], oM 10 0 [], xo 11 (xb .len [10] [71]) [10], xo 12 (.binOp .lss 3 (xt 9) (xt 11) 3) []])
 (.cond 12 (.skip) (.exit 0)))
 (.seq (.block 1 (.bV [oM 15 3 [], oM 16 0 [], oM 17 4 [], oI 18 71 16 17 [16,17], oL 19 74 18 [18], xo 20 (xc 86 [19] [74]) [19], xo 21 (.buildSlice 71 1 #[(0, (xt 20))]) [20], xo 22 (xb .append [15,21] [71,71]) [15,21], oA 3 22 []]))
 (.region [oM 13 4 [], xo 14 (.binOp .add 3 (xt 13) (xi .i64 1) 3) [13], oA 4 14 []]))))))
 (.seq (.bV [oM 23 3 [], xo 24 (.build 74 #[(2, (.const (.string { data := #[115, 112, 97, 114, 101] })))]) [], xo 25 (.buildSlice 71 1 #[(0, (xt 24))]) [24], xo 26 (xb .append [23,25] [71,71]) [23,25], oM 27 0 [0], xo 28 (xb .len [27] [71]) [27], xo 29 (.slice 71 (xt 26) none (some (xt 28)) none) [26,28], oA 2 29 []])
 (.ret))))
theorem alb : Tryz.f98.body.map (strip (tab.ann 98)) = some c98 := by kernel_rfl
def c99 : XC :=
 .seq (.region [xo 2 (.assign (.const (.slice none 0 0))) []])
 (.seq (.region [oM 5 0 [], xo 6 (xb .len [5] [72]) [5], xo 7 (.binOp .add 3 (xt 6) (xi .i64 1) 3) [6], xo 8 (.makeSlice 72 (xi .i64 0) (xt 7)) [7], oA 3 8 []])
 (.seq (.seq (.region [xo 4 (.assign (xi .i64 0)) []])
 (.block 0 (.loop (.seq (.seq (.region [oM 9 4 [], oM 10 0 [], xo 11 (xb .len [10] [72]) [10], xo 12 (.binOp .lss 3 (xt 9) (xt 11) 3) []])
 (.cond 12 (.skip) (.exit 0)))
 (.seq (.block 1 (.bV [oM 15 3 [], oM 16 0 [], oM 17 4 [], oI 18 72 16 17 [16,17], oL 19 9 18 [18], xo 20 (.buildSlice 72 1 #[(0, (xt 19))]) [19], xo 21 (xb .append [15,20] [72,72]) [15,20], oA 3 21 []]))
 (.region [oM 13 4 [], xo 14 (.binOp .add 3 (xt 13) (xi .i64 1) 3) [13], oA 4 14 []]))))))
 (.seq (.bV [oM 22 3 [], xo 23 (.buildSlice 72 1 #[(0, (.const (.string { data := #[115, 112, 97, 114, 101] })))]) [], xo 24 (xb .append [22,23] [72,72]) [22,23], oM 25 0 [0], xo 26 (xb .len [25] [72]) [25], xo 27 (.slice 72 (xt 24) none (some (xt 26)) none) [24,26], oA 2 27 []])
 (.ret))))
theorem alc : Tryz.f99.body.map (strip (tab.ann 99)) = some c99 := by kernel_rfl
def ald : XC :=
 .seq (.region [xo 2 (.assign (.const (.slice none 0 0))) [13], xo 3 (.assign xF) []])
 (.seq (.seq (.region [oM 4 0 []])
 (.block 0 (.seq (.region [xo 6 (.binOp .eql 27 (xt 4) (xi .u8 6) 27) [], oA 5 6 []])
 (.cond 5 (.seq (.region [xo 7 (.buildSlice 72 1 #[(0, (.const (.string { data := #[118, 97, 108, 117, 101] })))]) [], oA 2 7 [13], xo 3 (.assign xT) []])
 (.ret)) (.seq (.region [xo 9 (.binOp .eql 27 (xt 4) (xi .u8 7) 27) [], oA 8 9 []])
 (.cond 8 (.seq (.region [xo 10 (.buildSlice 72 2 #[(0, (.const (.string { data := #[97, 103, 97, 105, 110] }))), (1, (.const (.string { data := #[101, 108, 115, 101] })))]) [], oA 2 10 [13], xo 3 (.assign xT) []])
 (.ret)) (.seq (.region [xo 12 (.binOp .eql 27 (xt 4) (xi .u8 8) 27) [], oA 11 12 []])
 (.cond 11 (.seq (.region [xo 13 (.buildSlice 72 1 #[(0, (.const (.string { data := #[101, 108, 115, 101] })))]) [], oA 2 13 [13], xo 3 (.assign xT) []])
 (.ret)) (.seq (.seq (.region [xo 15 (.binOp .eql 27 (xt 4) (xi .u8 4) 27) [], oA 14 15 []])
 (.cond 14 (.skip) (.region [xo 16 (.binOp .eql 27 (xt 4) (xi .u8 5) 27) [], oA 14 16 []])))
 (.cond 14 (.seq (.region [xo 2 (.assign (.const (.slice none 0 0))) [13], xo 3 (.assign xT) []])
 (.ret)) (.skip)))))))))))
 (.seq (.region [xo 2 (.assign (.const (.slice none 0 0))) [13], xo 3 (.assign xF) []])
 (.ret)))
theorem Xt : Tryz.f100.body.map (strip (tab.ann 100)) = some ald := by kernel_rfl
def ale : XC :=
 .seq (.region [xo 6 (.assign xF) []])
 (.seq (.seq (.region [oM 10 0 [], xo 11 (xb .len [10] [26]) [10], oM 12 1 [], xo 13 (xb .len [12] [72]) [12], xo 14 (.binOp .neq 3 (xt 11) (xt 13) 3) []])
 (.cond 14 (.seq (.region [xo 6 (.assign xF) []])
 (.ret)) (.skip)))
 (.seq (.seq (.region [oM 15 0 [0], xo 16 (xb .len [15] [26]) [], xo 17 (.move (xi .i64 0)) []])
 (.block 0 (.loop (.seq (.region [xo 18 (.binOp .lss 3 (xt 17) (xt 16) 3) []])
 (.seq (.cond 18 (.skip) (.exit 0))
 (.seq (.block 1 (.seq (.region [oM 19 17 [], oI 20 26 15 17 [], oL 21 67 20 [20], xo 8 (.alloc 67) [], oA 7 19 [19], xn (.store 67 (xt 8) (xt 21))])
 (.seq (.region [oM 22 1 [], oM 23 7 [], oI 24 72 22 23 [22,23], oL 25 9 24 [24], oA 9 25 []])
 (.seq (.region [oM 26 2 [], oL 27 67 8 [], oM 28 9 [], xo 29 (.call { callee := (.value (xt 26)), args := #[(xt 27), (xt 28)], argTypes := #[67, 9] }) [26,27,28], xo 30 (.unOp .not 4 (xt 29)) []])
 (.cond 30 (.seq (.region [xo 6 (.assign xF) []])
 (.ret)) (.skip))))))
 (.region [xo 31 (.binOp .add 3 (xt 17) (xi .i64 1) 3) [], oM 17 31 []])))))))
 (.seq (.region [xo 6 (.assign xT) []])
 (.ret))))
theorem Xu : Tryz.f101.body.map (strip (tab.ann 101)) = some ale := by kernel_rfl
def alf : XC :=
 .seq (.region [oB 2 67 0 [0], xo 4 (.assign xF) []])
 (.seq (.region [oF 5 67 2 0 [], oL 6 9 5 [5], oM 7 1 [1], xo 8 (.binOp .eql 9 (xt 6) (xt 7) 9) [6,7], oA 4 8 []])
 (.ret))
theorem Xv : Tryz.f102.body.map (strip (tab.ann 102)) = some alf := by kernel_rfl
def alg : XC :=
 .seq (.region [xo 4 (.assign (xi .i64 0)) []])
 (.seq (.seq (.region [oM 6 0 [], xo 7 (xb .len [6] [87]) [6], xo 8 (.move (xi .i64 0)) []])
 (.block 0 (.loop (.seq (.region [xo 9 (.binOp .lss 3 (xt 8) (xt 7) 3) []])
 (.seq (.cond 9 (.skip) (.exit 0))
 (.seq (.block 1 (.seq (.region [oM 10 8 [], oA 5 10 []])
 (.seq (.region [oM 11 1 [], oM 12 0 [], oM 13 5 [], oI 14 87 12 13 [12,13], oL 15 24 14 [14], xo 16 (.binOp .eql 24 (xt 11) (xt 15) 24) []])
 (.cond 16 (.seq (.region [oM 17 5 [], oA 4 17 []])
 (.ret)) (.skip)))))
 (.region [xo 18 (.binOp .add 3 (xt 8) (xi .i64 1) 3) [], oM 8 18 []])))))))
 (.seq (.region [xo 4 (.assign (.const (.int .i64 (-1)))) []])
 (.ret)))
theorem Xw : Tryz.f103.body.map (strip (tab.ann 103)) = some alg := by kernel_rfl
def apG : XC :=
 .seq (.region [xo 2 (.assign xF) []])
 (.seq (.bV [oM 3 0 [], xo 4 (xb .len [3] [9]) [3], xo 5 (.binOp .geq 3 (xt 4) (xi .i64 1) 3) [4], oM 6 5 [5], gM 7 0 6 true [0], xg 8 (xb .len [7] [9]) 6 true [7], xg 9 (.binOp .leq 3 (xt 8) (xi .i64 4096) 3) 6 true [8], xo 10 (.pick (xt 6) (xt 9) xF) [6,9], oA 2 10 []])
 (.ret))
theorem agF : Tryz.f104.body.map (strip (tab.ann 104)) = some apG := by kernel_rfl
def c105 : XC :=
 .seq (.region [xo 4 (.assign xF) []])
 (.seq (.seq (.region [oM 6 0 [], xo 7 (xb .len [6] [26]) [6], oM 8 1 [], xo 9 (xb .len [8] [72]) [8], xo 10 (.binOp .neq 3 (xt 7) (xt 9) 3) []])
 (.cond 10 (.seq (.region [xo 4 (.assign xF) []])
 (.ret)) (.skip)))
 (.seq (.seq (.region [xo 5 (.assign (xi .i64 0)) []])
 (.block 0 (.loop (.seq (.seq (.region [oM 11 5 [], oM 12 0 [], xo 13 (xb .len [12] [26]) [12], xo 14 (.binOp .lss 3 (xt 11) (xt 13) 3) []])
 (.cond 14 (.skip) (.exit 0)))
 (.seq (.block 1 (.seq (.region [oM 17 0 [], oM 18 5 [], oI 19 26 17 18 [], oF 20 67 19 0 [], oL 21 9 20 [], oM 22 1 [], oM 23 5 [], oI 24 72 22 23 [], oL 25 9 24 [], xo 26 (.binOp .neq 9 (xt 21) (xt 25) 9) []])
 (.cond 26 (.seq (.region [xo 4 (.assign xF) []])
 (.ret)) (.skip))))
 (.region [oM 15 5 [], xo 16 (.binOp .add 3 (xt 15) (xi .i64 1) 3) [15], oA 5 16 []]))))))
 (.seq (.region [xo 4 (.assign xT) []])
 (.ret))))
theorem agG : Tryz.f105.body.map (strip (tab.ann 105)) = some c105 := by kernel_rfl
def alh : XC :=
 .seq (.region [xo 4 (.assign xF) []])
 (.seq (.seq (.bV [oM 7 0 [], xo 8 (xb .len [7] [71]) [7], oM 9 1 [], xo 10 (xb .len [9] [71]) [9], xo 11 (.binOp .neq 3 (xt 8) (xt 10) 3) [8,10], oM 12 11 [11], gM 13 0 12 false [], xg 14 (xb .cap [13] [71]) 12 false [13], gM 15 1 12 false [], xg 16 (xb .len [15] [71]) 12 false [15], xg 17 (.binOp .leq 3 (xt 14) (xt 16) 3) 12 false [14,16], xo 18 (.pick (xt 12) xT (xt 17)) []])
 (.cond 18 (.seq (.region [xo 4 (.assign xF) []])
 (.ret)) (.skip)))
 (.seq (.seq (.region [xo 5 (.assign (xi .i64 0)) []])
 (.block 0 (.loop (.seq (.seq (.region [oM 19 5 [], oM 20 1 [], xo 21 (xb .len [20] [71]) [20], xo 22 (.binOp .lss 3 (xt 19) (xt 21) 3) []])
 (.cond 22 (.skip) (.exit 0)))
 (.seq (.block 1 (.seq (.region [oM 25 0 [], oM 26 5 [], oI 27 71 25 26 [], oL 28 74 27 [], oM 29 1 [], oM 30 5 [], oI 31 71 29 30 [], oL 32 74 31 [], xo 33 (xc 96 [28,32] [74,74]) [], xo 34 (.unOp .not 4 (xt 33)) []])
 (.cond 34 (.seq (.region [xo 4 (.assign xF) []])
 (.ret)) (.skip))))
 (.region [oM 23 5 [], xo 24 (.binOp .add 3 (xt 23) (xi .i64 1) 3) [23], oA 5 24 []]))))))
 (.seq (.region [oM 35 0 [0], oM 36 1 [], xo 37 (xb .len [36] [71]) [36], xo 38 (.binOp .add 3 (xt 37) (xi .i64 1) 3) [37], xo 39 (.slice 71 (xt 35) none (some (xt 38)) none) [35,38], oM 40 1 [1], xo 41 (xb .len [40] [71]) [40], oI 42 71 39 41 [39,41], oL 43 74 42 [42], xo 6 (.alloc 74) [], xn (.store 74 (xt 6) (xt 43))])
 (.seq (.region [oF 44 74 6 2 [], oL 45 9 44 [44], xo 46 (.binOp .eql 9 (xt 45) (.const (.string { data := #[115, 112, 97, 114, 101] })) 9) [45], oA 4 46 []])
 (.ret)))))
theorem Xx : Tryz.f106.body.map (strip (tab.ann 106)) = some alh := by kernel_rfl
def c107 : XC :=
 .seq (.region [xo 4 (.assign xF) []])
 (.seq (.seq (.bV [oM 7 0 [], xo 8 (xb .len [7] [72]) [7], oM 9 1 [], xo 10 (xb .len [9] [72]) [9], xo 11 (.binOp .neq 3 (xt 8) (xt 10) 3) [8,10], oM 12 11 [11], gM 13 0 12 false [], xg 14 (xb .cap [13] [72]) 12 false [13], gM 15 1 12 false [], xg 16 (xb .len [15] [72]) 12 false [15], xg 17 (.binOp .leq 3 (xt 14) (xt 16) 3) 12 false [14,16], xo 18 (.pick (xt 12) xT (xt 17)) []])
 (.cond 18 (.seq (.region [xo 4 (.assign xF) []])
 (.ret)) (.skip)))
 (.seq (.seq (.region [xo 5 (.assign (xi .i64 0)) []])
 (.block 0 (.loop (.seq (.seq (.region [oM 19 5 [], oM 20 1 [], xo 21 (xb .len [20] [72]) [20], xo 22 (.binOp .lss 3 (xt 19) (xt 21) 3) []])
 (.cond 22 (.skip) (.exit 0)))
 (.seq (.block 1 (.seq (.region [oM 25 0 [], oM 26 5 [], oI 27 72 25 26 [], oL 28 9 27 [], oM 29 1 [], oM 30 5 [], oI 31 72 29 30 [], oL 32 9 31 [], xo 33 (.binOp .neq 9 (xt 28) (xt 32) 9) []])
 (.cond 33 (.seq (.region [xo 4 (.assign xF) []])
 (.ret)) (.skip))))
 (.region [oM 23 5 [], xo 24 (.binOp .add 3 (xt 23) (xi .i64 1) 3) [23], oA 5 24 []]))))))
 (.seq (.region [oM 34 0 [0], oM 35 1 [], xo 36 (xb .len [35] [72]) [35], xo 37 (.binOp .add 3 (xt 36) (xi .i64 1) 3) [36], xo 38 (.slice 72 (xt 34) none (some (xt 37)) none) [34,37], oM 39 1 [1], xo 40 (xb .len [39] [72]) [39], oI 41 72 38 40 [38,40], oL 42 9 41 [41], oA 6 42 []])
 (.seq (.region [oM 43 6 [], xo 44 (.binOp .eql 9 (xt 43) (.const (.string { data := #[115, 112, 97, 114, 101] })) 9) [43], oA 4 44 []])
 (.ret)))))
theorem Xy : Tryz.f107.body.map (strip (tab.ann 107)) = some c107 := by kernel_rfl
end Go.Proofs.YtipkggkbldgmjaaGreat
