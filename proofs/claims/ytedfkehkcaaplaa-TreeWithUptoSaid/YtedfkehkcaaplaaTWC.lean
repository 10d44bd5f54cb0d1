/- The code of the functions, as little of it as is needed: printed by a small program, held against the loaded program by evaluation. -/
import Derived.Test.YtedfkehkcaaplaaXTabTW
namespace Go.Proofs.Ytedfkehkcaaplaa
open Go Go.X
set_option linter.unusedVariables false
set_option linter.unusedSimpArgs false
set_option maxRecDepth 100000
def c3 : XC :=
 .seq (.region [oB 2 34 0 [0], xo 4 (.assign xF) []])
 (.seq (.seq (.dF [xo 14 (xc 7 [] []) [], xo 15 (.unOp .not 4 (xt 14)) [14], oM 16 15 [15], gL 17 34 2 16 false [], xg 18 (xc 8 [17] [34]) 16 false [17], xo 19 (.pick (xt 16) xT (xt 18)) [16,18], oM 20 19 [19], gL 21 34 2 20 false [], xg 22 (xc 9 [21] [34]) 20 false [21], xg 23 (.unOp .not 4 (xt 22)) 20 false [22], xo 24 (.pick (xt 20) xT (xt 23)) []])
 (.cond 24 (.seq (.region [xo 25 (xc 7 [] []) [], oA 4 25 []])
 (.ret)) (.skip)))
 (.seq (.region [oL 26 34 2 [], xo 27 (xc 10 [26] [34]) [26], oA 5 27 []])
 (.seq (.region [oM 28 5 [], oM 29 1 [], xo 30 (.convert 5 3 (xt 29)) [29], oM 31 5 [], xo 32 (xb .len [31] [32]) [31], xo 33 (.binOp .rem 3 (xt 30) (xt 32) 3) [30,32], oI 34 32 28 33 [28,33], oL 35 34 34 [34], xo 6 (.alloc 34) [], xn (.store 34 (xt 6) (xt 35))])
 (.seq (.region [oF 36 34 6 0 [], oL 37 3 36 [36], oF 38 34 6 1 [], oF 39 29 38 0 [38], oL 40 9 39 [39], xo 41 (.build 29 #[(0, (xt 40)), (1, (xi .u8 4))]) [40], xo 42 (.build 34 #[(0, (xt 37)), (1, (xt 41))]) [37,41], xo 7 (.alloc 34) [], xn (.store 34 (xt 7) (xt 42))])
 (.seq (.region [oL 43 34 2 [], oL 44 34 7 [], xo 45 (xc 11 [43,44] [34,34]) [43,44], xo 8 (.alloc 34) [], xn (.store 34 (xt 8) (xt 45))])
 (.seq (.seq (.dF [oL 46 34 2 [], oL 47 34 6 [], xk 48 (xc 11 [46,47] [34,34]) [], oL 49 34 2 [], xo 50 (xc 12 [48,49] [34,34]) [], xo 51 (.unOp .not 4 (xt 50)) [], oM 52 51 [], gL 53 34 8 52 false [], gL 54 34 6 52 false [], xgk 55 (.call { callee := (.value (.func 11)), args := #[(xt 53), (xt 54)], argTypes := #[34, 34] }) 52 false, gL 56 34 2 52 false [], xg 57 (xc 12 [55,56] [34,34]) 52 false [], xg 58 (.unOp .not 4 (xt 57)) 52 false [], xo 59 (.pick (xt 52) xT (xt 58)) [], oM 60 59 [], gL 61 34 8 60 false [], xg 62 (xc 9 [61] [34]) 60 false [], xg 63 (.unOp .not 4 (xt 62)) 60 false [], xo 64 (.pick (xt 60) xT (xt 63)) []])
 (.cond 64 (.seq (.region [xo 4 (.assign xF) []])
 (.ret)) (.skip)))
 (.seq (.region [oL 65 34 6 [], xo 66 (xc 10 [65] [34]) [65], xo 67 (xb .len [66] [32]) [66], xo 68 (.binOp .sub 3 (xt 67) (xi .i64 1) 3) [67], oA 9 68 []])
 (.seq (.region [oL 69 34 8 [], xo 70 (xc 10 [69] [34]) [69], oA 10 70 []])
 (.seq (.seq (.region [oM 71 10 [], xo 72 (xb .len [71] [32]) [71], oM 73 5 [], xo 74 (xb .len [73] [32]) [73], oM 75 9 [], xo 76 (.binOp .sub 3 (xt 74) (xt 75) 3) [74,75], xo 77 (.binOp .neq 3 (xt 72) (xt 76) 3) []])
 (.cond 77 (.seq (.region [xo 4 (.assign xF) []])
 (.ret)) (.skip)))
 (.seq (.region [oM 78 1 [1], xo 79 (.convert 5 3 (xt 78)) [78], oM 80 5 [], xo 81 (xb .len [80] [32]) [80], xo 82 (.binOp .rem 3 (xt 79) (xt 81) 3) [79,81], oA 11 82 []])
 (.seq (.seq (.region [xo 12 (.assign (xi .i64 0)) []])
 (.block 0 (.loop (.seq (.seq (.region [oM 83 12 [], oM 84 10 [], xo 85 (xb .len [84] [32]) [84], xo 86 (.binOp .lss 3 (xt 83) (xt 85) 3) []])
 (.cond 86 (.skip) (.exit 0)))
 (.seq (.block 1 (.seq (.region [oM 89 12 [], oA 13 89 []])
 (.seq (.seq (.region [oM 90 12 [], oM 91 11 [], xo 92 (.binOp .gtr 3 (xt 90) (xt 91) 3) []])
 (.cond 92 (.region [oM 93 12 [], oM 94 9 [], xo 95 (.binOp .add 3 (xt 93) (xt 94) 3) [93,94], oA 13 95 []]) (.skip)))
 (.seq (.region [oM 96 10 [], oM 97 12 [], oI 98 32 96 97 [], oF 99 34 98 0 [], oL 100 3 99 [], oM 101 5 [], oM 102 13 [], oI 103 32 101 102 [], oF 104 34 103 0 [], oL 105 3 104 [], xo 106 (.binOp .neq 3 (xt 100) (xt 105) 3) []])
 (.cond 106 (.seq (.region [xo 4 (.assign xF) []])
 (.ret)) (.skip))))))
 (.region [oM 87 12 [], xo 88 (.binOp .add 3 (xt 87) (xi .i64 1) 3) [87], oA 12 88 []]))))))
 (.seq (.region [xo 4 (.assign xT) []])
 (.ret)))))))))))))
theorem av8 : Try.f3.body.map (strip (tab.ann 3)) = some c3 := by kernel_rfl
def c8 : XC :=
 .seq (.region [oB 1 34 0 [0], xo 2 (.assign xF) []])
 (.seq (.dF [oL 3 34 1 [], xo 4 (xc 16 [3] [34]) [3], xo 5 (.buildSlice 45 1 #[(0, (xt 4))]) [4], xo 6 (xc 23 [5] [45]) [5], oM 7 6 [6], gL 8 34 1 7 false [], xg 9 (.call { callee := (.value (.func 24)), args := #[(xt 8), (xi .i64 1)], argTypes := #[34, 3] }) 7 false [8], xg 10 (.binOp .gtr 3 (xt 9) (xi .i64 262144) 3) 7 false [9], xo 11 (.pick (xt 7) xT (xt 10)) [7,10], oA 2 11 []])
 (.ret))
theorem av9 : Try.f8.body.map (strip (tab.ann 8)) = some c8 := by kernel_rfl
def c9 : XC :=
 .seq (.region [oB 1 34 0 [0], xo 2 (.assign xF) []])
 (.seq (.region [xo 5 (.makeMap 49 none) [], xo 3 (.alloc 49) [], xn (.store 49 (xt 3) (xt 5))])
 (.seq (.region [xo 4 (.alloc 55) []])
 (.seq (.region [xo 6 (.makeFunc (.func 25) #[] #[(xt 3), (xt 4)]) [], xn (.store 55 (xt 4) (xt 6))])
 (.seq (.region [oL 7 55 4 [], oL 8 34 1 [], xo 9 (.call { callee := (.value (xt 7)), args := #[(xt 8), (xi .i64 1)], argTypes := #[34, 3] }) [7,8], oA 2 9 []])
 (.ret)))))
theorem aoY : Try.f9.body.map (strip (tab.ann 9)) = some c9 := by kernel_rfl
def c10 : XC :=
 .seq (.region [oB 1 34 0 [0], xo 2 (.alloc 32) []])
 (.seq (.region [oL 3 34 1 [], xo 4 (.makeFunc (.func 30) #[] #[(xt 2)]) [], xo 5 (.call { callee := (.value (.func 29)), args := #[(xt 3), (xt 4), (.func 32)], argTypes := #[34, 59, 59] }) []])
 (.seq (.region [oL 6 32 2 [], xn (.store 32 (xt 2) (xt 6))])
 (.ret)))
theorem ag8 : Try.f10.body.map (strip (tab.ann 10)) = some c10 := by kernel_rfl
def c11 : XC :=
 .seq (.region [oB 2 34 0 [0], oB 3 34 1 [1], xo 4 (.alloc 34) []])
 (.seq (.region [xo 5 (.alloc 4) [], xn (.store 4 (xt 5) xF)])
 (.seq (.region [xo 6 (.alloc 58) []])
 (.seq (.region [xo 8 (.makeFunc (.func 33) #[] #[(xt 5), (xt 6)]) [], xo 7 (.alloc 60) [], xn (.store 60 (xt 7) (xt 8))])
 (.seq (.region [xo 9 (.makeFunc (.func 35) #[] #[(xt 3), (xt 5), (xt 7)]) [], xn (.store 58 (xt 6) (xt 9))])
 (.seq (.seq (.dF [oF 10 34 2 0 [], oL 11 3 10 [10], xo 12 (.binOp .eql 3 (xt 11) (xi .i64 0) 3) [11], oM 13 12 [12], gF 14 34 3 0 13 false [], gL 15 3 14 13 false [14], xg 16 (.binOp .eql 3 (xt 15) (xi .i64 0) 3) 13 false [15], xo 17 (.pick (xt 13) xT (xt 16)) []])
 (.cond 17 (.seq (.region [oL 18 34 2 [], xo 19 (xc 31 [18] [34]) [18], xn (.store 34 (xt 4) (xt 19))])
 (.ret)) (.skip)))
 (.seq (.region [oL 20 58 6 [], oL 21 34 2 [], xo 22 (.call { callee := (.value (xt 20)), args := #[(xt 21)], argTypes := #[34] }) [20,21], xo 23 (xc 31 [22] [34]) [22], xn (.store 34 (xt 4) (xt 23))])
 (.ret)))))))
theorem ag9 : Try.f11.body.map (strip (tab.ann 11)) = some c11 := by kernel_rfl
def c12 : XC :=
 .seq (.region [oB 2 34 0 [0], oB 3 34 1 [1], xo 4 (.assign xF) []])
 (.seq (.dF [oF 5 34 2 0 [], oL 6 3 5 [5], oF 7 34 3 0 [], oL 8 3 7 [7], xo 9 (.binOp .eql 3 (xt 6) (xt 8) 3) [6,8], oM 10 9 [9], gF 11 34 2 1 10 true [], gL 12 29 11 10 true [11], gF 13 34 3 1 10 true [], gL 14 29 13 10 true [13], xg 15 (xc 37 [12,14] [29,29]) 10 true [12,14], xo 16 (.pick (xt 10) (xt 15) xF) [10,15], oM 17 16 [16], gF 18 34 2 2 17 true [], gL 19 30 18 17 true [18], gF 20 34 3 2 17 true [], gL 21 30 20 17 true [20], xg 22 (xc 38 [19,21] [30,30]) 17 true [19,21], xo 23 (.pick (xt 17) (xt 22) xF) [17,22], oM 24 23 [23], gF 25 34 2 3 24 true [], gL 26 31 25 24 true [25], gF 27 34 3 3 24 true [], gL 28 31 27 24 true [27], xg 29 (xc 39 [26,28] [31,31]) 24 true [26,28], xo 30 (.pick (xt 24) (xt 29) xF) [24,29], oM 31 30 [30], gF 32 34 2 4 31 true [], gL 33 32 32 31 true [32], gF 34 34 3 4 31 true [], gL 35 32 34 31 true [34], xg 36 (xc 40 [33,35] [32,32]) 31 true [33,35], xo 37 (.pick (xt 31) (xt 36) xF) [31,36], oM 38 37 [37], gF 39 34 2 5 38 true [], gL 40 3 39 38 true [39], gF 41 34 3 5 38 true [], gL 42 3 41 38 true [41], xg 43 (.binOp .eql 3 (xt 40) (xt 42) 3) 38 true [40,42], xo 44 (.pick (xt 38) (xt 43) xF) [38,43], oM 45 44 [44], gF 46 34 2 6 45 true [], gL 47 4 46 45 true [46], gF 48 34 3 6 45 true [], gL 49 4 48 45 true [48], xg 50 (.binOp .eql 4 (xt 47) (xt 49) 4) 45 true [47,49], xo 51 (.pick (xt 45) (xt 50) xF) [45,50], oM 52 51 [51], gF 53 34 2 7 52 true [], gL 54 4 53 52 true [53], gF 55 34 3 7 52 true [], gL 56 4 55 52 true [55], xg 57 (.binOp .eql 4 (xt 54) (xt 56) 4) 52 true [54,56], xo 58 (.pick (xt 52) (xt 57) xF) [52,57], oM 59 58 [58], gF 60 34 2 8 59 true [], gL 61 27 60 59 true [60], gF 62 34 3 8 59 true [], gL 63 27 62 59 true [62], xg 64 (xc 41 [61,63] [27,27]) 59 true [61,63], xo 65 (.pick (xt 59) (xt 64) xF) [59,64], oM 66 65 [65], gF 67 34 2 9 66 true [], gL 68 9 67 66 true [67], gF 69 34 3 9 66 true [], gL 70 9 69 66 true [69], xg 71 (.binOp .eql 9 (xt 68) (xt 70) 9) 66 true [68,70], xo 72 (.pick (xt 66) (xt 71) xF) [66,71], oM 73 72 [72], gF 74 34 2 10 73 true [], gL 75 4 74 73 true [74], gF 76 34 3 10 73 true [], gL 77 4 76 73 true [76], xg 78 (.binOp .eql 4 (xt 75) (xt 77) 4) 73 true [75,77], xo 79 (.pick (xt 73) (xt 78) xF) [73,78], oM 80 79 [79], gF 81 34 2 11 80 true [], gL 82 32 81 80 true [81], gF 83 34 3 11 80 true [], gL 84 32 83 80 true [83], xg 85 (xc 40 [82,84] [32,32]) 80 true [82,84], xo 86 (.pick (xt 80) (xt 85) xF) [80,85], oM 87 86 [86], gF 88 34 2 12 87 true [], gL 89 4 88 87 true [88], gF 90 34 3 12 87 true [], gL 91 4 90 87 true [90], xg 92 (.binOp .eql 4 (xt 89) (xt 91) 4) 87 true [89,91], xo 93 (.pick (xt 87) (xt 92) xF) [87,92], oM 94 93 [93], gF 95 34 2 13 94 true [], gL 96 4 95 94 true [95], gF 97 34 3 13 94 true [], gL 98 4 97 94 true [97], xg 99 (.binOp .eql 4 (xt 96) (xt 98) 4) 94 true [96,98], xo 100 (.pick (xt 94) (xt 99) xF) [94,99], oA 4 100 []])
 (.ret))
theorem arV : Try.f12.body.map (strip (tab.ann 12)) = some c12 := by kernel_rfl
def c16 : XC :=
 .seq (.region [oB 1 34 0 [0], xo 2 (.assign (xi .i64 0)) []])
 (.seq (.region [oF 4 34 1 9 [], oL 5 9 4 [4], xo 6 (xb .len [5] [9]) [5], xo 7 (.binOp .add 3 (xi .i64 1) (xt 6) 3) [6], oA 3 7 []])
 (.seq (.seq (.region [oM 8 3 [], xo 9 (.binOp .leq 3 (xt 8) (xi .i64 1048576) 3) []])
 (.cond 9 (.region [oM 10 3 [], oF 11 34 1 1 [], oL 12 29 11 [11], xo 13 (xc 45 [12] [29]) [12], xo 14 (.binOp .add 3 (xt 10) (xt 13) 3) [10,13], oA 3 14 []]) (.skip)))
 (.seq (.seq (.region [oM 15 3 [], xo 16 (.binOp .leq 3 (xt 15) (xi .i64 1048576) 3) []])
 (.cond 16 (.region [oM 17 3 [], oF 18 34 1 2 [], oL 19 30 18 [18], xo 20 (xc 46 [19] [30]) [19], xo 21 (.binOp .add 3 (xt 17) (xt 20) 3) [17,20], oA 3 21 []]) (.skip)))
 (.seq (.seq (.region [oM 22 3 [], xo 23 (.binOp .leq 3 (xt 22) (xi .i64 1048576) 3) []])
 (.cond 23 (.region [oM 24 3 [], oF 25 34 1 3 [], oL 26 31 25 [25], xo 27 (xc 47 [26] [31]) [26], xo 28 (.binOp .add 3 (xt 24) (xt 27) 3) [24,27], oA 3 28 []]) (.skip)))
 (.seq (.seq (.region [oM 29 3 [], xo 30 (.binOp .leq 3 (xt 29) (xi .i64 1048576) 3) []])
 (.cond 30 (.region [oM 31 3 [], oF 32 34 1 4 [], oL 33 32 32 [32], xo 34 (xc 48 [33] [32]) [33], xo 35 (.binOp .add 3 (xt 31) (xt 34) 3) [31,34], oA 3 35 []]) (.skip)))
 (.seq (.seq (.region [oM 36 3 [], xo 37 (.binOp .leq 3 (xt 36) (xi .i64 1048576) 3) []])
 (.cond 37 (.region [oM 38 3 [], oF 39 34 1 8 [], oL 40 27 39 [39], xo 41 (xc 49 [40] [27]) [40], xo 42 (.binOp .add 3 (xt 38) (xt 41) 3) [38,41], oA 3 42 []]) (.skip)))
 (.seq (.seq (.region [oM 43 3 [], xo 44 (.binOp .leq 3 (xt 43) (xi .i64 1048576) 3) []])
 (.cond 44 (.region [oM 45 3 [], oF 46 34 1 11 [], oL 47 32 46 [46], xo 48 (xc 48 [47] [32]) [47], xo 49 (.binOp .add 3 (xt 45) (xt 48) 3) [45,48], oA 3 49 []]) (.skip)))
 (.seq (.region [oM 50 3 [], oA 2 50 []])
 (.ret)))))))))
theorem arW : Try.f16.body.map (strip (tab.ann 16)) = some c16 := by kernel_rfl
def c23 : XC :=
 .seq (.region [xo 2 (.assign xF) []])
 (.seq (.region [xo 3 (.assign (xi .i64 0)) []])
 (.seq (.seq (.region [xo 4 (.assign (xi .i64 0)) []])
 (.block 0 (.loop (.seq (.seq (.region [oM 5 4 [], oM 6 0 [], xo 7 (xb .len [6] [45]) [6], xo 8 (.binOp .lss 3 (xt 5) (xt 7) 3) []])
 (.cond 8 (.skip) (.exit 0)))
 (.seq (.block 1 (.seq (.region [oM 11 3 [], oM 12 0 [], oM 13 4 [], oI 14 45 12 13 [12,13], oL 15 3 14 [14], xo 16 (.binOp .add 3 (xt 11) (xt 15) 3) [11,15], oA 3 16 []])
 (.seq (.region [oM 17 3 [], xo 18 (.binOp .gtr 3 (xt 17) (xi .i64 1048576) 3) []])
 (.cond 18 (.seq (.region [xo 2 (.assign xT) []])
 (.ret)) (.skip)))))
 (.region [oM 9 4 [], xo 10 (.binOp .add 3 (xt 9) (xi .i64 1) 3) [9], oA 4 10 []]))))))
 (.seq (.region [xo 2 (.assign xF) []])
 (.ret))))
theorem arX : Try.f23.body.map (strip (tab.ann 23)) = some c23 := by kernel_rfl
def c24 : XC :=
 .seq (.region [oB 2 34 0 [0], xo 4 (.assign (xi .i64 0)) []])
 (.seq (.region [oM 8 1 [], oF 9 34 2 1 [], oL 10 29 9 [], xk 11 (xc 45 [10] [29]) [], xo 12 (.binOp .add 3 (xi .i64 1) (xt 11) 3) [], oF 13 34 2 2 [], oL 14 30 13 [], xk 15 (xc 46 [14] [30]) [], xo 16 (.binOp .add 3 (xt 12) (xt 15) 3) [], oF 17 34 2 3 [], oL 18 31 17 [], xk 19 (xc 47 [18] [31]) [], xo 20 (.binOp .add 3 (xt 16) (xt 19) 3) [], oF 21 34 2 8 [], oL 22 27 21 [], xk 23 (xc 49 [22] [27]) [], xo 24 (.binOp .add 3 (xt 20) (xt 23) 3) [], xo 25 (.binOp .mul 3 (xt 8) (xt 24) 3) [], oA 5 25 []])
 (.seq (.seq (.region [xo 6 (.assign (xi .i64 0)) []])
 (.block 0 (.loop (.seq (.seq (.dF [oM 26 6 [], oF 27 34 2 4 [], oL 28 32 27 [27], xo 29 (xb .len [28] [32]) [28], xo 30 (.binOp .lss 3 (xt 26) (xt 29) 3) [26,29], oM 31 30 [30], gM 32 5 31 true [], xg 33 (.binOp .lss 3 (xt 32) (xi .i64 1048576) 3) 31 true [32], xo 34 (.pick (xt 31) (xt 33) xF) []])
 (.cond 34 (.skip) (.exit 0)))
 (.seq (.block 1 (.region [oM 37 5 [], oF 38 34 2 4 [], oL 39 32 38 [38], oM 40 6 [], oI 41 32 39 40 [39,40], oL 42 34 41 [41], oM 43 1 [], xo 44 (.binOp .add 3 (xt 43) (xi .i64 1) 3) [43], xo 45 (xc 24 [42,44] [34,3]) [42,44], xo 46 (.binOp .add 3 (xt 37) (xt 45) 3) [37,45], oA 5 46 []]))
 (.region [oM 35 6 [], xo 36 (.binOp .add 3 (xt 35) (xi .i64 1) 3) [35], oA 6 36 []]))))))
 (.seq (.seq (.region [xo 7 (.assign (xi .i64 0)) []])
 (.block 2 (.loop (.seq (.seq (.dF [oM 47 7 [], oF 48 34 2 11 [], oL 49 32 48 [48], xo 50 (xb .len [49] [32]) [49], xo 51 (.binOp .lss 3 (xt 47) (xt 50) 3) [47,50], oM 52 51 [51], gM 53 5 52 true [], xg 54 (.binOp .lss 3 (xt 53) (xi .i64 1048576) 3) 52 true [53], xo 55 (.pick (xt 52) (xt 54) xF) []])
 (.cond 55 (.skip) (.exit 2)))
 (.seq (.block 3 (.region [oM 58 5 [], oF 59 34 2 11 [], oL 60 32 59 [59], oM 61 7 [], oI 62 32 60 61 [60,61], oL 63 34 62 [62], oM 64 1 [], xo 65 (.binOp .add 3 (xt 64) (xi .i64 1) 3) [64], xo 66 (xc 24 [63,65] [34,3]) [63,65], xo 67 (.binOp .add 3 (xt 58) (xt 66) 3) [58,66], oA 5 67 []]))
 (.region [oM 56 7 [], xo 57 (.binOp .add 3 (xt 56) (xi .i64 1) 3) [56], oA 7 57 []]))))))
 (.seq (.region [oM 68 5 [], oA 4 68 []])
 (.ret)))))
theorem arY : Try.f24.body.map (strip (tab.ann 24)) = some c24 := by kernel_rfl
def U3 : XC :=
 .seq (.region [oB 4 34 0 [0], oB 5 3 1 [1], xo 6 (.assign xF) []])
 (.seq (.seq (.dF [oL 8 3 5 [], xo 9 (.binOp .gtr 3 (xt 8) (xi .i64 256) 3) [8], oM 10 9 [9], gL 11 49 2 10 false [], gF 12 34 4 0 10 false [], gL 13 3 12 10 false [12], xg 14 (.lookup 49 (xt 11) (xt 13) false) 10 false [11,13], xo 15 (.pick (xt 10) xT (xt 14)) [10,14], oM 16 15 [15], gL 17 34 4 16 false [], xg 18 (xc 26 [17] [34]) 16 false [17], xg 19 (.unOp .not 4 (xt 18)) 16 false [18], xo 20 (.pick (xt 16) xT (xt 19)) []])
 (.cond 20 (.seq (.region [xo 6 (.assign xF) []])
 (.ret)) (.skip)))
 (.seq (.region [oL 21 49 2 [], oF 22 34 4 0 [], oL 23 3 22 [22], xn (.mapUpdate 49 (xt 21) (xt 23) xT)])
 (.seq (.region [xo 24 (.makeFunc (.func 27) #[] #[(xt 3), (xt 5)]) [], oA 7 24 []])
 (.seq (.dF [oF 25 34 4 4 [], oL 26 32 25 [25], oM 27 7 [], xo 28 (xc 28 [26,27] [32,36]) [26,27], xo 29 (.unOp .not 4 (xt 28)) [28], oM 30 29 [29], gF 31 34 4 11 30 true [], gL 32 32 31 30 true [31], gM 33 7 30 true [], xg 34 (xc 28 [32,33] [32,36]) 30 true [32,33], xg 35 (.unOp .not 4 (xt 34)) 30 true [34], xo 36 (.pick (xt 30) (xt 35) xF) [30,35], oA 6 36 []])
 (.ret)))))
theorem aha : Try.f25.body.map (strip (tab.ann 25)) = some U3 := by kernel_rfl
def c26 : XC :=
 .seq (.region [oB 1 34 0 [0], xo 2 (.assign xF) []])
 (.seq (.region [oF 5 34 1 1 [], oF 6 29 5 1 [5], oL 7 22 6 [6], xo 3 (.alloc 22) [], xn (.store 22 (xt 3) (xt 7))])
 (.seq (.region [xo 8 (.makeFunc (.func 57) #[] #[(xt 3)]) [], oA 4 8 []])
 (.seq (.Io [[oF 9 34 1 0 [], oL 10 3 9 [9], xo 11 (.binOp .gtr 3 (xt 10) (xi .i64 0) 3) [10], oM 12 11 [11], gL 13 22 3 12 true [], xg 14 (.binOp .geq 22 (xt 13) (xi .u8 1) 22) 12 true [13], xo 15 (.pick (xt 12) (xt 14) xF) [12,14]], [oM 16 15 [15], gL 17 22 3 16 true [], xg 18 (.binOp .leq 22 (xt 17) (xi .u8 9) 22) 16 true [17], xo 19 (.pick (xt 16) (xt 18) xF) [16,18]], [oM 20 19 [19], gF 21 34 1 5 20 true [], gL 22 3 21 20 true [21], xg 23 (.binOp .geq 3 (xt 22) (xi .i64 0) 3) 20 true [22], xo 24 (.pick (xt 20) (xt 23) xF) [20,23]], [oM 25 24 [24], gF 26 34 1 4 25 true [], gL 27 32 26 25 true [26], xg 28 (xc 59 [27] [32]) 25 true [27], xo 29 (.pick (xt 25) (xt 28) xF) [25,28]], [oM 30 29 [29], gF 31 34 1 11 30 true [], gL 32 32 31 30 true [31], xg 33 (xc 59 [32] [32]) 30 true [32], xo 34 (.pick (xt 30) (xt 33) xF) [30,33]], [oM 35 34 [34], gF 36 34 1 2 35 true [], gL 37 30 36 35 true [36], xg 38 (xb .len [37] [30]) 35 true [37], xg 39 (.binOp .eql 3 (xt 38) (xi .i64 0) 3) 35 true [38], gM 40 39 35 true [39], gM 41 4 40 false [], xg 42 (.buildSlice 82 2 #[(0, (xi .u8 2)), (1, (xi .u8 3))]) 40 false [], xg 43 (.call { callee := (.value (xt 41)), args := #[(xt 42)], argTypes := #[82] }) 40 false [41,42], xg 44 (.pick (xt 40) xT (xt 43)) 35 true [40,43], xo 45 (.pick (xt 35) (xt 44) xF) [35,44]], [oM 46 45 [45], gF 47 34 1 5 46 true [], gL 48 3 47 46 true [47], xg 49 (.binOp .eql 3 (xt 48) (xi .i64 0) 3) 46 true [48], gM 50 49 46 true [49], gM 51 4 50 false [], xg 52 (.buildSlice 82 2 #[(0, (xi .u8 1)), (1, (xi .u8 9))]) 50 false [], xg 53 (.call { callee := (.value (xt 51)), args := #[(xt 52)], argTypes := #[82] }) 50 false [51,52], xg 54 (.pick (xt 50) xT (xt 53)) 46 true [50,53], xo 55 (.pick (xt 46) (xt 54) xF) [46,54]], [oM 56 55 [55], gF 57 34 1 6 56 true [], gL 58 4 57 56 true [57], xg 59 (.unOp .not 4 (xt 58)) 56 true [58], gM 60 59 56 true [59], gF 61 34 1 7 60 true [], gL 62 4 61 60 true [61], xg 63 (.unOp .not 4 (xt 62)) 60 true [62], xg 64 (.pick (xt 60) (xt 63) xF) 56 true [60,63], gM 65 64 56 true [64], gF 66 34 1 8 65 true [], gL 67 27 66 65 true [66], xg 68 (.build 27 #[]) 65 true [], xg 69 (xc 60 [67,68] [27,27]) 65 true [67,68], xg 70 (.pick (xt 65) (xt 69) xF) 56 true [65,69], gM 71 70 56 true [70], gM 72 4 71 false [], xg 73 (.buildSlice 82 1 #[(0, (xi .u8 7))]) 71 false [], xg 74 (.call { callee := (.value (xt 72)), args := #[(xt 73)], argTypes := #[82] }) 71 false [72,73], xg 75 (.pick (xt 71) xT (xt 74)) 56 true [71,74], xo 76 (.pick (xt 56) (xt 75) xF) [56,75]], [oM 77 76 [76], gF 78 34 1 9 77 true [], gL 79 9 78 77 true [78], xg 80 (.binOp .eql 9 (xt 79) (.const (.string { data := #[] })) 9) 77 true [79], gM 81 80 77 true [80], gF 82 34 1 10 81 true [], gL 83 4 82 81 true [82], xg 84 (.unOp .not 4 (xt 83)) 81 true [83], xg 85 (.pick (xt 81) (xt 84) xF) 77 true [81,84], gM 86 85 77 true [85], gM 87 4 86 false [], xg 88 (.buildSlice 82 1 #[(0, (xi .u8 8))]) 86 false [], xg 89 (.call { callee := (.value (xt 87)), args := #[(xt 88)], argTypes := #[82] }) 86 false [87,88], xg 90 (.pick (xt 86) xT (xt 89)) 77 true [86,89], xo 91 (.pick (xt 77) (xt 90) xF) [77,90]], [oM 92 91 [91], gF 93 34 1 11 92 true [], gL 94 32 93 92 true [93], xg 95 (xb .len [94] [32]) 92 true [94], xg 96 (.binOp .eql 3 (xt 95) (xi .i64 0) 3) 92 true [95], gM 97 96 92 true [96], gL 98 34 1 97 false [], xg 99 (xc 36 [98] [34]) 97 false [98], xg 100 (.pick (xt 97) xT (xt 99)) 92 true [97,99], xo 101 (.pick (xt 92) (xt 100) xF) [92,100]], [oM 102 101 [101], gF 103 34 1 4 102 true [], gL 104 32 103 102 true [103], xg 105 (xb .len [104] [32]) 102 true [104], xg 106 (.binOp .eql 3 (xt 105) (xi .i64 0) 3) 102 true [105], gM 107 106 102 true [106], gM 108 4 107 false [], xg 109 (.buildSlice 82 1 #[(0, (xi .u8 9))]) 107 false [], xg 110 (.call { callee := (.value (xt 108)), args := #[(xt 109)], argTypes := #[82] }) 107 false [108,109], xg 111 (.unOp .not 4 (xt 110)) 107 false [110], xg 112 (.pick (xt 107) xT (xt 111)) 102 true [107,111], xo 113 (.pick (xt 102) (xt 112) xF) [102,112]], [oA 2 113 []]])
 (.ret))))
theorem ahb : Try.f26.body.map (strip (tab.ann 26)) = some c26 := by kernel_rfl
def c27 : XC :=
 .seq (.region [oB 3 34 0 [0], xo 4 (.assign xF) []])
 (.seq (.region [oL 5 55 1 [], oL 6 34 3 [], oL 7 3 2 [], xo 8 (.binOp .add 3 (xt 7) (xi .i64 1) 3) [7], xo 9 (.call { callee := (.value (xt 5)), args := #[(xt 6), (xt 8)], argTypes := #[34, 3] }) [5,6,8], xo 10 (.unOp .not 4 (xt 9)) [9], oA 4 10 []])
 (.ret))
theorem ahc : Try.f27.body.map (strip (tab.ann 27)) = some c27 := by kernel_rfl
def c28 : XC :=
 .seq (.region [xo 4 (.assign xF) []])
 (.seq (.region [oM 5 0 [0], oM 6 1 [1], xo 7 (xc 61 [5,6] [32,36]) [5,6], xo 8 (.binOp .geq 3 (xt 7) (xi .i64 0) 3) [7], oA 4 8 []])
 (.ret))
theorem ahd : Try.f28.body.map (strip (tab.ann 28)) = some c28 := by kernel_rfl
def ahe : XC :=
 .region [xo 6 (.alloc 34) [], xn (.store 34 (xt 6) (xt 15))]
def ahf : XC :=
 .block 1 (.region [oL 16 34 6 [], oL 17 59 4 [], oL 18 59 5 [], xo 19 (xc 29 [16,17,18] [34,59,59]) []])
theorem Yi : (fq.site 155).map (fun q => (q.own, q.ps, strip (tab.ann q.own) q.RX, strip (tab.ann q.own) q.body)) = some (29, [15], ahe, ahf) := by kernel_rfl
def c29 : XC :=
 .seq (.region [oB 3 34 0 [], oB 4 59 1 [], oB 5 59 2 []])
 (.seq (.seq (.region [oF 7 34 3 0 [], oL 8 3 7 [7], xo 9 (.binOp .eql 3 (xt 8) (xi .i64 0) 3) []])
 (.cond 9 (.ret) (.skip)))
 (.seq (.region [oL 10 59 4 [], oL 11 34 3 [], xo 12 (.call { callee := (.value (xt 10)), args := #[(xt 11)], argTypes := #[34] }) []])
 (.seq (.seq (.region [oL 13 34 3 [], xo 14 (xc 44 [13] [34]) []])
 (.block 0 (.rng 14)))
 (.region [oL 20 59 5 [], oL 21 34 3 [], xo 22 (.call { callee := (.value (xt 20)), args := #[(xt 21)], argTypes := #[34] }) []]))))
theorem ahg : Try.f29.body.map (strip (tab.ann 29)) = some c29 := by kernel_rfl
def c30 : XC :=
 .seq (.region [oB 2 34 0 []])
 (.Ag [oL 3 32 1 [], oL 4 34 2 [], xk 5 (xc 31 [4] [34]) [], xo 6 (xb .len [3] [32]) [], xk 7 (.buildSlice 32 1 #[(0, (.const (.agg #[(.int .i64 0), (.string { data := #[] }), (.int .u8 0), (.string { data := #[] }), (.int .u8 0), (.int .i64 0), (.string { data := #[] }), (.slice none 0 0), (.slice none 0 0), (.int .u8 0), (.string { data := #[] }), (.bool false), (.slice none 0 0), (.slice none 0 0), (.slice none 0 0), (.int .i64 0), (.bool false), (.bool false), (.int .u8 0), (.int .i64 0), (.string { data := #[] }), (.slice none 0 0), (.slice none 0 0), (.int .u8 0), (.string { data := #[] }), (.bool false), (.string { data := #[] }), (.bool false), (.slice none 0 0), (.bool false), (.bool false)])))]) [], xo 8 (xb .append [3,7] [32,32]) []] (.both (.step (oI 9 32 8 6 []) (.both (.step (xn (.store 34 (xt 9) (xt 5))) (.step (xn (.store 32 (xt 1) (xt 8))) (.done))) (.step (xn (.store 32 (xt 1) (xt 8))) (.step (xn (.store 34 (xt 9) (xt 5))) (.done))))) (.step (xn (.store 32 (xt 1) (xt 8))) (.step (oI 9 32 8 6 []) (.step (xn (.store 34 (xt 9) (xt 5))) (.done))))))
theorem ahh : Try.f30.body.map (strip (tab.ann 30)) = some c30 := by kernel_rfl
def c31 : XC :=
 .seq (.region [oB 1 34 0 [0], xo 2 (.alloc 34) []])
 (.seq (.region [oF 3 34 1 1 [], oL 4 29 3 [], xk 5 (xc 62 [4] [29]) [], oF 6 34 1 2 [], oL 7 30 6 [], xk 8 (xc 63 [7] [30]) [], oF 9 34 1 3 [], oL 10 31 9 [], xk 11 (xc 64 [10] [31]) [], oF 12 34 1 8 [], oL 13 27 12 [], xk 14 (xc 65 [13] [27]) [], oF 15 34 1 1 [], xn (.store 29 (xt 15) (xt 5)), oF 16 34 1 2 [], xn (.store 30 (xt 16) (xt 8)), oF 17 34 1 3 [], xn (.store 31 (xt 17) (xt 11)), oF 18 34 1 8 [], xn (.store 27 (xt 18) (xt 14))])
 (.seq (.region [oF 19 34 1 4 [], oL 20 32 19 [], xk 21 (xc 42 [20] [32]) [], oF 22 34 1 11 [], oL 23 32 22 [], xk 24 (xc 42 [23] [32]) [], oF 25 34 1 4 [], xn (.store 32 (xt 25) (xt 21)), oF 26 34 1 11 [], xn (.store 32 (xt 26) (xt 24))])
 (.seq (.region [oL 27 34 1 [], xn (.store 34 (xt 2) (xt 27))])
 (.ret))))
theorem ahi : Try.f31.body.map (strip (tab.ann 31)) = some c31 := by kernel_rfl
def c32 : XC :=
 .region [oB 1 34 0 []]
theorem ahj : Try.f32.body.map (strip (tab.ann 32)) = some c32 := by kernel_rfl
def c33 : XC :=
 .seq (.region [xo 4 (.assign (.const (.slice none 0 0))) []])
 (.seq (.region [oM 8 0 [], xo 9 (xc 34 [8] [32]) [8], oA 5 9 []])
 (.seq (.seq (.region [oM 10 0 [0], xo 11 (xb .len [10] [32]) [], xo 12 (.move (xi .i64 0)) []])
 (.block 0 (.loop (.seq (.region [xo 13 (.binOp .lss 3 (xt 12) (xt 11) 3) []])
 (.seq (.cond 13 (.skip) (.exit 0))
 (.seq (.block 1 (.seq (.region [oM 14 12 [], oI 15 32 10 12 [], oL 16 34 15 [15], xo 7 (.alloc 34) [], oA 6 14 [14], xn (.store 34 (xt 7) (xt 16))])
 (.seq (.dF [oL 17 4 1 [], xo 18 (.unOp .not 4 (xt 17)) [17], oM 19 18 [18], gF 20 34 7 0 19 true [], gL 21 3 20 19 true [20], xg 22 (.binOp .neq 3 (xt 21) (xi .i64 0) 3) 19 true [21], xo 23 (.pick (xt 19) (xt 22) xF) []])
 (.cond 23 (.region [oM 24 5 [], oM 25 6 [], oL 26 58 2 [], oL 27 34 7 [], xo 28 (.call { callee := (.value (xt 26)), args := #[(xt 27)], argTypes := #[34] }) [26,27], oI 29 32 24 25 [24,25], xn (.store 34 (xt 29) (xt 28))]) (.skip)))))
 (.region [xo 30 (.binOp .add 3 (xt 12) (xi .i64 1) 3) [], oM 12 30 []])))))))
 (.seq (.region [oM 31 5 [], oA 4 31 []])
 (.ret))))
theorem ahk : Try.f33.body.map (strip (tab.ann 33)) = some c33 := by kernel_rfl
def c34 : XC :=
 .seq (.region [xo 2 (.assign (.const (.slice none 0 0))) []])
 (.seq (.seq (.dF [oM 3 0 [], xo 4 (.binOp .eql 32 (xt 3) (.const (.slice none 0 0)) 32) []])
 (.cond 4 (.seq (.region [xo 2 (.assign (.const (.slice none 0 0))) []])
 (.ret)) (.skip)))
 (.seq (.dF [xo 5 (.buildSlice 32 0 #[]) [], oM 6 0 [0], xo 7 (xb .append [5,6] [32,32]) [5,6], oA 2 7 []])
 (.ret)))
theorem ahl : Try.f34.body.map (strip (tab.ann 34)) = some c34 := by kernel_rfl
def c35 : XC :=
 .seq (.region [oB 4 34 0 [0], xo 5 (.alloc 34) []])
 (.seq (.seq (.region [oF 6 34 4 0 [], oL 7 3 6 [6], oF 8 34 1 0 [], oL 9 3 8 [8], xo 10 (.binOp .eql 3 (xt 7) (xt 9) 3) []])
 (.cond 10 (.seq (.region [xn (.store 4 (xt 2) xT)])
 (.seq (.region [oL 11 34 1 [], xn (.store 34 (xt 5) (xt 11))])
 (.ret))) (.skip)))
 (.seq (.region [oL 12 60 3 [], oF 13 34 4 4 [], oL 14 32 13 [13], xo 15 (.call { callee := (.value (xt 12)), args := #[(xt 14)], argTypes := #[32] }) [12,14], oF 16 34 4 4 [], xn (.store 32 (xt 16) (xt 15))])
 (.seq (.seq (.region [oL 17 34 4 [], xo 18 (xc 36 [17] [34]) []])
 (.cond 18 (.region [oL 19 60 3 [], oF 20 34 4 11 [], oL 21 32 20 [20], xo 22 (.call { callee := (.value (xt 19)), args := #[(xt 21)], argTypes := #[32] }) [19,21], oF 23 34 4 11 [], xn (.store 32 (xt 23) (xt 22))]) (.skip)))
 (.seq (.region [oL 24 34 4 [], xn (.store 34 (xt 5) (xt 24))])
 (.ret)))))
theorem ahm : Try.f35.body.map (strip (tab.ann 35)) = some c35 := by kernel_rfl
def c36 : XC :=
 .seq (.region [oB 1 34 0 [0], xo 2 (.assign xF) []])
 (.seq (.dF [oF 3 34 1 1 [], oF 4 29 3 1 [3], oL 5 22 4 [4], xo 6 (.binOp .eql 22 (xt 5) (xi .u8 8) 22) [5], oM 7 6 [6], gF 8 34 1 10 7 true [], gL 9 4 8 7 true [8], xo 10 (.pick (xt 7) (xt 9) xF) [7,9], oA 2 10 []])
 (.ret))
theorem ahn : Try.f36.body.map (strip (tab.ann 36)) = some c36 := by kernel_rfl
def c37 : XC :=
 .seq (.region [oB 2 29 0 [0], oB 3 29 1 [1], xo 4 (.assign xF) []])
 (.seq (.dF [oF 5 29 2 0 [], oL 6 9 5 [5], oF 7 29 3 0 [], oL 8 9 7 [7], xo 9 (.binOp .eql 9 (xt 6) (xt 8) 9) [6,8], oM 10 9 [9], gF 11 29 2 1 10 true [], gL 12 22 11 10 true [11], gF 13 29 3 1 10 true [], gL 14 22 13 10 true [13], xg 15 (.binOp .eql 22 (xt 12) (xt 14) 22) 10 true [12,14], xo 16 (.pick (xt 10) (xt 15) xF) [10,15], oM 17 16 [16], gF 18 29 2 2 17 true [], gL 19 9 18 17 true [18], gF 20 29 3 2 17 true [], gL 21 9 20 17 true [20], xg 22 (.binOp .eql 9 (xt 19) (xt 21) 9) 17 true [19,21], xo 23 (.pick (xt 17) (xt 22) xF) [17,22], oM 24 23 [23], gF 25 29 2 3 24 true [], gL 26 27 25 24 true [25], gF 27 29 3 3 24 true [], gL 28 27 27 24 true [27], xg 29 (xc 41 [26,28] [27,27]) 24 true [26,28], xo 30 (.pick (xt 24) (xt 29) xF) [24,29], oA 4 30 []])
 (.ret))
theorem arZ : Try.f37.body.map (strip (tab.ann 37)) = some c37 := by kernel_rfl
def c38 : XC :=
 .seq (.region [xo 4 (.assign xF) []])
 (.seq (.seq (.region [oM 6 0 [], xo 7 (xb .len [6] [30]) [6], oM 8 1 [], xo 9 (xb .len [8] [30]) [8], xo 10 (.binOp .neq 3 (xt 7) (xt 9) 3) []])
 (.cond 10 (.seq (.region [xo 4 (.assign xF) []])
 (.ret)) (.skip)))
 (.seq (.seq (.region [xo 5 (.assign (xi .i64 0)) []])
 (.block 0 (.loop (.seq (.seq (.region [oM 11 5 [], oM 12 0 [], xo 13 (xb .len [12] [30]) [12], xo 14 (.binOp .lss 3 (xt 11) (xt 13) 3) []])
 (.cond 14 (.skip) (.exit 0)))
 (.seq (.block 1 (.seq (.region [oM 17 0 [], oM 18 5 [], oI 19 30 17 18 [], oL 20 78 19 [], oM 21 1 [], oM 22 5 [], oI 23 30 21 22 [], oL 24 78 23 [], xo 25 (xc 66 [20,24] [78,78]) [], xo 26 (.unOp .not 4 (xt 25)) []])
 (.cond 26 (.seq (.region [xo 4 (.assign xF) []])
 (.ret)) (.skip))))
 (.region [oM 15 5 [], xo 16 (.binOp .add 3 (xt 15) (xi .i64 1) 3) [15], oA 5 16 []]))))))
 (.seq (.region [xo 4 (.assign xT) []])
 (.ret))))
theorem ar0 : Try.f38.body.map (strip (tab.ann 38)) = some c38 := by kernel_rfl
def c39 : XC :=
 .seq (.region [xo 4 (.assign xF) []])
 (.seq (.seq (.region [oM 6 0 [], xo 7 (xb .len [6] [31]) [6], oM 8 1 [], xo 9 (xb .len [8] [31]) [8], xo 10 (.binOp .neq 3 (xt 7) (xt 9) 3) []])
 (.cond 10 (.seq (.region [xo 4 (.assign xF) []])
 (.ret)) (.skip)))
 (.seq (.seq (.region [xo 5 (.assign (xi .i64 0)) []])
 (.block 0 (.loop (.seq (.seq (.region [oM 11 5 [], oM 12 0 [], xo 13 (xb .len [12] [31]) [12], xo 14 (.binOp .lss 3 (xt 11) (xt 13) 3) []])
 (.cond 14 (.skip) (.exit 0)))
 (.seq (.block 1 (.seq (.region [oM 17 0 [], oM 18 5 [], oI 19 31 17 18 [], oL 20 29 19 [], oM 21 1 [], oM 22 5 [], oI 23 31 21 22 [], oL 24 29 23 [], xo 25 (xc 37 [20,24] [29,29]) [], xo 26 (.unOp .not 4 (xt 25)) []])
 (.cond 26 (.seq (.region [xo 4 (.assign xF) []])
 (.ret)) (.skip))))
 (.region [oM 15 5 [], xo 16 (.binOp .add 3 (xt 15) (xi .i64 1) 3) [15], oA 5 16 []]))))))
 (.seq (.region [xo 4 (.assign xT) []])
 (.ret))))
theorem ar1 : Try.f39.body.map (strip (tab.ann 39)) = some c39 := by kernel_rfl
def c40 : XC :=
 .seq (.region [xo 4 (.assign xF) []])
 (.seq (.seq (.region [oM 6 0 [], xo 7 (xb .len [6] [32]) [6], oM 8 1 [], xo 9 (xb .len [8] [32]) [8], xo 10 (.binOp .neq 3 (xt 7) (xt 9) 3) []])
 (.cond 10 (.seq (.region [xo 4 (.assign xF) []])
 (.ret)) (.skip)))
 (.seq (.seq (.region [xo 5 (.assign (xi .i64 0)) []])
 (.block 0 (.loop (.seq (.seq (.region [oM 11 5 [], oM 12 0 [], xo 13 (xb .len [12] [32]) [12], xo 14 (.binOp .lss 3 (xt 11) (xt 13) 3) []])
 (.cond 14 (.skip) (.exit 0)))
 (.seq (.block 1 (.seq (.region [oM 17 0 [], oM 18 5 [], oI 19 32 17 18 [], oL 20 34 19 [], oM 21 1 [], oM 22 5 [], oI 23 32 21 22 [], oL 24 34 23 [], xo 25 (xc 12 [20,24] [34,34]) [], xo 26 (.unOp .not 4 (xt 25)) []])
 (.cond 26 (.seq (.region [xo 4 (.assign xF) []])
 (.ret)) (.skip))))
 (.region [oM 15 5 [], xo 16 (.binOp .add 3 (xt 15) (xi .i64 1) 3) [15], oA 5 16 []]))))))
 (.seq (.region [xo 4 (.assign xT) []])
 (.ret))))
theorem ar2 : Try.f40.body.map (strip (tab.ann 40)) = some c40 := by kernel_rfl
def c41 : XC :=
 .seq (.region [oB 2 27 0 [0], oB 3 27 1 [1], xo 4 (.assign xF) []])
 (.seq (.dF [oF 5 27 2 0 [], oL 6 23 5 [5], oF 7 27 3 0 [], oL 8 23 7 [7], xo 9 (.binOp .eql 23 (xt 6) (xt 8) 23) [6,8], oM 10 9 [9], gF 11 27 2 1 10 true [], gL 12 2 11 10 true [11], gF 13 27 3 1 10 true [], gL 14 2 13 10 true [13], xg 15 (.binOp .eql 2 (xt 12) (xt 14) 2) 10 true [12,14], xo 16 (.pick (xt 10) (xt 15) xF) [10,15], oM 17 16 [16], gF 18 27 2 2 17 true [], gL 19 9 18 17 true [18], gF 20 27 3 2 17 true [], gL 21 9 20 17 true [20], xg 22 (.binOp .eql 9 (xt 19) (xt 21) 9) 17 true [19,21], xo 23 (.pick (xt 17) (xt 22) xF) [17,22], oM 24 23 [23], gF 25 27 2 3 24 true [], gL 26 24 25 24 true [25], gF 27 27 3 3 24 true [], gL 28 24 27 24 true [27], xg 29 (xc 67 [26,28] [24,24]) 24 true [26,28], xo 30 (.pick (xt 24) (xt 29) xF) [24,29], oM 31 30 [30], gF 32 27 2 4 31 true [], gL 33 25 32 31 true [32], gF 34 27 3 4 31 true [], gL 35 25 34 31 true [34], xg 36 (xc 68 [33,35] [25,25]) 31 true [33,35], xo 37 (.pick (xt 31) (xt 36) xF) [31,36], oM 38 37 [37], gF 39 27 2 5 38 true [], gL 40 22 39 38 true [39], gF 41 27 3 5 38 true [], gL 42 22 41 38 true [41], xg 43 (.binOp .eql 22 (xt 40) (xt 42) 22) 38 true [40,42], xo 44 (.pick (xt 38) (xt 43) xF) [38,43], oM 45 44 [44], gF 46 27 2 6 45 true [], gL 47 9 46 45 true [46], gF 48 27 3 6 45 true [], gL 49 9 48 45 true [48], xg 50 (.binOp .eql 9 (xt 47) (xt 49) 9) 45 true [47,49], xo 51 (.pick (xt 45) (xt 50) xF) [45,50], oM 52 51 [51], gF 53 27 2 7 52 true [], gL 54 4 53 52 true [53], gF 55 27 3 7 52 true [], gL 56 4 55 52 true [55], xg 57 (.binOp .eql 4 (xt 54) (xt 56) 4) 52 true [54,56], xo 58 (.pick (xt 52) (xt 57) xF) [52,57], oA 4 58 []])
 (.ret))
theorem ar3 : Try.f41.body.map (strip (tab.ann 41)) = some c41 := by kernel_rfl
def c42 : XC :=
 .seq (.region [xo 2 (.assign (.const (.slice none 0 0))) []])
 (.seq (.region [oM 3 0 [0], xo 4 (.call { callee := (.value (.func 69)), args := #[(xt 3), (.func 31)], argTypes := #[32, 58] }) [3], oA 2 4 []])
 (.ret))
theorem aho : Try.f42.body.map (strip (tab.ann 42)) = some c42 := by kernel_rfl
def c44 : XC :=
 .seq (.region [oB 1 34 0 [0], xo 2 (.assign (.const .nilFunc)) []])
 (.seq (.region [xo 3 (.makeFunc (.func 70) #[] #[(xt 1)]) [], oA 2 3 []])
 (.ret))
theorem ahp : Try.f44.body.map (strip (tab.ann 44)) = some c44 := by kernel_rfl
def c45 : XC :=
 .seq (.region [oB 1 29 0 [0], xo 2 (.assign (xi .i64 0)) []])
 (.seq (.region [oF 4 29 1 0 [], oL 5 9 4 [4], xo 6 (xb .len [5] [9]) [5], xo 7 (.binOp .add 3 (xi .i64 1) (xt 6) 3) [6], oF 8 29 1 2 [], oL 9 9 8 [8], xo 10 (xb .len [9] [9]) [9], xo 11 (.binOp .add 3 (xt 7) (xt 10) 3) [7,10], oA 3 11 []])
 (.seq (.seq (.region [oM 12 3 [], xo 13 (.binOp .leq 3 (xt 12) (xi .i64 1048576) 3) []])
 (.cond 13 (.region [oM 14 3 [], oF 15 29 1 3 [], oL 16 27 15 [15], xo 17 (xc 49 [16] [27]) [16], xo 18 (.binOp .add 3 (xt 14) (xt 17) 3) [14,17], oA 3 18 []]) (.skip)))
 (.seq (.region [oM 19 3 [], oA 2 19 []])
 (.ret))))
theorem ar4 : Try.f45.body.map (strip (tab.ann 45)) = some c45 := by kernel_rfl
def c46 : XC :=
 .seq (.region [xo 2 (.assign (xi .i64 0)) []])
 (.seq (.region [oM 5 0 [], xo 6 (xb .len [5] [30]) [5], oA 3 6 []])
 (.seq (.seq (.region [xo 4 (.assign (xi .i64 0)) []])
 (.block 0 (.loop (.seq (.seq (.dF [oM 7 4 [], oM 8 0 [], xo 9 (xb .len [8] [30]) [8], xo 10 (.binOp .lss 3 (xt 7) (xt 9) 3) [7,9], oM 11 10 [10], gM 12 3 11 true [], xg 13 (.binOp .leq 3 (xt 12) (xi .i64 1048576) 3) 11 true [12], xo 14 (.pick (xt 11) (xt 13) xF) []])
 (.cond 14 (.skip) (.exit 0)))
 (.seq (.block 1 (.region [oM 17 3 [], oM 18 0 [], oM 19 4 [], oI 20 30 18 19 [18,19], oL 21 78 20 [20], xo 22 (xc 71 [21] [78]) [21], xo 23 (.binOp .add 3 (xt 17) (xt 22) 3) [17,22], oA 3 23 []]))
 (.region [oM 15 4 [], xo 16 (.binOp .add 3 (xt 15) (xi .i64 1) 3) [15], oA 4 16 []]))))))
 (.seq (.region [oM 24 3 [], oA 2 24 []])
 (.ret))))
theorem ar5 : Try.f46.body.map (strip (tab.ann 46)) = some c46 := by kernel_rfl
def c47 : XC :=
 .seq (.region [xo 2 (.assign (xi .i64 0)) []])
 (.seq (.region [oM 5 0 [], xo 6 (xb .len [5] [31]) [5], oA 3 6 []])
 (.seq (.seq (.region [xo 4 (.assign (xi .i64 0)) []])
 (.block 0 (.loop (.seq (.seq (.dF [oM 7 4 [], oM 8 0 [], xo 9 (xb .len [8] [31]) [8], xo 10 (.binOp .lss 3 (xt 7) (xt 9) 3) [7,9], oM 11 10 [10], gM 12 3 11 true [], xg 13 (.binOp .leq 3 (xt 12) (xi .i64 1048576) 3) 11 true [12], xo 14 (.pick (xt 11) (xt 13) xF) []])
 (.cond 14 (.skip) (.exit 0)))
 (.seq (.block 1 (.region [oM 17 3 [], oM 18 0 [], oM 19 4 [], oI 20 31 18 19 [18,19], oL 21 29 20 [20], xo 22 (xc 45 [21] [29]) [21], xo 23 (.binOp .add 3 (xt 17) (xt 22) 3) [17,22], oA 3 23 []]))
 (.region [oM 15 4 [], xo 16 (.binOp .add 3 (xt 15) (xi .i64 1) 3) [15], oA 4 16 []]))))))
 (.seq (.region [oM 24 3 [], oA 2 24 []])
 (.ret))))
theorem ar6 : Try.f47.body.map (strip (tab.ann 47)) = some c47 := by kernel_rfl
def c48 : XC :=
 .seq (.region [xo 2 (.assign (xi .i64 0)) []])
 (.seq (.region [oM 5 0 [], xo 6 (xb .len [5] [32]) [5], oA 3 6 []])
 (.seq (.seq (.region [xo 4 (.assign (xi .i64 0)) []])
 (.block 0 (.loop (.seq (.seq (.dF [oM 7 4 [], oM 8 0 [], xo 9 (xb .len [8] [32]) [8], xo 10 (.binOp .lss 3 (xt 7) (xt 9) 3) [7,9], oM 11 10 [10], gM 12 3 11 true [], xg 13 (.binOp .leq 3 (xt 12) (xi .i64 1048576) 3) 11 true [12], xo 14 (.pick (xt 11) (xt 13) xF) []])
 (.cond 14 (.skip) (.exit 0)))
 (.seq (.block 1 (.region [oM 17 3 [], oM 18 0 [], oM 19 4 [], oI 20 32 18 19 [18,19], oL 21 34 20 [20], xo 22 (xc 16 [21] [34]) [21], xo 23 (.binOp .add 3 (xt 17) (xt 22) 3) [17,22], oA 3 23 []]))
 (.region [oM 15 4 [], xo 16 (.binOp .add 3 (xt 15) (xi .i64 1) 3) [15], oA 4 16 []]))))))
 (.seq (.region [oM 24 3 [], oA 2 24 []])
 (.ret))))
theorem ar7 : Try.f48.body.map (strip (tab.ann 48)) = some c48 := by kernel_rfl
def c49 : XC :=
 .seq (.region [oB 1 27 0 [0], xo 2 (.assign (xi .i64 0)) []])
 (.seq (.region [oF 4 27 1 2 [], oL 5 9 4 [4], xo 6 (xb .len [5] [9]) [5], xo 7 (.binOp .add 3 (xi .i64 1) (xt 6) 3) [6], oF 8 27 1 6 [], oL 9 9 8 [8], xo 10 (xb .len [9] [9]) [9], xo 11 (.binOp .add 3 (xt 7) (xt 10) 3) [7,10], oA 3 11 []])
 (.seq (.seq (.region [oM 12 3 [], xo 13 (.binOp .leq 3 (xt 12) (xi .i64 1048576) 3) []])
 (.cond 13 (.region [oM 14 3 [], oF 15 27 1 3 [], oL 16 24 15 [15], xo 17 (xc 72 [16] [24]) [16], xo 18 (.binOp .add 3 (xt 14) (xt 17) 3) [14,17], oA 3 18 []]) (.skip)))
 (.seq (.seq (.region [oM 19 3 [], xo 20 (.binOp .leq 3 (xt 19) (xi .i64 1048576) 3) []])
 (.cond 20 (.region [oM 21 3 [], oF 22 27 1 4 [], oL 23 25 22 [22], xo 24 (xc 73 [23] [25]) [23], xo 25 (.binOp .add 3 (xt 21) (xt 24) 3) [21,24], oA 3 25 []]) (.skip)))
 (.seq (.region [oM 26 3 [], oA 2 26 []])
 (.ret)))))
theorem ar8 : Try.f49.body.map (strip (tab.ann 49)) = some c49 := by kernel_rfl
def c57 : XC :=
 .seq (.region [xo 3 (.assign xF) []])
 (.seq (.region [oM 4 0 [0], oL 5 22 1 [], xo 6 (xc 58 [4,5] [82,22]) [4,5], oA 3 6 []])
 (.ret))
theorem ahq : Try.f57.body.map (strip (tab.ann 57)) = some c57 := by kernel_rfl
def c58 : XC :=
 .seq (.region [xo 4 (.assign xF) []])
 (.seq (.region [oM 5 0 [0], oM 6 1 [1], xo 7 (xc 82 [5,6] [82,22]) [5,6], xo 8 (.binOp .geq 3 (xt 7) (xi .i64 0) 3) [7], oA 4 8 []])
 (.ret))
theorem ahr : Try.f58.body.map (strip (tab.ann 58)) = some c58 := by kernel_rfl
def c59 : XC :=
 .seq (.region [xo 2 (.assign xF) []])
 (.seq (.region [xo 6 (.makeMap 102 none) [], oA 3 6 []])
 (.seq (.seq (.region [oM 7 0 [], xo 8 (xb .len [7] [32]) [], xo 9 (.move (xi .i64 0)) []])
 (.block 0 (.loop (.seq (.region [xo 10 (.binOp .lss 3 (xt 9) (xt 8) 3) []])
 (.seq (.cond 10 (.skip) (.exit 0))
 (.seq (.block 1 (.seq (.region [oI 11 32 7 9 [], oL 12 34 11 [11], xo 5 (.alloc 34) [], xn (.store 34 (xt 5) (xt 12))])
 (.region [oM 13 3 [], oF 14 34 5 1 [], oF 15 29 14 0 [14], oL 16 9 15 [15], xn (.mapUpdate 102 (xt 13) (xt 16) xT)])))
 (.region [xo 17 (.binOp .add 3 (xt 9) (xi .i64 1) 3) [], oM 9 17 []])))))))
 (.seq (.dF [oM 18 0 [], xo 19 (xb .len [18] [32]) [18], xo 20 (.binOp .leq 3 (xt 19) (xi .i64 4096) 3) [19], oM 21 20 [20], gM 22 3 21 true [], xg 23 (xb .len [22] [102]) 21 true [22], gM 24 0 21 true [0], xg 25 (xb .len [24] [32]) 21 true [24], xg 26 (.binOp .eql 3 (xt 23) (xt 25) 3) 21 true [23,25], xo 27 (.pick (xt 21) (xt 26) xF) [21,26], oA 2 27 []])
 (.ret))))
theorem ahs : Try.f59.body.map (strip (tab.ann 59)) = some c59 := by kernel_rfl
def c60 : XC :=
 .seq (.region [oB 2 27 0 [0], oB 3 27 1 [1], xo 4 (.assign xF) []])
 (.seq (.dF [oF 5 27 2 0 [], oL 6 23 5 [5], oF 7 27 3 0 [], oL 8 23 7 [7], xo 9 (.binOp .eql 23 (xt 6) (xt 8) 23) [6,8], oM 10 9 [9], gF 11 27 2 1 10 true [], gL 12 2 11 10 true [11], gF 13 27 3 1 10 true [], gL 14 2 13 10 true [13], xg 15 (.binOp .eql 2 (xt 12) (xt 14) 2) 10 true [12,14], xo 16 (.pick (xt 10) (xt 15) xF) [10,15], oM 17 16 [16], gF 18 27 2 2 17 true [], gL 19 9 18 17 true [18], gF 20 27 3 2 17 true [], gL 21 9 20 17 true [20], xg 22 (.binOp .eql 9 (xt 19) (xt 21) 9) 17 true [19,21], xo 23 (.pick (xt 17) (xt 22) xF) [17,22], oM 24 23 [23], gF 25 27 2 5 24 true [], gL 26 22 25 24 true [25], gF 27 27 3 5 24 true [], gL 28 22 27 24 true [27], xg 29 (.binOp .eql 22 (xt 26) (xt 28) 22) 24 true [26,28], xo 30 (.pick (xt 24) (xt 29) xF) [24,29], oM 31 30 [30], gF 32 27 2 6 31 true [], gL 33 9 32 31 true [32], gF 34 27 3 6 31 true [], gL 35 9 34 31 true [34], xg 36 (.binOp .eql 9 (xt 33) (xt 35) 9) 31 true [33,35], xo 37 (.pick (xt 31) (xt 36) xF) [31,36], oM 38 37 [37], gF 39 27 2 7 38 true [], gL 40 4 39 38 true [39], gF 41 27 3 7 38 true [], gL 42 4 41 38 true [41], xg 43 (.binOp .eql 4 (xt 40) (xt 42) 4) 38 true [40,42], xo 44 (.pick (xt 38) (xt 43) xF) [38,43], oM 45 44 [44], gF 46 27 2 3 45 true [], gL 47 24 46 45 true [46], gF 48 27 3 3 45 true [], gL 49 24 48 45 true [48], xg 50 (.call { callee := (.value (.func 83)), args := #[(xt 47), (xt 49), (.func 60)], argTypes := #[24, 24, 65] }) 45 true [47,49], xo 51 (.pick (xt 45) (xt 50) xF) [45,50], oM 52 51 [51], gF 53 27 2 4 52 true [], gL 54 25 53 52 true [53], gF 55 27 3 4 52 true [], gL 56 25 55 52 true [55], xg 57 (xc 84 [54,56] [25,25]) 52 true [54,56], xo 58 (.pick (xt 52) (xt 57) xF) [52,57], oA 4 58 []])
 (.ret))
theorem aht : Try.f60.body.map (strip (tab.ann 60)) = some c60 := by kernel_rfl
def c61 : XC :=
 .seq (.region [xo 4 (.assign (xi .i64 0)) []])
 (.seq (.seq (.region [oM 6 0 [], xo 7 (xb .len [6] [32]) [6], xo 8 (.move (xi .i64 0)) []])
 (.block 0 (.loop (.seq (.region [xo 9 (.binOp .lss 3 (xt 8) (xt 7) 3) []])
 (.seq (.cond 9 (.skip) (.exit 0))
 (.seq (.block 1 (.seq (.region [oM 10 8 [], oA 5 10 []])
 (.seq (.region [oM 11 1 [], oM 12 0 [], oM 13 5 [], oI 14 32 12 13 [12,13], oL 15 34 14 [14], xo 16 (.call { callee := (.value (xt 11)), args := #[(xt 15)], argTypes := #[34] }) []])
 (.cond 16 (.seq (.region [oM 17 5 [], oA 4 17 []])
 (.ret)) (.skip)))))
 (.region [xo 18 (.binOp .add 3 (xt 8) (xi .i64 1) 3) [], oM 8 18 []])))))))
 (.seq (.region [xo 4 (.assign (.const (.int .i64 (-1)))) []])
 (.ret)))
theorem ahu : Try.f61.body.map (strip (tab.ann 61)) = some c61 := by kernel_rfl
def c62 : XC :=
 .seq (.region [oB 1 29 0 [0], xo 2 (.alloc 29) []])
 (.seq (.region [oF 3 29 1 3 [], oL 4 27 3 [3], xo 5 (xc 65 [4] [27]) [4], oF 6 29 1 3 [], xn (.store 27 (xt 6) (xt 5))])
 (.seq (.region [oL 7 29 1 [], xn (.store 29 (xt 2) (xt 7))])
 (.ret)))
theorem ahv : Try.f62.body.map (strip (tab.ann 62)) = some c62 := by kernel_rfl
def c63 : XC :=
 .seq (.region [xo 2 (.assign (.const (.slice none 0 0))) []])
 (.seq (.region [oM 3 0 [0], xo 4 (.call { callee := (.value (.func 85)), args := #[(xt 3), (.func 86)], argTypes := #[30, 105] }) [3], oA 2 4 []])
 (.ret))
theorem ahw : Try.f63.body.map (strip (tab.ann 63)) = some c63 := by kernel_rfl
def c64 : XC :=
 .seq (.region [xo 2 (.assign (.const (.slice none 0 0))) []])
 (.seq (.region [oM 3 0 [0], xo 4 (.call { callee := (.value (.func 87)), args := #[(xt 3), (.func 62)], argTypes := #[31, 87] }) [3], oA 2 4 []])
 (.ret))
theorem ahx : Try.f64.body.map (strip (tab.ann 64)) = some c64 := by kernel_rfl
def c65 : XC :=
 .seq (.region [oB 1 27 0 [0], xo 2 (.alloc 27) []])
 (.seq (.region [oF 3 27 1 3 [], oL 4 24 3 [], xk 5 (xc 88 [4] [24]) [], oF 6 27 1 4 [], oL 7 25 6 [], xk 8 (xc 89 [7] [25]) [], oF 9 27 1 3 [], xn (.store 24 (xt 9) (xt 5)), oF 10 27 1 4 [], xn (.store 25 (xt 10) (xt 8))])
 (.seq (.region [oL 11 27 1 [], xn (.store 27 (xt 2) (xt 11))])
 (.ret)))
theorem ahy : Try.f65.body.map (strip (tab.ann 65)) = some c65 := by kernel_rfl
def c66 : XC :=
 .seq (.region [oB 2 78 0 [0], oB 3 78 1 [1], xo 4 (.assign xF) []])
 (.seq (.dF [oF 5 78 2 0 [], oL 6 75 5 [5], oF 7 78 3 0 [], oL 8 75 7 [7], xo 9 (.binOp .eql 75 (xt 6) (xt 8) 75) [6,8], oM 10 9 [9], gF 11 78 2 1 10 true [], gL 12 9 11 10 true [11], gF 13 78 3 1 10 true [], gL 14 9 13 10 true [13], xg 15 (.binOp .eql 9 (xt 12) (xt 14) 9) 10 true [12,14], xo 16 (.pick (xt 10) (xt 15) xF) [10,15], oM 17 16 [16], gF 18 78 2 2 17 true [], gL 19 27 18 17 true [18], gF 20 78 3 2 17 true [], gL 21 27 20 17 true [20], xg 22 (xc 41 [19,21] [27,27]) 17 true [19,21], xo 23 (.pick (xt 17) (xt 22) xF) [17,22], oM 24 23 [23], gF 25 78 2 3 24 true [], gL 26 27 25 24 true [25], gF 27 78 3 3 24 true [], gL 28 27 27 24 true [27], xg 29 (xc 41 [26,28] [27,27]) 24 true [26,28], xo 30 (.pick (xt 24) (xt 29) xF) [24,29], oM 31 30 [30], gF 32 78 2 4 31 true [], gL 33 24 32 31 true [32], gF 34 78 3 4 31 true [], gL 35 24 34 31 true [34], xg 36 (xc 67 [33,35] [24,24]) 31 true [33,35], xo 37 (.pick (xt 31) (xt 36) xF) [31,36], oM 38 37 [37], gF 39 78 2 5 38 true [], gL 40 76 39 38 true [39], gF 41 78 3 5 38 true [], gL 42 76 41 38 true [41], xg 43 (xc 90 [40,42] [76,76]) 38 true [40,42], xo 44 (.pick (xt 38) (xt 43) xF) [38,43], oM 45 44 [44], gF 46 78 2 6 45 true [], gL 47 76 46 45 true [46], gF 48 78 3 6 45 true [], gL 49 76 48 45 true [48], xg 50 (xc 90 [47,49] [76,76]) 45 true [47,49], xo 51 (.pick (xt 45) (xt 50) xF) [45,50], oM 52 51 [51], gF 53 78 2 7 52 true [], gL 54 25 53 52 true [53], gF 55 78 3 7 52 true [], gL 56 25 55 52 true [55], xg 57 (xc 68 [54,56] [25,25]) 52 true [54,56], xo 58 (.pick (xt 52) (xt 57) xF) [52,57], oM 59 58 [58], gF 60 78 2 8 59 true [], gL 61 4 60 59 true [60], gF 62 78 3 8 59 true [], gL 63 4 62 59 true [62], xg 64 (.binOp .eql 4 (xt 61) (xt 63) 4) 59 true [61,63], xo 65 (.pick (xt 59) (xt 64) xF) [59,64], oM 66 65 [65], gF 67 78 2 9 66 true [], gL 68 4 67 66 true [67], gF 69 78 3 9 66 true [], gL 70 4 69 66 true [69], xg 71 (.binOp .eql 4 (xt 68) (xt 70) 4) 66 true [68,70], xo 72 (.pick (xt 66) (xt 71) xF) [66,71], oM 73 72 [72], gF 74 78 2 10 73 true [], gL 75 76 74 73 true [74], gF 76 78 3 10 73 true [], gL 77 76 76 73 true [76], xg 78 (xc 90 [75,77] [76,76]) 73 true [75,77], xo 79 (.pick (xt 73) (xt 78) xF) [73,78], oM 80 79 [79], gF 81 78 2 11 80 true [], gL 82 25 81 80 true [81], gF 83 78 3 11 80 true [], gL 84 25 83 80 true [83], xg 85 (xc 68 [82,84] [25,25]) 80 true [82,84], xo 86 (.pick (xt 80) (xt 85) xF) [80,85], oA 4 86 []])
 (.ret))
theorem ar9 : Try.f66.body.map (strip (tab.ann 66)) = some c66 := by kernel_rfl
def c67 : XC :=
 .seq (.region [xo 4 (.assign xF) []])
 (.seq (.seq (.region [oM 6 0 [], xo 7 (xb .len [6] [24]) [6], oM 8 1 [], xo 9 (xb .len [8] [24]) [8], xo 10 (.binOp .neq 3 (xt 7) (xt 9) 3) []])
 (.cond 10 (.seq (.region [xo 4 (.assign xF) []])
 (.ret)) (.skip)))
 (.seq (.seq (.region [xo 5 (.assign (xi .i64 0)) []])
 (.block 0 (.loop (.seq (.seq (.region [oM 11 5 [], oM 12 0 [], xo 13 (xb .len [12] [24]) [12], xo 14 (.binOp .lss 3 (xt 11) (xt 13) 3) []])
 (.cond 14 (.skip) (.exit 0)))
 (.seq (.block 1 (.seq (.region [oM 17 0 [], oM 18 5 [], oI 19 24 17 18 [], oL 20 27 19 [], oM 21 1 [], oM 22 5 [], oI 23 24 21 22 [], oL 24 27 23 [], xo 25 (xc 41 [20,24] [27,27]) [], xo 26 (.unOp .not 4 (xt 25)) []])
 (.cond 26 (.seq (.region [xo 4 (.assign xF) []])
 (.ret)) (.skip))))
 (.region [oM 15 5 [], xo 16 (.binOp .add 3 (xt 15) (xi .i64 1) 3) [15], oA 5 16 []]))))))
 (.seq (.region [xo 4 (.assign xT) []])
 (.ret))))
theorem asa : Try.f67.body.map (strip (tab.ann 67)) = some c67 := by kernel_rfl
def c68 : XC :=
 .seq (.region [xo 4 (.assign xF) []])
 (.seq (.seq (.region [oM 6 0 [], xo 7 (xb .len [6] [25]) [6], oM 8 1 [], xo 9 (xb .len [8] [25]) [8], xo 10 (.binOp .neq 3 (xt 7) (xt 9) 3) []])
 (.cond 10 (.seq (.region [xo 4 (.assign xF) []])
 (.ret)) (.skip)))
 (.seq (.seq (.region [xo 5 (.assign (xi .i64 0)) []])
 (.block 0 (.loop (.seq (.seq (.region [oM 11 5 [], oM 12 0 [], xo 13 (xb .len [12] [25]) [12], xo 14 (.binOp .lss 3 (xt 11) (xt 13) 3) []])
 (.cond 14 (.skip) (.exit 0)))
 (.seq (.block 1 (.seq (.region [oM 17 0 [], oM 18 5 [], oI 19 25 17 18 [], oL 20 112 19 [], oM 21 1 [], oM 22 5 [], oI 23 25 21 22 [], oL 24 112 23 [], xo 25 (xc 91 [20,24] [112,112]) [], xo 26 (.unOp .not 4 (xt 25)) []])
 (.cond 26 (.seq (.region [xo 4 (.assign xF) []])
 (.ret)) (.skip))))
 (.region [oM 15 5 [], xo 16 (.binOp .add 3 (xt 15) (xi .i64 1) 3) [15], oA 5 16 []]))))))
 (.seq (.region [xo 4 (.assign xT) []])
 (.ret))))
theorem asb : Try.f68.body.map (strip (tab.ann 68)) = some c68 := by kernel_rfl
def c69 : XC :=
 .seq (.region [xo 4 (.assign (.const (.slice none 0 0))) []])
 (.seq (.region [oM 8 0 [0], xo 9 (xc 34 [8] [32]) [8], oA 5 9 []])
 (.seq (.seq (.region [oM 10 5 [], xo 11 (xb .len [10] [32]) [], xo 12 (.move (xi .i64 0)) []])
 (.block 0 (.loop (.seq (.region [xo 13 (.binOp .lss 3 (xt 12) (xt 11) 3) []])
 (.seq (.cond 13 (.skip) (.exit 0))
 (.seq (.block 1 (.seq (.region [oM 14 12 [], oI 15 32 10 12 [], oL 16 34 15 [15], xo 7 (.alloc 34) [], oA 6 14 [14], xn (.store 34 (xt 7) (xt 16))])
 (.region [oM 17 5 [], oM 18 6 [], oM 19 1 [], oL 20 34 7 [], xo 21 (.call { callee := (.value (xt 19)), args := #[(xt 20)], argTypes := #[34] }) [19,20], oI 22 32 17 18 [17,18], xn (.store 34 (xt 22) (xt 21))])))
 (.region [xo 23 (.binOp .add 3 (xt 12) (xi .i64 1) 3) [], oM 12 23 []])))))))
 (.seq (.region [oM 24 5 [], oA 4 24 []])
 (.ret))))
theorem ahz : Try.f69.body.map (strip (tab.ann 69)) = some c69 := by kernel_rfl
def c70 : XC :=
 .seq (.region [oF 8 34 1 4 [], oL 9 32 8 [8], xo 10 (.buildSlice 95 1 #[(0, (xt 9))]) [9], oA 3 10 []])
 (.seq (.seq (.region [oL 11 34 1 [], xo 12 (xc 36 [11] [34]) []])
 (.cond 12 (.dF [oM 13 3 [], oF 14 34 1 11 [], oL 15 32 14 [14], xo 16 (.buildSlice 95 1 #[(0, (xt 15))]) [15], xo 17 (xb .append [13,16] [95,95]) [13,16], oA 3 17 []]) (.skip)))
 (.seq (.region [oM 18 3 [], xo 19 (xb .len [18] [95]) [], xo 20 (.move (xi .i64 0)) []])
 (.block 0 (.loop (.seq (.region [xo 21 (.binOp .lss 3 (xt 20) (xt 19) 3) []])
 (.seq (.cond 21 (.skip) (.exit 0))
 (.seq (.block 1 (.seq (.region [oI 22 95 18 20 [], oL 23 32 22 [22], oA 5 23 []])
 (.seq (.region [oM 24 5 [], xo 25 (xb .len [24] [32]) [], xo 26 (.move (xi .i64 0)) []])
 (.block 2 (.loop (.seq (.region [xo 27 (.binOp .lss 3 (xt 26) (xt 25) 3) []])
 (.seq (.cond 27 (.skip) (.exit 2))
 (.seq (.block 3 (.seq (.region [oI 28 32 24 26 [], oL 29 34 28 [28], xo 7 (.alloc 34) [], xn (.store 34 (xt 7) (xt 29))])
 (.seq (.dF [oF 30 34 7 0 [], oL 31 3 30 [30], xo 32 (.binOp .neq 3 (xt 31) (xi .i64 0) 3) [31], oM 33 32 [32], gM 34 0 33 true [], gL 35 34 7 33 true [], xg 36 (.call { callee := (.value (xt 34)), args := #[(xt 35)], argTypes := #[34] }) 33 true [34,35], xg 37 (.unOp .not 4 (xt 36)) 33 true [36], xo 38 (.pick (xt 33) (xt 37) xF) []])
 (.cond 38 (.ret) (.skip)))))
 (.region [xo 39 (.binOp .add 3 (xt 26) (xi .i64 1) 3) [], oM 26 39 []])))))))))
 (.region [xo 40 (.binOp .add 3 (xt 20) (xi .i64 1) 3) [], oM 20 40 []]))))))))
theorem ahA : Try.f70.body.map (strip (tab.ann 70)) = some c70 := by kernel_rfl
def c71 : XC :=
 .seq (.region [oB 1 78 0 [0], xo 2 (.assign (xi .i64 0)) []])
 (.seq (.region [oF 4 78 1 1 [], oL 5 9 4 [4], xo 6 (xb .len [5] [9]) [5], xo 7 (.binOp .add 3 (xi .i64 1) (xt 6) 3) [6], oA 3 7 []])
 (.seq (.seq (.region [oM 8 3 [], xo 9 (.binOp .leq 3 (xt 8) (xi .i64 1048576) 3) []])
 (.cond 9 (.region [oM 10 3 [], oF 11 78 1 2 [], oL 12 27 11 [11], xo 13 (xc 49 [12] [27]) [12], xo 14 (.binOp .add 3 (xt 10) (xt 13) 3) [10,13], oA 3 14 []]) (.skip)))
 (.seq (.seq (.region [oM 15 3 [], xo 16 (.binOp .leq 3 (xt 15) (xi .i64 1048576) 3) []])
 (.cond 16 (.region [oM 17 3 [], oF 18 78 1 3 [], oL 19 27 18 [18], xo 20 (xc 49 [19] [27]) [19], xo 21 (.binOp .add 3 (xt 17) (xt 20) 3) [17,20], oA 3 21 []]) (.skip)))
 (.seq (.seq (.region [oM 22 3 [], xo 23 (.binOp .leq 3 (xt 22) (xi .i64 1048576) 3) []])
 (.cond 23 (.region [oM 24 3 [], oF 25 78 1 4 [], oL 26 24 25 [25], xo 27 (xc 72 [26] [24]) [26], xo 28 (.binOp .add 3 (xt 24) (xt 27) 3) [24,27], oA 3 28 []]) (.skip)))
 (.seq (.seq (.region [oM 29 3 [], xo 30 (.binOp .leq 3 (xt 29) (xi .i64 1048576) 3) []])
 (.cond 30 (.region [oM 31 3 [], oF 32 78 1 5 [], oL 33 76 32 [32], xo 34 (xc 92 [33] [76]) [33], xo 35 (.binOp .add 3 (xt 31) (xt 34) 3) [31,34], oA 3 35 []]) (.skip)))
 (.seq (.seq (.region [oM 36 3 [], xo 37 (.binOp .leq 3 (xt 36) (xi .i64 1048576) 3) []])
 (.cond 37 (.region [oM 38 3 [], oF 39 78 1 6 [], oL 40 76 39 [39], xo 41 (xc 92 [40] [76]) [40], xo 42 (.binOp .add 3 (xt 38) (xt 41) 3) [38,41], oA 3 42 []]) (.skip)))
 (.seq (.seq (.region [oM 43 3 [], xo 44 (.binOp .leq 3 (xt 43) (xi .i64 1048576) 3) []])
 (.cond 44 (.region [oM 45 3 [], oF 46 78 1 7 [], oL 47 25 46 [46], xo 48 (xc 73 [47] [25]) [47], xo 49 (.binOp .add 3 (xt 45) (xt 48) 3) [45,48], oA 3 49 []]) (.skip)))
 (.seq (.seq (.region [oM 50 3 [], xo 51 (.binOp .leq 3 (xt 50) (xi .i64 1048576) 3) []])
 (.cond 51 (.region [oM 52 3 [], oF 53 78 1 10 [], oL 54 76 53 [53], xo 55 (xc 92 [54] [76]) [54], xo 56 (.binOp .add 3 (xt 52) (xt 55) 3) [52,55], oA 3 56 []]) (.skip)))
 (.seq (.seq (.region [oM 57 3 [], xo 58 (.binOp .leq 3 (xt 57) (xi .i64 1048576) 3) []])
 (.cond 58 (.region [oM 59 3 [], oF 60 78 1 11 [], oL 61 25 60 [60], xo 62 (xc 73 [61] [25]) [61], xo 63 (.binOp .add 3 (xt 59) (xt 62) 3) [59,62], oA 3 63 []]) (.skip)))
 (.seq (.region [oM 64 3 [], oA 2 64 []])
 (.ret)))))))))))
theorem asc : Try.f71.body.map (strip (tab.ann 71)) = some c71 := by kernel_rfl
def c72 : XC :=
 .seq (.region [xo 2 (.assign (xi .i64 0)) []])
 (.seq (.region [oM 5 0 [], xo 6 (xb .len [5] [24]) [5], oA 3 6 []])
 (.seq (.seq (.region [xo 4 (.assign (xi .i64 0)) []])
 (.block 0 (.loop (.seq (.seq (.dF [oM 7 4 [], oM 8 0 [], xo 9 (xb .len [8] [24]) [8], xo 10 (.binOp .lss 3 (xt 7) (xt 9) 3) [7,9], oM 11 10 [10], gM 12 3 11 true [], xg 13 (.binOp .leq 3 (xt 12) (xi .i64 1048576) 3) 11 true [12], xo 14 (.pick (xt 11) (xt 13) xF) []])
 (.cond 14 (.skip) (.exit 0)))
 (.seq (.block 1 (.region [oM 17 3 [], oM 18 0 [], oM 19 4 [], oI 20 24 18 19 [18,19], oL 21 27 20 [20], xo 22 (xc 49 [21] [27]) [21], xo 23 (.binOp .add 3 (xt 17) (xt 22) 3) [17,22], oA 3 23 []]))
 (.region [oM 15 4 [], xo 16 (.binOp .add 3 (xt 15) (xi .i64 1) 3) [15], oA 4 16 []]))))))
 (.seq (.region [oM 24 3 [], oA 2 24 []])
 (.ret))))
theorem ase : Try.f72.body.map (strip (tab.ann 72)) = some c72 := by kernel_rfl
def c73 : XC :=
 .seq (.region [xo 2 (.assign (xi .i64 0)) []])
 (.seq (.region [oM 5 0 [], xo 6 (xb .len [5] [25]) [5], oA 3 6 []])
 (.seq (.seq (.region [xo 4 (.assign (xi .i64 0)) []])
 (.block 0 (.loop (.seq (.seq (.dF [oM 7 4 [], oM 8 0 [], xo 9 (xb .len [8] [25]) [8], xo 10 (.binOp .lss 3 (xt 7) (xt 9) 3) [7,9], oM 11 10 [10], gM 12 3 11 true [], xg 13 (.binOp .leq 3 (xt 12) (xi .i64 1048576) 3) 11 true [12], xo 14 (.pick (xt 11) (xt 13) xF) []])
 (.cond 14 (.skip) (.exit 0)))
 (.seq (.block 1 (.region [oM 17 3 [], oM 18 0 [], oM 19 4 [], oI 20 25 18 19 [18,19], oL 21 112 20 [20], xo 22 (xc 93 [21] [112]) [21], xo 23 (.binOp .add 3 (xt 17) (xt 22) 3) [17,22], oA 3 23 []]))
 (.region [oM 15 4 [], xo 16 (.binOp .add 3 (xt 15) (xi .i64 1) 3) [15], oA 4 16 []]))))))
 (.seq (.region [oM 24 3 [], oA 2 24 []])
 (.ret))))
theorem asf : Try.f73.body.map (strip (tab.ann 73)) = some c73 := by kernel_rfl
def c82 : XC :=
 .seq (.region [xo 4 (.assign (xi .i64 0)) []])
 (.seq (.seq (.region [oM 6 0 [], xo 7 (xb .len [6] [82]) [6], xo 8 (.move (xi .i64 0)) []])
 (.block 0 (.loop (.seq (.region [xo 9 (.binOp .lss 3 (xt 8) (xt 7) 3) []])
 (.seq (.cond 9 (.skip) (.exit 0))
 (.seq (.block 1 (.seq (.region [oM 10 8 [], oA 5 10 []])
 (.seq (.region [oM 11 1 [], oM 12 0 [], oM 13 5 [], oI 14 82 12 13 [12,13], oL 15 22 14 [14], xo 16 (.binOp .eql 22 (xt 11) (xt 15) 22) []])
 (.cond 16 (.seq (.region [oM 17 5 [], oA 4 17 []])
 (.ret)) (.skip)))))
 (.region [xo 18 (.binOp .add 3 (xt 8) (xi .i64 1) 3) [], oM 8 18 []])))))))
 (.seq (.region [xo 4 (.assign (.const (.int .i64 (-1)))) []])
 (.ret)))
theorem ahB : Try.f82.body.map (strip (tab.ann 82)) = some c82 := by kernel_rfl
def c83 : XC :=
 .seq (.region [xo 6 (.assign xF) []])
 (.seq (.seq (.region [oM 10 0 [], xo 11 (xb .len [10] [24]) [10], oM 12 1 [], xo 13 (xb .len [12] [24]) [12], xo 14 (.binOp .neq 3 (xt 11) (xt 13) 3) []])
 (.cond 14 (.seq (.region [xo 6 (.assign xF) []])
 (.ret)) (.skip)))
 (.seq (.seq (.region [oM 15 0 [0], xo 16 (xb .len [15] [24]) [], xo 17 (.move (xi .i64 0)) []])
 (.block 0 (.loop (.seq (.region [xo 18 (.binOp .lss 3 (xt 17) (xt 16) 3) []])
 (.seq (.cond 18 (.skip) (.exit 0))
 (.seq (.block 1 (.seq (.region [oM 19 17 [], oI 20 24 15 17 [], oL 21 27 20 [20], xo 8 (.alloc 27) [], oA 7 19 [19], xn (.store 27 (xt 8) (xt 21))])
 (.seq (.region [oM 22 1 [], oM 23 7 [], oI 24 24 22 23 [22,23], oL 25 27 24 [24], xo 9 (.alloc 27) [], xn (.store 27 (xt 9) (xt 25))])
 (.seq (.region [oM 26 2 [], oL 27 27 8 [], oL 28 27 9 [], xo 29 (.call { callee := (.value (xt 26)), args := #[(xt 27), (xt 28)], argTypes := #[27, 27] }) [26,27,28], xo 30 (.unOp .not 4 (xt 29)) []])
 (.cond 30 (.seq (.region [xo 6 (.assign xF) []])
 (.ret)) (.skip))))))
 (.region [xo 31 (.binOp .add 3 (xt 17) (xi .i64 1) 3) [], oM 17 31 []])))))))
 (.seq (.region [xo 6 (.assign xT) []])
 (.ret))))
theorem ahC : Try.f83.body.map (strip (tab.ann 83)) = some c83 := by kernel_rfl
def c84 : XC :=
 .seq (.region [xo 4 (.assign xF) []])
 (.seq (.region [oM 5 0 [0], oM 6 1 [1], xo 7 (.call { callee := (.value (.func 102)), args := #[(xt 5), (xt 6), (.func 103)], argTypes := #[25, 25, 110] }) [5,6], oA 4 7 []])
 (.ret))
theorem ahD : Try.f84.body.map (strip (tab.ann 84)) = some c84 := by kernel_rfl
def c85 : XC :=
 .seq (.region [xo 4 (.assign (.const (.slice none 0 0))) []])
 (.seq (.region [oM 8 0 [0], xo 9 (xc 94 [8] [30]) [8], oA 5 9 []])
 (.seq (.seq (.region [oM 10 5 [], xo 11 (xb .len [10] [30]) [], xo 12 (.move (xi .i64 0)) []])
 (.block 0 (.loop (.seq (.region [xo 13 (.binOp .lss 3 (xt 12) (xt 11) 3) []])
 (.seq (.cond 13 (.skip) (.exit 0))
 (.seq (.block 1 (.seq (.region [oM 14 12 [], oI 15 30 10 12 [], oL 16 78 15 [15], xo 7 (.alloc 78) [], oA 6 14 [14], xn (.store 78 (xt 7) (xt 16))])
 (.region [oM 17 5 [], oM 18 6 [], oM 19 1 [], oL 20 78 7 [], xo 21 (.call { callee := (.value (xt 19)), args := #[(xt 20)], argTypes := #[78] }) [19,20], oI 22 30 17 18 [17,18], xn (.store 78 (xt 22) (xt 21))])))
 (.region [xo 23 (.binOp .add 3 (xt 12) (xi .i64 1) 3) [], oM 12 23 []])))))))
 (.seq (.region [oM 24 5 [], oA 4 24 []])
 (.ret))))
theorem ahE : Try.f85.body.map (strip (tab.ann 85)) = some c85 := by kernel_rfl
def c86 : XC :=
 .seq (.region [oB 1 78 0 [0], xo 2 (.alloc 78) []])
 (.seq (.region [oF 3 78 1 2 [], oL 4 27 3 [], xk 5 (xc 65 [4] [27]) [], oF 6 78 1 3 [], oL 7 27 6 [], xk 8 (xc 65 [7] [27]) [], oF 9 78 1 4 [], oL 10 24 9 [], xk 11 (xc 88 [10] [24]) [], oF 12 78 1 2 [], xn (.store 27 (xt 12) (xt 5)), oF 13 78 1 3 [], xn (.store 27 (xt 13) (xt 8)), oF 14 78 1 4 [], xn (.store 24 (xt 14) (xt 11))])
 (.seq (.region [oF 15 78 1 5 [], oL 16 76 15 [], xk 17 (xc 104 [16] [76]) [], oF 18 78 1 6 [], oL 19 76 18 [], xk 20 (xc 104 [19] [76]) [], oF 21 78 1 10 [], oL 22 76 21 [], xk 23 (xc 104 [22] [76]) [], oF 24 78 1 5 [], xn (.store 76 (xt 24) (xt 17)), oF 25 78 1 6 [], xn (.store 76 (xt 25) (xt 20)), oF 26 78 1 10 [], xn (.store 76 (xt 26) (xt 23))])
 (.seq (.region [oF 27 78 1 7 [], oL 28 25 27 [], xk 29 (xc 89 [28] [25]) [], oF 30 78 1 11 [], oL 31 25 30 [], xk 32 (xc 89 [31] [25]) [], oF 33 78 1 7 [], xn (.store 25 (xt 33) (xt 29)), oF 34 78 1 11 [], xn (.store 25 (xt 34) (xt 32))])
 (.seq (.region [oL 35 78 1 [], xn (.store 78 (xt 2) (xt 35))])
 (.ret)))))
theorem ahF : Try.f86.body.map (strip (tab.ann 86)) = some c86 := by kernel_rfl
def c87 : XC :=
 .seq (.region [xo 4 (.assign (.const (.slice none 0 0))) []])
 (.seq (.region [oM 8 0 [0], xo 9 (xc 97 [8] [31]) [8], oA 5 9 []])
 (.seq (.seq (.region [oM 10 5 [], xo 11 (xb .len [10] [31]) [], xo 12 (.move (xi .i64 0)) []])
 (.block 0 (.loop (.seq (.region [xo 13 (.binOp .lss 3 (xt 12) (xt 11) 3) []])
 (.seq (.cond 13 (.skip) (.exit 0))
 (.seq (.block 1 (.seq (.region [oM 14 12 [], oI 15 31 10 12 [], oL 16 29 15 [15], xo 7 (.alloc 29) [], oA 6 14 [14], xn (.store 29 (xt 7) (xt 16))])
 (.region [oM 17 5 [], oM 18 6 [], oM 19 1 [], oL 20 29 7 [], xo 21 (.call { callee := (.value (xt 19)), args := #[(xt 20)], argTypes := #[29] }) [19,20], oI 22 31 17 18 [17,18], xn (.store 29 (xt 22) (xt 21))])))
 (.region [xo 23 (.binOp .add 3 (xt 12) (xi .i64 1) 3) [], oM 12 23 []])))))))
 (.seq (.region [oM 24 5 [], oA 4 24 []])
 (.ret))))
theorem ahG : Try.f87.body.map (strip (tab.ann 87)) = some c87 := by kernel_rfl
def c88 : XC :=
 .seq (.region [xo 2 (.assign (.const (.slice none 0 0))) []])
 (.seq (.region [oM 3 0 [0], xo 4 (.call { callee := (.value (.func 105)), args := #[(xt 3), (.func 65)], argTypes := #[24, 90] }) [3], oA 2 4 []])
 (.ret))
theorem ahH : Try.f88.body.map (strip (tab.ann 88)) = some c88 := by kernel_rfl
def c89 : XC :=
 .seq (.region [xo 2 (.assign (.const (.slice none 0 0))) []])
 (.seq (.region [oM 3 0 [0], xo 4 (.call { callee := (.value (.func 106)), args := #[(xt 3), (.func 107)], argTypes := #[25, 119] }) [3], oA 2 4 []])
 (.ret))
theorem ahI : Try.f89.body.map (strip (tab.ann 89)) = some c89 := by kernel_rfl
def c90 : XC :=
 .seq (.region [xo 4 (.assign xF) []])
 (.seq (.seq (.region [oM 6 0 [], xo 7 (xb .len [6] [76]) [6], oM 8 1 [], xo 9 (xb .len [8] [76]) [8], xo 10 (.binOp .neq 3 (xt 7) (xt 9) 3) []])
 (.cond 10 (.seq (.region [xo 4 (.assign xF) []])
 (.ret)) (.skip)))
 (.seq (.seq (.region [xo 5 (.assign (xi .i64 0)) []])
 (.block 0 (.loop (.seq (.seq (.region [oM 11 5 [], oM 12 0 [], xo 13 (xb .len [12] [76]) [12], xo 14 (.binOp .lss 3 (xt 11) (xt 13) 3) []])
 (.cond 14 (.skip) (.exit 0)))
 (.seq (.block 1 (.seq (.region [oM 17 0 [], oM 18 5 [], oI 19 76 17 18 [], oL 20 128 19 [], oM 21 1 [], oM 22 5 [], oI 23 76 21 22 [], oL 24 128 23 [], xo 25 (xc 108 [20,24] [128,128]) [], xo 26 (.unOp .not 4 (xt 25)) []])
 (.cond 26 (.seq (.region [xo 4 (.assign xF) []])
 (.ret)) (.skip))))
 (.region [oM 15 5 [], xo 16 (.binOp .add 3 (xt 15) (xi .i64 1) 3) [15], oA 5 16 []]))))))
 (.seq (.region [xo 4 (.assign xT) []])
 (.ret))))
theorem ash : Try.f90.body.map (strip (tab.ann 90)) = some c90 := by kernel_rfl
def c91 : XC :=
 .seq (.region [oB 2 112 0 [0], oB 3 112 1 [1], xo 4 (.assign xF) []])
 (.seq (.dF [oF 5 112 2 0 [], oL 6 9 5 [5], oF 7 112 3 0 [], oL 8 9 7 [7], xo 9 (.binOp .eql 9 (xt 6) (xt 8) 9) [6,8], oM 10 9 [9], gF 11 112 2 1 10 true [], gL 12 27 11 10 true [11], gF 13 112 3 1 10 true [], gL 14 27 13 10 true [13], xg 15 (xc 41 [12,14] [27,27]) 10 true [12,14], xo 16 (.pick (xt 10) (xt 15) xF) [10,15], oA 4 16 []])
 (.ret))
theorem asi : Try.f91.body.map (strip (tab.ann 91)) = some c91 := by kernel_rfl
def c92 : XC :=
 .seq (.region [xo 2 (.assign (xi .i64 0)) []])
 (.seq (.region [oM 5 0 [], xo 6 (xb .len [5] [76]) [5], oA 3 6 []])
 (.seq (.seq (.region [xo 4 (.assign (xi .i64 0)) []])
 (.block 0 (.loop (.seq (.seq (.dF [oM 7 4 [], oM 8 0 [], xo 9 (xb .len [8] [76]) [8], xo 10 (.binOp .lss 3 (xt 7) (xt 9) 3) [7,9], oM 11 10 [10], gM 12 3 11 true [], xg 13 (.binOp .leq 3 (xt 12) (xi .i64 1048576) 3) 11 true [12], xo 14 (.pick (xt 11) (xt 13) xF) []])
 (.cond 14 (.skip) (.exit 0)))
 (.seq (.block 1 (.region [oM 17 3 [], oM 18 0 [], oM 19 4 [], oI 20 76 18 19 [18,19], oL 21 128 20 [20], xo 22 (xc 109 [21] [128]) [21], xo 23 (.binOp .add 3 (xt 17) (xt 22) 3) [17,22], oA 3 23 []]))
 (.region [oM 15 4 [], xo 16 (.binOp .add 3 (xt 15) (xi .i64 1) 3) [15], oA 4 16 []]))))))
 (.seq (.region [oM 24 3 [], oA 2 24 []])
 (.ret))))
theorem asj : Try.f92.body.map (strip (tab.ann 92)) = some c92 := by kernel_rfl
def c93 : XC :=
 .seq (.region [oB 1 112 0 [0], xo 2 (.assign (xi .i64 0)) []])
 (.seq (.region [oF 4 112 1 0 [], oL 5 9 4 [4], xo 6 (xb .len [5] [9]) [5], xo 7 (.binOp .add 3 (xi .i64 1) (xt 6) 3) [6], oA 3 7 []])
 (.seq (.seq (.region [oM 8 3 [], xo 9 (.binOp .leq 3 (xt 8) (xi .i64 1048576) 3) []])
 (.cond 9 (.region [oM 10 3 [], oF 11 112 1 1 [], oL 12 27 11 [11], xo 13 (xc 49 [12] [27]) [12], xo 14 (.binOp .add 3 (xt 10) (xt 13) 3) [10,13], oA 3 14 []]) (.skip)))
 (.seq (.region [oM 15 3 [], oA 2 15 []])
 (.ret))))
theorem asl : Try.f93.body.map (strip (tab.ann 93)) = some c93 := by kernel_rfl
def c94 : XC :=
 .seq (.region [xo 2 (.assign (.const (.slice none 0 0))) []])
 (.seq (.seq (.dF [oM 3 0 [], xo 4 (.binOp .eql 30 (xt 3) (.const (.slice none 0 0)) 30) []])
 (.cond 4 (.seq (.region [xo 2 (.assign (.const (.slice none 0 0))) []])
 (.ret)) (.skip)))
 (.seq (.dF [xo 5 (.buildSlice 30 0 #[]) [], oM 6 0 [0], xo 7 (xb .append [5,6] [30,30]) [5,6], oA 2 7 []])
 (.ret)))
theorem ahJ : Try.f94.body.map (strip (tab.ann 94)) = some c94 := by kernel_rfl
def c97 : XC :=
 .seq (.region [xo 2 (.assign (.const (.slice none 0 0))) []])
 (.seq (.seq (.dF [oM 3 0 [], xo 4 (.binOp .eql 31 (xt 3) (.const (.slice none 0 0)) 31) []])
 (.cond 4 (.seq (.region [xo 2 (.assign (.const (.slice none 0 0))) []])
 (.ret)) (.skip)))
 (.seq (.dF [xo 5 (.buildSlice 31 0 #[]) [], oM 6 0 [0], xo 7 (xb .append [5,6] [31,31]) [5,6], oA 2 7 []])
 (.ret)))
theorem ahK : Try.f97.body.map (strip (tab.ann 97)) = some c97 := by kernel_rfl
def asn : XC :=
 .seq (.region [xo 6 (.assign xF) []])
 (.seq (.seq (.region [oM 10 0 [], xo 11 (xb .len [10] [25]) [10], oM 12 1 [], xo 13 (xb .len [12] [25]) [12], xo 14 (.binOp .neq 3 (xt 11) (xt 13) 3) []])
 (.cond 14 (.seq (.region [xo 6 (.assign xF) []])
 (.ret)) (.skip)))
 (.seq (.seq (.region [oM 15 0 [0], xo 16 (xb .len [15] [25]) [], xo 17 (.move (xi .i64 0)) []])
 (.block 0 (.loop (.seq (.region [xo 18 (.binOp .lss 3 (xt 17) (xt 16) 3) []])
 (.seq (.cond 18 (.skip) (.exit 0))
 (.seq (.block 1 (.seq (.region [oM 19 17 [], oI 20 25 15 17 [], oL 21 112 20 [20], xo 8 (.alloc 112) [], oA 7 19 [19], xn (.store 112 (xt 8) (xt 21))])
 (.seq (.region [oM 22 1 [], oM 23 7 [], oI 24 25 22 23 [22,23], oL 25 112 24 [24], xo 9 (.alloc 112) [], xn (.store 112 (xt 9) (xt 25))])
 (.seq (.region [oM 26 2 [], oL 27 112 8 [], oL 28 112 9 [], xo 29 (.call { callee := (.value (xt 26)), args := #[(xt 27), (xt 28)], argTypes := #[112, 112] }) [26,27,28], xo 30 (.unOp .not 4 (xt 29)) []])
 (.cond 30 (.seq (.region [xo 6 (.assign xF) []])
 (.ret)) (.skip))))))
 (.region [xo 31 (.binOp .add 3 (xt 17) (xi .i64 1) 3) [], oM 17 31 []])))))))
 (.seq (.region [xo 6 (.assign xT) []])
 (.ret))))
theorem adi : Try.f102.body.map (strip (tab.ann 102)) = some asn := by kernel_rfl
def aso : XC :=
 .seq (.region [oB 2 112 0 [0], oB 3 112 1 [1], xo 4 (.assign xF) []])
 (.seq (.dF [oF 5 112 2 0 [], oL 6 9 5 [5], oF 7 112 3 0 [], oL 8 9 7 [7], xo 9 (.binOp .eql 9 (xt 6) (xt 8) 9) [6,8], oM 10 9 [9], gF 11 112 2 1 10 true [], gL 12 27 11 10 true [11], gF 13 112 3 1 10 true [], gL 14 27 13 10 true [13], xg 15 (xc 60 [12,14] [27,27]) 10 true [12,14], xo 16 (.pick (xt 10) (xt 15) xF) [10,15], oA 4 16 []])
 (.ret))
theorem adj : Try.f103.body.map (strip (tab.ann 103)) = some aso := by kernel_rfl
def asq : XC :=
 .seq (.region [xo 2 (.assign (.const (.slice none 0 0))) []])
 (.seq (.region [oM 3 0 [0], xo 4 (.call { callee := (.value (.func 115)), args := #[(xt 3), (.func 116)], argTypes := #[76, 132] }) [3], oA 2 4 []])
 (.ret))
theorem adk : Try.f104.body.map (strip (tab.ann 104)) = some asq := by kernel_rfl
def c105 : XC :=
 .seq (.region [xo 4 (.assign (.const (.slice none 0 0))) []])
 (.seq (.region [oM 8 0 [0], xo 9 (xc 111 [8] [24]) [8], oA 5 9 []])
 (.seq (.seq (.region [oM 10 5 [], xo 11 (xb .len [10] [24]) [], xo 12 (.move (xi .i64 0)) []])
 (.block 0 (.loop (.seq (.region [xo 13 (.binOp .lss 3 (xt 12) (xt 11) 3) []])
 (.seq (.cond 13 (.skip) (.exit 0))
 (.seq (.block 1 (.seq (.region [oM 14 12 [], oI 15 24 10 12 [], oL 16 27 15 [15], xo 7 (.alloc 27) [], oA 6 14 [14], xn (.store 27 (xt 7) (xt 16))])
 (.region [oM 17 5 [], oM 18 6 [], oM 19 1 [], oL 20 27 7 [], xo 21 (.call { callee := (.value (xt 19)), args := #[(xt 20)], argTypes := #[27] }) [19,20], oI 22 24 17 18 [17,18], xn (.store 27 (xt 22) (xt 21))])))
 (.region [xo 23 (.binOp .add 3 (xt 12) (xi .i64 1) 3) [], oM 12 23 []])))))))
 (.seq (.region [oM 24 5 [], oA 4 24 []])
 (.ret))))
theorem adl : Try.f105.body.map (strip (tab.ann 105)) = some c105 := by kernel_rfl
def asr : XC :=
 .seq (.region [xo 4 (.assign (.const (.slice none 0 0))) []])
 (.seq (.region [oM 8 0 [0], xo 9 (xc 113 [8] [25]) [8], oA 5 9 []])
 (.seq (.seq (.region [oM 10 5 [], xo 11 (xb .len [10] [25]) [], xo 12 (.move (xi .i64 0)) []])
 (.block 0 (.loop (.seq (.region [xo 13 (.binOp .lss 3 (xt 12) (xt 11) 3) []])
 (.seq (.cond 13 (.skip) (.exit 0))
 (.seq (.block 1 (.seq (.region [oM 14 12 [], oI 15 25 10 12 [], oL 16 112 15 [15], xo 7 (.alloc 112) [], oA 6 14 [14], xn (.store 112 (xt 7) (xt 16))])
 (.region [oM 17 5 [], oM 18 6 [], oM 19 1 [], oL 20 112 7 [], xo 21 (.call { callee := (.value (xt 19)), args := #[(xt 20)], argTypes := #[112] }) [19,20], oI 22 25 17 18 [17,18], xn (.store 112 (xt 22) (xt 21))])))
 (.region [xo 23 (.binOp .add 3 (xt 12) (xi .i64 1) 3) [], oM 12 23 []])))))))
 (.seq (.region [oM 24 5 [], oA 4 24 []])
 (.ret))))
theorem adn : Try.f106.body.map (strip (tab.ann 106)) = some asr := by kernel_rfl
def c107 : XC :=
 .seq (.region [oB 1 112 0 [0], xo 2 (.alloc 112) []])
 (.seq (.region [oF 3 112 1 0 [], oL 4 9 3 [], oF 5 112 1 1 [], oL 6 27 5 [], xk 7 (xc 65 [6] [27]) [], xo 8 (.build 112 #[(0, (xt 4)), (1, (xt 7))]) [], xn (.store 112 (xt 2) (xt 8))])
 (.ret))
theorem ado : Try.f107.body.map (strip (tab.ann 107)) = some c107 := by kernel_rfl
def awc : XC :=
 .seq (.region [oB 2 128 0 [0], oB 3 128 1 [1], xo 4 (.assign xF) []])
 (.seq (.dF [oF 5 128 2 0 [], oL 6 121 5 [5], oF 7 128 3 0 [], oL 8 121 7 [7], xo 9 (.binOp .eql 121 (xt 6) (xt 8) 121) [6,8], oM 10 9 [9], gF 11 128 2 1 10 true [], gL 12 9 11 10 true [11], gF 13 128 3 1 10 true [], gL 14 9 13 10 true [13], xg 15 (.binOp .eql 9 (xt 12) (xt 14) 9) 10 true [12,14], xo 16 (.pick (xt 10) (xt 15) xF) [10,15], oM 17 16 [16], gF 18 128 2 2 17 true [], gL 19 126 18 17 true [18], gF 20 128 3 2 17 true [], gL 21 126 20 17 true [20], xg 22 (xc 118 [19,21] [126,126]) 17 true [19,21], xo 23 (.pick (xt 17) (xt 22) xF) [17,22], oA 4 23 []])
 (.ret))
theorem amm : Try.f108.body.map (strip (tab.ann 108)) = some awc := by kernel_rfl
def c109 : XC :=
 .seq (.region [oB 1 128 0 [0], xo 2 (.assign (xi .i64 0)) []])
 (.seq (.region [oF 4 128 1 1 [], oL 5 9 4 [4], xo 6 (xb .len [5] [9]) [5], xo 7 (.binOp .add 3 (xi .i64 1) (xt 6) 3) [6], oA 3 7 []])
 (.seq (.seq (.region [oM 8 3 [], xo 9 (.binOp .leq 3 (xt 8) (xi .i64 1048576) 3) []])
 (.cond 9 (.region [oM 10 3 [], oF 11 128 1 2 [], oL 12 126 11 [11], xo 13 (xc 119 [12] [126]) [12], xo 14 (.binOp .add 3 (xt 10) (xt 13) 3) [10,13], oA 3 14 []]) (.skip)))
 (.seq (.region [oM 15 3 [], oA 2 15 []])
 (.ret))))
theorem amn : Try.f109.body.map (strip (tab.ann 109)) = some c109 := by kernel_rfl
def asu : XC :=
 .seq (.region [xo 2 (.assign (.const (.slice none 0 0))) []])
 (.seq (.seq (.dF [oM 3 0 [], xo 4 (.binOp .eql 24 (xt 3) (.const (.slice none 0 0)) 24) []])
 (.cond 4 (.seq (.region [xo 2 (.assign (.const (.slice none 0 0))) []])
 (.ret)) (.skip)))
 (.seq (.dF [xo 5 (.buildSlice 24 0 #[]) [], oM 6 0 [0], xo 7 (xb .append [5,6] [24,24]) [5,6], oA 2 7 []])
 (.ret)))
theorem adp : Try.f111.body.map (strip (tab.ann 111)) = some asu := by kernel_rfl
def asv : XC :=
 .seq (.region [xo 2 (.assign (.const (.slice none 0 0))) []])
 (.seq (.seq (.dF [oM 3 0 [], xo 4 (.binOp .eql 25 (xt 3) (.const (.slice none 0 0)) 25) []])
 (.cond 4 (.seq (.region [xo 2 (.assign (.const (.slice none 0 0))) []])
 (.ret)) (.skip)))
 (.seq (.dF [xo 5 (.buildSlice 25 0 #[]) [], oM 6 0 [0], xo 7 (xb .append [5,6] [25,25]) [5,6], oA 2 7 []])
 (.ret)))
theorem adq : Try.f113.body.map (strip (tab.ann 113)) = some asv := by kernel_rfl
def asw : XC :=
 .seq (.region [xo 4 (.assign (.const (.slice none 0 0))) []])
 (.seq (.region [oM 8 0 [0], xo 9 (xc 120 [8] [76]) [8], oA 5 9 []])
 (.seq (.seq (.region [oM 10 5 [], xo 11 (xb .len [10] [76]) [], xo 12 (.move (xi .i64 0)) []])
 (.block 0 (.loop (.seq (.region [xo 13 (.binOp .lss 3 (xt 12) (xt 11) 3) []])
 (.seq (.cond 13 (.skip) (.exit 0))
 (.seq (.block 1 (.seq (.region [oM 14 12 [], oI 15 76 10 12 [], oL 16 128 15 [15], xo 7 (.alloc 128) [], oA 6 14 [14], xn (.store 128 (xt 7) (xt 16))])
 (.region [oM 17 5 [], oM 18 6 [], oM 19 1 [], oL 20 128 7 [], xo 21 (.call { callee := (.value (xt 19)), args := #[(xt 20)], argTypes := #[128] }) [19,20], oI 22 76 17 18 [17,18], xn (.store 128 (xt 22) (xt 21))])))
 (.region [xo 23 (.binOp .add 3 (xt 12) (xi .i64 1) 3) [], oM 12 23 []])))))))
 (.seq (.region [oM 24 5 [], oA 4 24 []])
 (.ret))))
theorem adr : Try.f115.body.map (strip (tab.ann 115)) = some asw := by kernel_rfl
def c116 : XC :=
 .seq (.region [oB 1 128 0 [0], xo 2 (.alloc 128) []])
 (.seq (.region [oF 3 128 1 2 [], oL 4 126 3 [3], xo 5 (xc 117 [4] [126]) [4], oF 6 128 1 2 [], xn (.store 126 (xt 6) (xt 5))])
 (.seq (.region [oL 7 128 1 [], xn (.store 128 (xt 2) (xt 7))])
 (.ret)))
theorem ads : Try.f116.body.map (strip (tab.ann 116)) = some c116 := by kernel_rfl
def c117 : XC :=
 .seq (.region [oB 1 126 0 [0], xo 2 (.alloc 126) []])
 (.seq (.region [oF 3 126 1 3 [], oL 4 123 3 [], xk 5 (xc 123 [4] [123]) [], oF 6 126 1 5 [], oL 7 123 6 [], xk 8 (xc 123 [7] [123]) [], oF 9 126 1 7 [], oL 10 123 9 [], xk 11 (xc 123 [10] [123]) [], oF 12 126 1 4 [], oL 13 124 12 [], xk 14 (xc 124 [13] [124]) [], oF 15 126 1 8 [], oL 16 76 15 [], xk 17 (xc 104 [16] [76]) [], oF 18 126 1 3 [], xn (.store 123 (xt 18) (xt 5)), oF 19 126 1 5 [], xn (.store 123 (xt 19) (xt 8)), oF 20 126 1 7 [], xn (.store 123 (xt 20) (xt 11)), oF 21 126 1 4 [], xn (.store 124 (xt 21) (xt 14)), oF 22 126 1 8 [], xn (.store 76 (xt 22) (xt 17))])
 (.seq (.region [oL 23 126 1 [], xn (.store 126 (xt 2) (xt 23))])
 (.ret)))
theorem adt : Try.f117.body.map (strip (tab.ann 117)) = some c117 := by kernel_rfl
def awd : XC :=
 .seq (.region [oB 2 126 0 [0], oB 3 126 1 [1], xo 4 (.assign xF) []])
 (.seq (.dF [oF 5 126 2 0 [], oL 6 122 5 [5], oF 7 126 3 0 [], oL 8 122 7 [7], xo 9 (.binOp .eql 122 (xt 6) (xt 8) 122) [6,8], oM 10 9 [9], gF 11 126 2 1 10 true [], gL 12 2 11 10 true [11], gF 13 126 3 1 10 true [], gL 14 2 13 10 true [13], xg 15 (.binOp .eql 2 (xt 12) (xt 14) 2) 10 true [12,14], xo 16 (.pick (xt 10) (xt 15) xF) [10,15], oM 17 16 [16], gF 18 126 2 2 17 true [], gL 19 9 18 17 true [18], gF 20 126 3 2 17 true [], gL 21 9 20 17 true [20], xg 22 (.binOp .eql 9 (xt 19) (xt 21) 9) 17 true [19,21], xo 23 (.pick (xt 17) (xt 22) xF) [17,22], oM 24 23 [23], gF 25 126 2 3 24 true [], gL 26 123 25 24 true [25], gF 27 126 3 3 24 true [], gL 28 123 27 24 true [27], xg 29 (xc 125 [26,28] [123,123]) 24 true [26,28], xo 30 (.pick (xt 24) (xt 29) xF) [24,29], oM 31 30 [30], gF 32 126 2 4 31 true [], gL 33 124 32 31 true [32], gF 34 126 3 4 31 true [], gL 35 124 34 31 true [34], xg 36 (xc 126 [33,35] [124,124]) 31 true [33,35], xo 37 (.pick (xt 31) (xt 36) xF) [31,36], oM 38 37 [37], gF 39 126 2 5 38 true [], gL 40 123 39 38 true [39], gF 41 126 3 5 38 true [], gL 42 123 41 38 true [41], xg 43 (xc 125 [40,42] [123,123]) 38 true [40,42], xo 44 (.pick (xt 38) (xt 43) xF) [38,43], oM 45 44 [44], gF 46 126 2 6 45 true [], gL 47 22 46 45 true [46], gF 48 126 3 6 45 true [], gL 49 22 48 45 true [48], xg 50 (.binOp .eql 22 (xt 47) (xt 49) 22) 45 true [47,49], xo 51 (.pick (xt 45) (xt 50) xF) [45,50], oM 52 51 [51], gF 53 126 2 7 52 true [], gL 54 123 53 52 true [53], gF 55 126 3 7 52 true [], gL 56 123 55 52 true [55], xg 57 (xc 125 [54,56] [123,123]) 52 true [54,56], xo 58 (.pick (xt 52) (xt 57) xF) [52,57], oM 59 58 [58], gF 60 126 2 8 59 true [], gL 61 76 60 59 true [60], gF 62 126 3 8 59 true [], gL 63 76 62 59 true [62], xg 64 (xc 90 [61,63] [76,76]) 59 true [61,63], xo 65 (.pick (xt 59) (xt 64) xF) [59,64], oM 66 65 [65], gF 67 126 2 9 66 true [], gL 68 9 67 66 true [67], gF 69 126 3 9 66 true [], gL 70 9 69 66 true [69], xg 71 (.binOp .eql 9 (xt 68) (xt 70) 9) 66 true [68,70], xo 72 (.pick (xt 66) (xt 71) xF) [66,71], oA 4 72 []])
 (.ret))
theorem amo : Try.f118.body.map (strip (tab.ann 118)) = some awd := by kernel_rfl
def c119 : XC :=
 .seq (.region [oB 1 126 0 [0], xo 2 (.assign (xi .i64 0)) []])
 (.seq (.region [oF 4 126 1 2 [], oL 5 9 4 [4], xo 6 (xb .len [5] [9]) [5], xo 7 (.binOp .add 3 (xi .i64 1) (xt 6) 3) [6], oF 8 126 1 9 [], oL 9 9 8 [8], xo 10 (xb .len [9] [9]) [9], xo 11 (.binOp .add 3 (xt 7) (xt 10) 3) [7,10], oA 3 11 []])
 (.seq (.seq (.region [oM 12 3 [], xo 13 (.binOp .leq 3 (xt 12) (xi .i64 1048576) 3) []])
 (.cond 13 (.region [oM 14 3 [], oF 15 126 1 3 [], oL 16 123 15 [15], xo 17 (xc 127 [16] [123]) [16], xo 18 (.binOp .add 3 (xt 14) (xt 17) 3) [14,17], oA 3 18 []]) (.skip)))
 (.seq (.seq (.region [oM 19 3 [], xo 20 (.binOp .leq 3 (xt 19) (xi .i64 1048576) 3) []])
 (.cond 20 (.region [oM 21 3 [], oF 22 126 1 4 [], oL 23 124 22 [22], xo 24 (xc 128 [23] [124]) [23], xo 25 (.binOp .add 3 (xt 21) (xt 24) 3) [21,24], oA 3 25 []]) (.skip)))
 (.seq (.seq (.region [oM 26 3 [], xo 27 (.binOp .leq 3 (xt 26) (xi .i64 1048576) 3) []])
 (.cond 27 (.region [oM 28 3 [], oF 29 126 1 5 [], oL 30 123 29 [29], xo 31 (xc 127 [30] [123]) [30], xo 32 (.binOp .add 3 (xt 28) (xt 31) 3) [28,31], oA 3 32 []]) (.skip)))
 (.seq (.seq (.region [oM 33 3 [], xo 34 (.binOp .leq 3 (xt 33) (xi .i64 1048576) 3) []])
 (.cond 34 (.region [oM 35 3 [], oF 36 126 1 7 [], oL 37 123 36 [36], xo 38 (xc 127 [37] [123]) [37], xo 39 (.binOp .add 3 (xt 35) (xt 38) 3) [35,38], oA 3 39 []]) (.skip)))
 (.seq (.seq (.region [oM 40 3 [], xo 41 (.binOp .leq 3 (xt 40) (xi .i64 1048576) 3) []])
 (.cond 41 (.region [oM 42 3 [], oF 43 126 1 8 [], oL 44 76 43 [43], xo 45 (xc 92 [44] [76]) [44], xo 46 (.binOp .add 3 (xt 42) (xt 45) 3) [42,45], oA 3 46 []]) (.skip)))
 (.seq (.region [oM 47 3 [], oA 2 47 []])
 (.ret))))))))
theorem amq : Try.f119.body.map (strip (tab.ann 119)) = some c119 := by kernel_rfl
def asx : XC :=
 .seq (.region [xo 2 (.assign (.const (.slice none 0 0))) []])
 (.seq (.seq (.dF [oM 3 0 [], xo 4 (.binOp .eql 76 (xt 3) (.const (.slice none 0 0)) 76) []])
 (.cond 4 (.seq (.region [xo 2 (.assign (.const (.slice none 0 0))) []])
 (.ret)) (.skip)))
 (.seq (.dF [xo 5 (.buildSlice 76 0 #[]) [], oM 6 0 [0], xo 7 (xb .append [5,6] [76,76]) [5,6], oA 2 7 []])
 (.ret)))
theorem adu : Try.f120.body.map (strip (tab.ann 120)) = some asx := by kernel_rfl
def asy : XC :=
 .seq (.region [xo 2 (.assign (.const (.slice none 0 0))) []])
 (.seq (.region [oM 3 0 [0], xo 4 (.call { callee := (.value (.func 131)), args := #[(xt 3), (.func 117)], argTypes := #[123, 131] }) [3], oA 2 4 []])
 (.ret))
theorem adv : Try.f123.body.map (strip (tab.ann 123)) = some asy := by kernel_rfl
def c124 : XC :=
 .seq (.region [xo 2 (.assign (.const (.slice none 0 0))) []])
 (.seq (.seq (.dF [oM 3 0 [], xo 4 (.binOp .eql 124 (xt 3) (.const (.slice none 0 0)) 124) []])
 (.cond 4 (.seq (.region [xo 2 (.assign (.const (.slice none 0 0))) []])
 (.ret)) (.skip)))
 (.seq (.dF [xo 5 (.buildSlice 124 0 #[]) [], oM 6 0 [0], xo 7 (xb .append [5,6] [124,124]) [5,6], oA 2 7 []])
 (.ret)))
theorem adw : Try.f124.body.map (strip (tab.ann 124)) = some c124 := by kernel_rfl
def awe : XC :=
 .seq (.region [xo 4 (.assign xF) []])
 (.seq (.seq (.region [oM 6 0 [], xo 7 (xb .len [6] [123]) [6], oM 8 1 [], xo 9 (xb .len [8] [123]) [8], xo 10 (.binOp .neq 3 (xt 7) (xt 9) 3) []])
 (.cond 10 (.seq (.region [xo 4 (.assign xF) []])
 (.ret)) (.skip)))
 (.seq (.seq (.region [xo 5 (.assign (xi .i64 0)) []])
 (.block 0 (.loop (.seq (.seq (.region [oM 11 5 [], oM 12 0 [], xo 13 (xb .len [12] [123]) [12], xo 14 (.binOp .lss 3 (xt 11) (xt 13) 3) []])
 (.cond 14 (.skip) (.exit 0)))
 (.seq (.block 1 (.seq (.region [oM 17 0 [], oM 18 5 [], oI 19 123 17 18 [], oL 20 126 19 [], oM 21 1 [], oM 22 5 [], oI 23 123 21 22 [], oL 24 126 23 [], xo 25 (xc 118 [20,24] [126,126]) [], xo 26 (.unOp .not 4 (xt 25)) []])
 (.cond 26 (.seq (.region [xo 4 (.assign xF) []])
 (.ret)) (.skip))))
 (.region [oM 15 5 [], xo 16 (.binOp .add 3 (xt 15) (xi .i64 1) 3) [15], oA 5 16 []]))))))
 (.seq (.region [xo 4 (.assign xT) []])
 (.ret))))
theorem amr : Try.f125.body.map (strip (tab.ann 125)) = some awe := by kernel_rfl
def awf : XC :=
 .seq (.region [xo 4 (.assign xF) []])
 (.seq (.seq (.region [oM 6 0 [], xo 7 (xb .len [6] [124]) [6], oM 8 1 [], xo 9 (xb .len [8] [124]) [8], xo 10 (.binOp .neq 3 (xt 7) (xt 9) 3) []])
 (.cond 10 (.seq (.region [xo 4 (.assign xF) []])
 (.ret)) (.skip)))
 (.seq (.seq (.region [xo 5 (.assign (xi .i64 0)) []])
 (.block 0 (.loop (.seq (.seq (.region [oM 11 5 [], oM 12 0 [], xo 13 (xb .len [12] [124]) [12], xo 14 (.binOp .lss 3 (xt 11) (xt 13) 3) []])
 (.cond 14 (.skip) (.exit 0)))
 (.seq (.block 1 (.seq (.region [oM 17 0 [], oM 18 5 [], oI 19 124 17 18 [], oL 20 9 19 [], oM 21 1 [], oM 22 5 [], oI 23 124 21 22 [], oL 24 9 23 [], xo 25 (.binOp .neq 9 (xt 20) (xt 24) 9) []])
 (.cond 25 (.seq (.region [xo 4 (.assign xF) []])
 (.ret)) (.skip))))
 (.region [oM 15 5 [], xo 16 (.binOp .add 3 (xt 15) (xi .i64 1) 3) [15], oA 5 16 []]))))))
 (.seq (.region [xo 4 (.assign xT) []])
 (.ret))))
theorem ams : Try.f126.body.map (strip (tab.ann 126)) = some awf := by kernel_rfl
def c127 : XC :=
 .seq (.region [xo 2 (.assign (xi .i64 0)) []])
 (.seq (.region [oM 5 0 [], xo 6 (xb .len [5] [123]) [5], oA 3 6 []])
 (.seq (.seq (.region [xo 4 (.assign (xi .i64 0)) []])
 (.block 0 (.loop (.seq (.seq (.dF [oM 7 4 [], oM 8 0 [], xo 9 (xb .len [8] [123]) [8], xo 10 (.binOp .lss 3 (xt 7) (xt 9) 3) [7,9], oM 11 10 [10], gM 12 3 11 true [], xg 13 (.binOp .leq 3 (xt 12) (xi .i64 1048576) 3) 11 true [12], xo 14 (.pick (xt 11) (xt 13) xF) []])
 (.cond 14 (.skip) (.exit 0)))
 (.seq (.block 1 (.region [oM 17 3 [], oM 18 0 [], oM 19 4 [], oI 20 123 18 19 [18,19], oL 21 126 20 [20], xo 22 (xc 119 [21] [126]) [21], xo 23 (.binOp .add 3 (xt 17) (xt 22) 3) [17,22], oA 3 23 []]))
 (.region [oM 15 4 [], xo 16 (.binOp .add 3 (xt 15) (xi .i64 1) 3) [15], oA 4 16 []]))))))
 (.seq (.region [oM 24 3 [], oA 2 24 []])
 (.ret))))
theorem amt : Try.f127.body.map (strip (tab.ann 127)) = some c127 := by kernel_rfl
def awg : XC :=
 .seq (.region [xo 2 (.assign (xi .i64 0)) []])
 (.seq (.region [oM 5 0 [], xo 6 (xb .len [5] [124]) [5], oA 3 6 []])
 (.seq (.seq (.region [xo 4 (.assign (xi .i64 0)) []])
 (.block 0 (.loop (.seq (.seq (.dF [oM 7 4 [], oM 8 0 [], xo 9 (xb .len [8] [124]) [8], xo 10 (.binOp .lss 3 (xt 7) (xt 9) 3) [7,9], oM 11 10 [10], gM 12 3 11 true [], xg 13 (.binOp .leq 3 (xt 12) (xi .i64 1048576) 3) 11 true [12], xo 14 (.pick (xt 11) (xt 13) xF) []])
 (.cond 14 (.skip) (.exit 0)))
 (.seq (.block 1 (.region [oM 17 3 [], oM 18 0 [], oM 19 4 [], oI 20 124 18 19 [18,19], oL 21 9 20 [20], xo 22 (xb .len [21] [9]) [21], xo 23 (.binOp .add 3 (xt 17) (xt 22) 3) [17,22], oA 3 23 []]))
 (.region [oM 15 4 [], xo 16 (.binOp .add 3 (xt 15) (xi .i64 1) 3) [15], oA 4 16 []]))))))
 (.seq (.region [oM 24 3 [], oA 2 24 []])
 (.ret))))
theorem amu : Try.f128.body.map (strip (tab.ann 128)) = some awg := by kernel_rfl
def c131 : XC :=
 .seq (.region [xo 4 (.assign (.const (.slice none 0 0))) []])
 (.seq (.region [oM 8 0 [0], xo 9 (xc 132 [8] [123]) [8], oA 5 9 []])
 (.seq (.seq (.region [oM 10 5 [], xo 11 (xb .len [10] [123]) [], xo 12 (.move (xi .i64 0)) []])
 (.block 0 (.loop (.seq (.region [xo 13 (.binOp .lss 3 (xt 12) (xt 11) 3) []])
 (.seq (.cond 13 (.skip) (.exit 0))
 (.seq (.block 1 (.seq (.region [oM 14 12 [], oI 15 123 10 12 [], oL 16 126 15 [15], xo 7 (.alloc 126) [], oA 6 14 [14], xn (.store 126 (xt 7) (xt 16))])
 (.region [oM 17 5 [], oM 18 6 [], oM 19 1 [], oL 20 126 7 [], xo 21 (.call { callee := (.value (xt 19)), args := #[(xt 20)], argTypes := #[126] }) [19,20], oI 22 123 17 18 [17,18], xn (.store 126 (xt 22) (xt 21))])))
 (.region [xo 23 (.binOp .add 3 (xt 12) (xi .i64 1) 3) [], oM 12 23 []])))))))
 (.seq (.region [oM 24 5 [], oA 4 24 []])
 (.ret))))
theorem adx : Try.f131.body.map (strip (tab.ann 131)) = some c131 := by kernel_rfl
def asz : XC :=
 .seq (.region [xo 2 (.assign (.const (.slice none 0 0))) []])
 (.seq (.seq (.dF [oM 3 0 [], xo 4 (.binOp .eql 123 (xt 3) (.const (.slice none 0 0)) 123) []])
 (.cond 4 (.seq (.region [xo 2 (.assign (.const (.slice none 0 0))) []])
 (.ret)) (.skip)))
 (.seq (.dF [xo 5 (.buildSlice 123 0 #[]) [], oM 6 0 [0], xo 7 (xb .append [5,6] [123,123]) [5,6], oA 2 7 []])
 (.ret)))
theorem ady : Try.f132.body.map (strip (tab.ann 132)) = some asz := by kernel_rfl
end Go.Proofs.Ytedfkehkcaaplaa
