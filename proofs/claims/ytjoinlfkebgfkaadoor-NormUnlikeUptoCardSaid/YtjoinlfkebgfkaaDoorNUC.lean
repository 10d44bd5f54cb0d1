/- The code of the functions, as little of it as is needed: printed by a small program, held against the loaded program by evaluation. -/
import Derived.Test.YtjoinlfkebgfkaaDoorXTabNU
namespace Go.Proofs.YtjoinlfkebgfkaaDoor
open Go Go.X
set_option linter.unusedVariables false
set_option linter.unusedSimpArgs false
set_option maxRecDepth 100000
def c3 : XC :=
  .seq (.region [xo 2 (.assign (.const (.bool false))) []])
 (.seq (.seq (.regionG [xo 7 (xc 6 [] []) [], xo 8 (.unOp .not 4 (xt 7)) [7], xo 9 (.move (xt 8)) [8], xg 10 (.move (xt 0)) 9 false [], xg 11 (xc 8 [10] [22]) 9 false [10], xg 12 (.buildSlice 41 1 #[(0, (xt 11))]) 9 false [11], xg 13 (xc 7 [12] [41]) 9 false [12], xo 14 (.pick (xt 9) (.const (.bool true)) (xt 13)) []])
 (.cond 14 (.seq (.region [xo 15 (xc 6 [] []) [], xo 2 (.assign (xt 15)) []])
 (.ret)) (.skip)))
 (.seq (.region [xo 16 (.move (xt 0)) [], xo 17 (xc 9 [16] [22]) [16], xo 3 (.assign (xt 17)) []])
 (.seq (.seq (.region [xo 18 (.move (xt 3)) [], xo 19 (xb .len [18] [26]) [18], xo 20 (.binOp .gtr 3 (xt 19) (.const (.int .i64 4096)) 3) []])
 (.cond 20 (.seq (.region [xo 2 (.assign (.const (.bool false))) []])
 (.ret)) (.skip)))
 (.seq (.seq (.region [xo 4 (.assign (.const (.int .i64 0))) []])
 (.block 0 (.loop (.seq (.seq (.region [xo 21 (.move (xt 4)) [], xo 22 (.move (xt 3)) [], xo 23 (xb .len [22] [26]) [22], xo 24 (.binOp .lss 3 (xt 21) (xt 23) 3) []])
 (.cond 24 (.skip) (.exit 0)))
 (.seq (.block 1 (.seq (.region [xo 27 (.move (xt 3)) [], xo 28 (.move (xt 4)) [], xo 29 (.indexAddr 26 (xt 27) (xt 28)) [27,28], xo 30 (.fieldAddr 34 (xt 29) 0) [29], xo 31 (.load 9 (xt 30)) [30], xo 5 (.assign (xt 31)) []])
 (.seq (.seq (.regionG [xo 32 (.move (xt 5)) [], xo 33 (xb .len [32] [9]) [32], xo 34 (.binOp .lss 3 (xt 33) (.const (.int .i64 2)) 3) [33], xo 35 (.move (xt 34)) [34], xg 36 (.move (xt 5)) 35 false [], xg 37 (.slice 9 (xt 36) none (some (.const (.int .i64 2))) none) 35 false [36], xg 38 (.binOp .neq 9 (xt 37) (.const (.string { data := #[107, 58] })) 9) 35 false [37], xg 39 (.move (xt 38)) 35 false [38], xg 40 (.move (xt 5)) 39 true [], xg 41 (.slice 9 (xt 40) none (some (.const (.int .i64 2))) none) 39 true [40], xg 42 (.binOp .neq 9 (xt 41) (.const (.string { data := #[105, 58] })) 9) 39 true [41], xg 43 (.pick (xt 39) (xt 42) (.const (.bool false))) 35 false [39,42], xo 44 (.pick (xt 35) (.const (.bool true)) (xt 43)) [35,43], xo 45 (.move (xt 44)) [44], xg 46 (.move (xt 3)) 45 false [], xg 47 (.move (xt 4)) 45 false [], xg 48 (.indexAddr 26 (xt 46) (xt 47)) 45 false [46,47], xg 49 (.fieldAddr 34 (xt 48) 1) 45 false [48], xg 50 (.load 28 (xt 49)) 45 false [49], xg 51 (.binOp .eql 28 (xt 50) (.const (.int .u8 0)) 28) 45 false [50], xo 52 (.pick (xt 45) (.const (.bool true)) (xt 51)) [45,51], xo 53 (.move (xt 52)) [52], xg 54 (.move (xt 3)) 53 false [], xg 55 (.move (xt 4)) 53 false [], xg 56 (.indexAddr 26 (xt 54) (xt 55)) 53 false [54,55], xg 57 (.fieldAddr 34 (xt 56) 1) 53 false [56], xg 58 (.load 28 (xt 57)) 53 false [57], xg 59 (.binOp .gtr 28 (xt 58) (.const (.int .u8 9)) 28) 53 false [58], xo 60 (.pick (xt 53) (.const (.bool true)) (xt 59)) [53,59], xo 61 (.move (xt 60)) [60], xg 62 (.move (xt 3)) 61 false [], xg 63 (.move (xt 4)) 61 false [], xg 64 (.indexAddr 26 (xt 62) (xt 63)) 61 false [62,63], xg 65 (.fieldAddr 34 (xt 64) 1) 61 false [64], xg 66 (.load 28 (xt 65)) 61 false [65], xg 67 (.binOp .eql 28 (xt 66) (.const (.int .u8 9)) 28) 61 false [66], xg 68 (.move (xt 67)) 61 false [67], xg 69 (.move (xt 3)) 68 true [], xg 70 (.move (xt 4)) 68 true [], xg 71 (.indexAddr 26 (xt 69) (xt 70)) 68 true [69,70], xg 72 (.fieldAddr 34 (xt 71) 2) 68 true [71], xg 73 (.load 9 (xt 72)) 68 true [72], xg 74 (.binOp .neq 9 (xt 73) (.const (.string { data := #[] })) 9) 68 true [73], xg 75 (.pick (xt 68) (xt 74) (.const (.bool false))) 61 false [68,74], xo 76 (.pick (xt 61) (.const (.bool true)) (xt 75)) []])
 (.cond 76 (.seq (.region [xo 2 (.assign (.const (.bool false))) []])
 (.ret)) (.skip)))
 (.seq (.region [xo 6 (.assign (.const (.int .i64 0))) []])
 (.block 2 (.loop (.seq (.seq (.regionG [xo 77 (.move (xt 6)) [], xo 78 (.move (xt 4)) [], xo 79 (.binOp .lss 3 (xt 77) (xt 78) 3) [77,78], xo 80 (.move (xt 79)) [79], xg 81 (.move (xt 4)) 80 true [], xg 82 (.binOp .lss 3 (xt 81) (.const (.int .i64 400)) 3) 80 true [81], xo 83 (.pick (xt 80) (xt 82) (.const (.bool false))) []])
 (.cond 83 (.skip) (.exit 2)))
 (.seq (.block 3 (.seq (.region [xo 86 (.move (xt 3)) [], xo 87 (.move (xt 6)) [], xo 88 (.indexAddr 26 (xt 86) (xt 87)) [86,87], xo 89 (.fieldAddr 34 (xt 88) 0) [88], xo 90 (.load 9 (xt 89)) [89], xo 91 (.move (xt 5)) [], xo 92 (.binOp .eql 9 (xt 90) (xt 91) 9) []])
 (.cond 92 (.seq (.region [xo 2 (.assign (.const (.bool false))) []])
 (.ret)) (.skip))))
 (.region [xo 84 (.move (xt 6)) [], xo 85 (.binOp .add 3 (xt 84) (.const (.int .i64 1)) 3) [84], xo 6 (.assign (xt 85)) []])))))))))
 (.region [xo 25 (.move (xt 4)) [], xo 26 (.binOp .add 3 (xt 25) (.const (.int .i64 1)) 3) [25], xo 4 (.assign (xt 26)) []]))))))
 (.seq (.region [xo 2 (.assign (.const (.bool true))) []])
 (.ret))))))
theorem c3_ok : Tryd.f3.body.map (strip (tab.ann 3)) = some c3 := by kernel_rfl
def c4 : XC :=
  .seq (.region [xo 6 (.assign (.const (.bool false))) []])
 (.seq (.seq (.regionG [xo 12 (xc 6 [] []) [], xo 13 (.unOp .not 4 (xt 12)) [12], xo 14 (.move (xt 13)) [13], xg 15 (.move (xt 0)) 14 false [], xg 16 (xc 8 [15] [22]) 14 false [15], xg 17 (.buildSlice 41 1 #[(0, (xt 16))]) 14 false [16], xg 18 (xc 7 [17] [41]) 14 false [17], xo 19 (.pick (xt 14) (.const (.bool true)) (xt 18)) []])
 (.cond 19 (.seq (.region [xo 20 (xc 6 [] []) [], xo 6 (.assign (xt 20)) []])
 (.ret)) (.skip)))
 (.seq (.region [xo 21 (.move (xt 1)) [], xo 22 (.convert 5 3 (xt 21)) [21], xo 23 (.move (xt 0)) [], xo 24 (xb .len [23] [22]) [23], xo 25 (.binOp .add 3 (xt 24) (.const (.int .i64 1)) 3) [24], xo 26 (.binOp .rem 3 (xt 22) (xt 25) 3) [22,25], xo 7 (.assign (xt 26)) []])
 (.seq (.region [xo 27 (.move (xt 7)) [], xo 28 (.move (xt 2)) [], xo 29 (.convert 5 3 (xt 28)) [28], xo 30 (.move (xt 0)) [], xo 31 (xb .len [30] [22]) [30], xo 32 (.move (xt 7)) [], xo 33 (.binOp .sub 3 (xt 31) (xt 32) 3) [31,32], xo 34 (.binOp .add 3 (xt 33) (.const (.int .i64 1)) 3) [33], xo 35 (.binOp .rem 3 (xt 29) (xt 34) 3) [29,34], xo 36 (.binOp .add 3 (xt 27) (xt 35) 3) [27,35], xo 8 (.assign (xt 36)) []])
 (.seq (.region [xo 9 (.assign (.const (.slice none 0 0))) []])
 (.seq (.regionG [xo 37 (.move (xt 9)) [], xo 38 (.move (xt 0)) [], xo 39 (.move (xt 7)) [], xo 40 (.slice 22 (xt 38) none (some (xt 39)) none) [38,39], xo 41 (xb .append [37,40] [22,22]) [37,40], xo 9 (.assign (xt 41)) []])
 (.seq (.regionG [xo 42 (.move (xt 9)) [], xo 43 (.move (xt 0)) [], xo 44 (.move (xt 7)) [], xo 45 (.move (xt 8)) [], xo 46 (.slice 22 (xt 43) (some (xt 44)) (some (xt 45)) none) [43,44,45], xo 47 (.build 32 #[(0, (.const (.int .u8 4))), (3, (xt 46))]) [46], xo 48 (.buildSlice 22 1 #[(0, (xt 47))]) [47], xo 49 (xb .append [42,48] [22,22]) [42,48], xo 9 (.assign (xt 49)) []])
 (.seq (.regionG [xo 50 (.move (xt 9)) [], xo 51 (.move (xt 0)) [], xo 52 (.move (xt 8)) [], xo 53 (.slice 22 (xt 51) (some (xt 52)) none none) [51,52], xo 54 (xb .append [50,53] [22,22]) [50,53], xo 9 (.assign (xt 54)) []])
 (.seq (.region [xo 55 (.move (xt 9)) [], xo 56 (.build 32 #[(0, (.const (.int .u8 4))), (3, (xt 55))]) [55], xo 57 (.buildSlice 22 1 #[(0, (xt 56))]) [56], xo 58 (.build 32 #[(0, (.const (.int .u8 4))), (3, (xt 57))]) [57], xo 59 (.buildSlice 22 1 #[(0, (xt 58))]) [58], xo 10 (.assign (xt 59)) []])
 (.seq (.region [xo 60 (.move (xt 0)) [], xo 61 (xc 9 [60] [22]) [60], xo 11 (.assign (xt 61)) []])
 (.seq (.regionG [xo 62 (.move (xt 9)) [], xo 63 (xc 9 [62] [22]) [62], xo 64 (.move (xt 11)) [], xo 65 (xc 10 [63,64] [26,26]) [63,64], xo 66 (.move (xt 65)) [65], xg 67 (.move (xt 10)) 66 true [], xg 68 (xc 9 [67] [22]) 66 true [67], xg 69 (.move (xt 11)) 66 true [], xg 70 (xc 10 [68,69] [26,26]) 66 true [68,69], xo 71 (.pick (xt 66) (xt 70) (.const (.bool false))) [66,70], xo 6 (.assign (xt 71)) []])
 (.ret)))))))))))
theorem c4_ok : Tryd.f4.body.map (strip (tab.ann 4)) = some c4 := by kernel_rfl
def c7 : XC :=
  .seq (.region [xo 2 (.assign (.const (.bool false))) []])
 (.seq (.region [xo 3 (.assign (.const (.int .i64 0))) []])
 (.seq (.seq (.region [xo 4 (.assign (.const (.int .i64 0))) []])
 (.block 0 (.loop (.seq (.seq (.region [xo 5 (.move (xt 4)) [], xo 6 (.move (xt 0)) [], xo 7 (xb .len [6] [41]) [6], xo 8 (.binOp .lss 3 (xt 5) (xt 7) 3) []])
 (.cond 8 (.skip) (.exit 0)))
 (.seq (.block 1 (.seq (.region [xo 11 (.move (xt 3)) [], xo 12 (.move (xt 0)) [], xo 13 (.move (xt 4)) [], xo 14 (.indexAddr 41 (xt 12) (xt 13)) [12,13], xo 15 (.load 3 (xt 14)) [14], xo 16 (.binOp .add 3 (xt 11) (xt 15) 3) [11,15], xo 3 (.assign (xt 16)) []])
 (.seq (.region [xo 17 (.move (xt 3)) [], xo 18 (.binOp .gtr 3 (xt 17) (.const (.int .i64 1048576)) 3) []])
 (.cond 18 (.seq (.region [xo 2 (.assign (.const (.bool true))) []])
 (.ret)) (.skip)))))
 (.region [xo 9 (.move (xt 4)) [], xo 10 (.binOp .add 3 (xt 9) (.const (.int .i64 1)) 3) [9], xo 4 (.assign (xt 10)) []]))))))
 (.seq (.region [xo 2 (.assign (.const (.bool false))) []])
 (.ret))))
theorem c7_ok : Tryd.f7.body.map (strip (tab.ann 7)) = some c7 := by kernel_rfl
def c8 : XC :=
  .seq (.region [xo 2 (.assign (.const (.int .i64 0))) []])
 (.seq (.region [xo 5 (.move (xt 0)) [], xo 6 (xb .len [5] [22]) [5], xo 3 (.assign (xt 6)) []])
 (.seq (.seq (.region [xo 4 (.assign (.const (.int .i64 0))) []])
 (.block 0 (.loop (.seq (.seq (.regionG [xo 7 (.move (xt 4)) [], xo 8 (.move (xt 0)) [], xo 9 (xb .len [8] [22]) [8], xo 10 (.binOp .lss 3 (xt 7) (xt 9) 3) [7,9], xo 11 (.move (xt 10)) [10], xg 12 (.move (xt 3)) 11 true [], xg 13 (.binOp .leq 3 (xt 12) (.const (.int .i64 1048576)) 3) 11 true [12], xo 14 (.pick (xt 11) (xt 13) (.const (.bool false))) []])
 (.cond 14 (.skip) (.exit 0)))
 (.seq (.block 1 (.region [xo 17 (.move (xt 3)) [], xo 18 (.move (xt 0)) [], xo 19 (.move (xt 4)) [], xo 20 (.indexAddr 22 (xt 18) (xt 19)) [18,19], xo 21 (.load 32 (xt 20)) [20], xo 22 (xc 13 [21] [32]) [21], xo 23 (.binOp .add 3 (xt 17) (xt 22) 3) [17,22], xo 3 (.assign (xt 23)) []]))
 (.region [xo 15 (.move (xt 4)) [], xo 16 (.binOp .add 3 (xt 15) (.const (.int .i64 1)) 3) [15], xo 4 (.assign (xt 16)) []]))))))
 (.seq (.region [xo 24 (.move (xt 3)) [], xo 2 (.assign (xt 24)) []])
 (.ret))))
theorem c8_ok : Tryd.f8.body.map (strip (tab.ann 8)) = some c8 := by kernel_rfl
def cs70a : XC :=
  .seq (.region [xo 4 (.assign (xt 10)) []])
 (.region [xo 5 (.alloc 32) [], xn (.store 32 (xt 5) (xt 11))])
def cs70b : XC :=
  .block 1 (.seq (.seq (.region [xo 12 (.load 26 (xt 2)) [], xo 13 (xb .len [12] [26]) [12], xo 14 (.binOp .eql 3 (xt 13) (.const (.int .i64 4096)) 3) []])
 (.cond 14 (.exit 0) (.skip)))
 (.seq (.region [xo 6 (.alloc 34) []])
 (.seq (.block 2 (.seq (.region [xo 16 (.fieldAddr 32 (xt 5) 0) [], xo 17 (.load 29 (xt 16)) [16], xo 18 (.binOp .eql 29 (xt 17) (.const (.int .u8 1)) 29) [17], xo 15 (.assign (xt 18)) []])
 (.cond 15 (.region [xo 19 (.fieldAddr 32 (xt 5) 1) [], xo 20 (.load 2 (xt 19)) [19], xo 21 (.call { callee := (.value (.func 16)), args := #[(xt 20), (.const (.int .i64 10))], argTypes := #[2, 3] }) [20], xo 22 (xc 15 [21] [9]) [21], xn (.store 34 (xt 6) (xt 22))]) (.seq (.region [xo 24 (.fieldAddr 32 (xt 5) 0) [], xo 25 (.load 29 (xt 24)) [24], xo 26 (.binOp .eql 29 (xt 25) (.const (.int .u8 3)) 29) [25], xo 23 (.assign (xt 26)) []])
 (.cond 23 (.region [xo 27 (.fieldAddr 32 (xt 5) 2) [], xo 28 (.load 9 (xt 27)) [27], xo 29 (xc 15 [28] [9]) [28], xn (.store 34 (xt 6) (xt 29))]) (.seq (.regionG [xo 31 (.fieldAddr 32 (xt 5) 0) [], xo 32 (.load 29 (xt 31)) [31], xo 33 (.binOp .eql 29 (xt 32) (.const (.int .u8 6)) 29) [32], xo 34 (.move (xt 33)) [33], xg 35 (.fieldAddr 32 (xt 5) 5) 34 true [], xg 36 (.load 28 (xt 35)) 34 true [35], xg 37 (.binOp .gtr 28 (xt 36) (.const (.int .u8 0)) 28) 34 true [36], xo 38 (.pick (xt 34) (xt 37) (.const (.bool false))) [34,37], xo 39 (.move (xt 38)) [38], xg 40 (.fieldAddr 32 (xt 5) 5) 39 true [], xg 41 (.load 28 (xt 40)) 39 true [40], xg 42 (.binOp .lss 28 (xt 41) (.const (.int .u8 9)) 28) 39 true [41], xo 43 (.pick (xt 39) (xt 42) (.const (.bool false))) [39,42], xo 30 (.assign (xt 43)) []])
 (.cond 30 (.region [xo 44 (.fieldAddr 32 (xt 5) 5) [], xo 45 (.load 28 (xt 44)) [], xo 46 (.fieldAddr 32 (xt 5) 2) [], xo 47 (.load 9 (xt 46)) [], xo 48 (.load 32 (xt 5)) [], xk 49 (xc 17 [48] [32]) [], xo 50 (.build 34 #[(1, (xt 45)), (2, (xt 47)), (3, (xt 49))]) [], xn (.store 34 (xt 6) (xt 50))]) (.exit 1))))))))
 (.seq (.region [xo 51 (.move (xt 4)) [], xo 52 (xc 18 [51] [3]) [51], xo 53 (.binOp .add 9 (.const (.string { data := #[105, 58] })) (xt 52) 9) [52], xo 54 (.fieldAddr 34 (xt 6) 0) [], xn (.store 9 (xt 54) (xt 53))])
 (.seq (.seq (.regionG [xo 55 (.fieldAddr 32 (xt 5) 0) [], xo 56 (.load 29 (xt 55)) [55], xo 57 (.binOp .eql 29 (xt 56) (.const (.int .u8 6)) 29) [56], xo 58 (.move (xt 57)) [57], xg 59 (.fieldAddr 32 (xt 5) 7) 58 true [], xg 60 (.load 4 (xt 59)) 58 true [59], xo 61 (.pick (xt 58) (xt 60) (.const (.bool false))) [58,60], xo 62 (.move (xt 61)) [61], xg 63 (.load 43 (xt 3)) 62 true [], xg 64 (.fieldAddr 32 (xt 5) 6) 62 true [], xg 65 (.load 9 (xt 64)) 62 true [64], xg 66 (.lookup 43 (xt 63) (xt 65) false) 62 true [63,65], xg 67 (.unOp .not 4 (xt 66)) 62 true [66], xo 68 (.pick (xt 62) (xt 67) (.const (.bool false))) []])
 (.cond 68 (.seq (.region [xo 69 (.load 43 (xt 3)) [], xo 70 (.fieldAddr 32 (xt 5) 6) [], xo 71 (.load 9 (xt 70)) [70], xn (.mapUpdate 43 (xt 69) (xt 71) (.const (.bool true)))])
 (.region [xo 72 (.fieldAddr 32 (xt 5) 6) [], xo 73 (.load 9 (xt 72)) [72], xo 74 (.binOp .add 9 (.const (.string { data := #[107, 58] })) (xt 73) 9) [73], xo 75 (.fieldAddr 34 (xt 6) 0) [], xn (.store 9 (xt 75) (xt 74))])) (.skip)))
 (.regionG [xo 76 (.load 26 (xt 2)) [], xo 77 (.load 34 (xt 6)) [], xo 78 (.buildSlice 26 1 #[(0, (xt 77))]) [77], xo 79 (xb .append [76,78] [26,26]) [76,78], xn (.store 26 (xt 2) (xt 79))]))))))
theorem cs70_ok : (Sites.site 70).map (fun q => (q.own, q.ps, strip (tab.ann q.own) q.asg, strip (tab.ann q.own) q.body)) = some (9, [10, 11], cs70a, cs70b) := by kernel_rfl
def c9 : XC :=
  .seq (.region [xo 2 (.alloc 26) []])
 (.seq (.region [xo 7 (.makeMap 43 none) [], xo 3 (.alloc 43) [], xn (.store 43 (xt 3) (xt 7))])
 (.seq (.seq (.region [xo 8 (.move (xt 0)) [], xo 9 (xc 14 [8] [22]) []])
 (.block 0 (.rng 9)))
 (.seq (.region [xo 80 (.load 26 (xt 2)) [], xn (.store 26 (xt 2) (xt 80))])
 (.ret))))
theorem c9_ok : Tryd.f9.body.map (strip (tab.ann 9)) = some c9 := by kernel_rfl
def c10 : XC :=
  .seq (.region [xo 4 (.assign (.const (.bool false))) []])
 (.seq (.seq (.region [xo 6 (.move (xt 0)) [], xo 7 (xb .len [6] [26]) [6], xo 8 (.move (xt 1)) [], xo 9 (xb .len [8] [26]) [8], xo 10 (.binOp .neq 3 (xt 7) (xt 9) 3) []])
 (.cond 10 (.seq (.region [xo 4 (.assign (.const (.bool false))) []])
 (.ret)) (.skip)))
 (.seq (.seq (.region [xo 5 (.assign (.const (.int .i64 0))) []])
 (.block 0 (.loop (.seq (.seq (.region [xo 11 (.move (xt 5)) [], xo 12 (.move (xt 0)) [], xo 13 (xb .len [12] [26]) [12], xo 14 (.binOp .lss 3 (xt 11) (xt 13) 3) []])
 (.cond 14 (.skip) (.exit 0)))
 (.seq (.block 1 (.seq (.region [xo 17 (.move (xt 0)) [], xo 18 (.move (xt 5)) [], xo 19 (.indexAddr 26 (xt 17) (xt 18)) [], xo 20 (.load 34 (xt 19)) [], xo 21 (.move (xt 1)) [], xo 22 (.move (xt 5)) [], xo 23 (.indexAddr 26 (xt 21) (xt 22)) [], xo 24 (.load 34 (xt 23)) [], xo 25 (xc 19 [20,24] [34,34]) [], xo 26 (.unOp .not 4 (xt 25)) []])
 (.cond 26 (.seq (.region [xo 4 (.assign (.const (.bool false))) []])
 (.ret)) (.skip))))
 (.region [xo 15 (.move (xt 5)) [], xo 16 (.binOp .add 3 (xt 15) (.const (.int .i64 1)) 3) [15], xo 5 (.assign (xt 16)) []]))))))
 (.seq (.region [xo 4 (.assign (.const (.bool true))) []])
 (.ret))))
theorem c10_ok : Tryd.f10.body.map (strip (tab.ann 10)) = some c10 := by kernel_rfl
def c13 : XC :=
  .seq (.region [xo 1 (.box 32 (xt 0)) [], xo 2 (.assign (.const (.int .i64 0))) []])
 (.seq (.region [xo 4 (.fieldAddr 32 (xt 1) 2) [], xo 5 (.load 9 (xt 4)) [4], xo 6 (xb .len [5] [9]) [5], xo 7 (.binOp .add 3 (.const (.int .i64 1)) (xt 6) 3) [6], xo 8 (.fieldAddr 32 (xt 1) 6) [], xo 9 (.load 9 (xt 8)) [8], xo 10 (xb .len [9] [9]) [9], xo 11 (.binOp .add 3 (xt 7) (xt 10) 3) [7,10], xo 3 (.assign (xt 11)) []])
 (.seq (.seq (.region [xo 12 (.move (xt 3)) [], xo 13 (.binOp .leq 3 (xt 12) (.const (.int .i64 1048576)) 3) []])
 (.cond 13 (.region [xo 14 (.move (xt 3)) [], xo 15 (.fieldAddr 32 (xt 1) 3) [], xo 16 (.load 22 (xt 15)) [15], xo 17 (xc 8 [16] [22]) [16], xo 18 (.binOp .add 3 (xt 14) (xt 17) 3) [14,17], xo 3 (.assign (xt 18)) []]) (.skip)))
 (.seq (.seq (.region [xo 19 (.move (xt 3)) [], xo 20 (.binOp .leq 3 (xt 19) (.const (.int .i64 1048576)) 3) []])
 (.cond 20 (.region [xo 21 (.move (xt 3)) [], xo 22 (.fieldAddr 32 (xt 1) 4) [], xo 23 (.load 30 (xt 22)) [22], xo 24 (xc 20 [23] [30]) [23], xo 25 (.binOp .add 3 (xt 21) (xt 24) 3) [21,24], xo 3 (.assign (xt 25)) []]) (.skip)))
 (.seq (.region [xo 26 (.move (xt 3)) [], xo 2 (.assign (xt 26)) []])
 (.ret)))))
theorem c13_ok : Tryd.f13.body.map (strip (tab.ann 13)) = some c13 := by kernel_rfl
def c14 : XC :=
  .seq (.region [xo 1 (.box 22 (xt 0)) [], xo 2 (.assign (.const .nilFunc)) []])
 (.seq (.region [xo 3 (.makeFunc (.func 21) #[] #[(xt 1)]) [], xo 2 (.assign (xt 3)) []])
 (.ret))
theorem c14_ok : Tryd.f14.body.map (strip (tab.ann 14)) = some c14 := by kernel_rfl
def c15 : XC :=
  .seq (.region [xo 2 (.alloc 34) []])
 (.seq (.region [xo 3 (.move (xt 0)) [], xo 4 (.build 32 #[(0, (.const (.int .u8 3))), (2, (xt 3))]) [3], xo 5 (.build 34 #[(1, (.const (.int .u8 9))), (3, (xt 4))]) [4], xn (.store 34 (xt 2) (xt 5))])
 (.ret))
theorem c15_ok : Tryd.f15.body.map (strip (tab.ann 15)) = some c15 := by kernel_rfl
def c16 : XC :=
  .seq (.region [xo 4 (.assign (.const (.string { data := #[] }))) []])
 (.seq (.region [xo 5 (.move (xt 0)) [], xo 6 (.move (xt 1)) [], xo 7 (xc 23 [5,6] [2,3]) [5,6], xo 4 (.assign (xt 7)) []])
 (.ret))
theorem c16_ok : Tryd.f16.body.map (strip (tab.ann 16)) = some c16 := by kernel_rfl
def c17 : XC :=
  .seq (.region [xo 1 (.box 32 (xt 0)) [], xo 2 (.alloc 32) []])
 (.seq (.region [xo 3 (.fieldAddr 32 (xt 1) 3) [], xo 4 (.load 22 (xt 3)) [], xk 5 (xc 24 [4] [22]) [], xo 6 (.fieldAddr 32 (xt 1) 4) [], xo 7 (.load 30 (xt 6)) [], xk 8 (xc 25 [7] [30]) [], xo 9 (.fieldAddr 32 (xt 1) 3) [], xn (.store 22 (xt 9) (xt 5)), xo 10 (.fieldAddr 32 (xt 1) 4) [], xn (.store 30 (xt 10) (xt 8))])
 (.seq (.region [xo 11 (.load 32 (xt 1)) [], xn (.store 32 (xt 2) (xt 11))])
 (.ret)))
theorem c17_ok : Tryd.f17.body.map (strip (tab.ann 17)) = some c17 := by kernel_rfl
def c18 : XC :=
  .seq (.region [xo 2 (.assign (.const (.string { data := #[] }))) []])
 (.seq (.region [xo 3 (.move (xt 0)) [], xo 4 (xc 26 [3] [3]) [3], xo 2 (.assign (xt 4)) []])
 (.ret))
theorem c18_ok : Tryd.f18.body.map (strip (tab.ann 18)) = some c18 := by kernel_rfl
def c19 : XC :=
  .seq (.region [xo 2 (.box 34 (xt 0)) [], xo 3 (.box 34 (xt 1)) [], xo 4 (.assign (.const (.bool false))) []])
 (.seq (.regionG [xo 5 (.fieldAddr 34 (xt 2) 0) [], xo 6 (.load 9 (xt 5)) [5], xo 7 (.fieldAddr 34 (xt 3) 0) [], xo 8 (.load 9 (xt 7)) [7], xo 9 (.binOp .eql 9 (xt 6) (xt 8) 9) [6,8], xo 10 (.move (xt 9)) [9], xg 11 (.fieldAddr 34 (xt 2) 1) 10 true [], xg 12 (.load 28 (xt 11)) 10 true [11], xg 13 (.fieldAddr 34 (xt 3) 1) 10 true [], xg 14 (.load 28 (xt 13)) 10 true [13], xg 15 (.binOp .eql 28 (xt 12) (xt 14) 28) 10 true [12,14], xo 16 (.pick (xt 10) (xt 15) (.const (.bool false))) [10,15], xo 17 (.move (xt 16)) [16], xg 18 (.fieldAddr 34 (xt 2) 2) 17 true [], xg 19 (.load 9 (xt 18)) 17 true [18], xg 20 (.fieldAddr 34 (xt 3) 2) 17 true [], xg 21 (.load 9 (xt 20)) 17 true [20], xg 22 (.binOp .eql 9 (xt 19) (xt 21) 9) 17 true [19,21], xo 23 (.pick (xt 17) (xt 22) (.const (.bool false))) [17,22], xo 24 (.move (xt 23)) [23], xg 25 (.fieldAddr 34 (xt 2) 3) 24 true [], xg 26 (.load 32 (xt 25)) 24 true [25], xg 27 (.fieldAddr 34 (xt 3) 3) 24 true [], xg 28 (.load 32 (xt 27)) 24 true [27], xg 29 (xc 27 [26,28] [32,32]) 24 true [26,28], xo 30 (.pick (xt 24) (xt 29) (.const (.bool false))) [24,29], xo 4 (.assign (xt 30)) []])
 (.ret))
theorem c19_ok : Tryd.f19.body.map (strip (tab.ann 19)) = some c19 := by kernel_rfl
def c20 : XC :=
  .seq (.region [xo 2 (.assign (.const (.int .i64 0))) []])
 (.seq (.region [xo 5 (.move (xt 0)) [], xo 6 (xb .len [5] [30]) [5], xo 3 (.assign (xt 6)) []])
 (.seq (.seq (.region [xo 4 (.assign (.const (.int .i64 0))) []])
 (.block 0 (.loop (.seq (.seq (.regionG [xo 7 (.move (xt 4)) [], xo 8 (.move (xt 0)) [], xo 9 (xb .len [8] [30]) [8], xo 10 (.binOp .lss 3 (xt 7) (xt 9) 3) [7,9], xo 11 (.move (xt 10)) [10], xg 12 (.move (xt 3)) 11 true [], xg 13 (.binOp .leq 3 (xt 12) (.const (.int .i64 1048576)) 3) 11 true [12], xo 14 (.pick (xt 11) (xt 13) (.const (.bool false))) []])
 (.cond 14 (.skip) (.exit 0)))
 (.seq (.block 1 (.region [xo 17 (.move (xt 3)) [], xo 18 (.move (xt 0)) [], xo 19 (.move (xt 4)) [], xo 20 (.indexAddr 30 (xt 18) (xt 19)) [18,19], xo 21 (.load 57 (xt 20)) [20], xo 22 (xc 28 [21] [57]) [21], xo 23 (.binOp .add 3 (xt 17) (xt 22) 3) [17,22], xo 3 (.assign (xt 23)) []]))
 (.region [xo 15 (.move (xt 4)) [], xo 16 (.binOp .add 3 (xt 15) (.const (.int .i64 1)) 3) [15], xo 4 (.assign (xt 16)) []]))))))
 (.seq (.region [xo 24 (.move (xt 3)) [], xo 2 (.assign (xt 24)) []])
 (.ret))))
theorem c20_ok : Tryd.f20.body.map (strip (tab.ann 20)) = some c20 := by kernel_rfl
def c21 : XC :=
  .seq (.region [xo 2 (.box 51 (xt 0)) []])
 (.seq (.region [xo 3 (.alloc 3) [], xn (.store 3 (xt 3) (.const (.int .i64 0)))])
 (.seq (.region [xo 4 (.alloc 35) []])
 (.seq (.region [xo 5 (.makeFunc (.func 22) #[] #[(xt 4), (xt 2), (xt 3)]) [], xn (.store 35 (xt 4) (xt 5))])
 (.region [xo 6 (.load 35 (xt 4)) [], xo 7 (.load 22 (xt 1)) [], xo 8 (.call { callee := (.value (xt 6)), args := #[(xt 7)], argTypes := #[22] }) []]))))
theorem c21_ok : Tryd.f21.body.map (strip (tab.ann 21)) = some c21 := by kernel_rfl
def c22 : XC :=
  .seq (.region [xo 5 (.assign (.const (.bool false))) []])
 (.seq (.seq (.region [xo 8 (.move (xt 0)) [], xo 9 (xb .len [8] [22]) [], xo 10 (.move (.const (.int .i64 0))) []])
 (.block 0 (.loop (.seq (.region [xo 11 (.binOp .lss 3 (xt 10) (xt 9) 3) []])
 (.seq (.cond 11 (.skip) (.exit 0))
 (.seq (.block 1 (.seq (.region [xo 12 (.indexAddr 22 (xt 8) (xt 10)) [], xo 13 (.load 32 (xt 12)) [12], xo 7 (.alloc 32) [], xn (.store 32 (xt 7) (xt 13))])
 (.seq (.seq (.region [xo 14 (.fieldAddr 32 (xt 7) 0) [], xo 15 (.load 29 (xt 14)) [14], xo 16 (.binOp .eql 29 (xt 15) (.const (.int .u8 4)) 29) []])
 (.cond 16 (.seq (.seq (.region [xo 17 (.load 35 (xt 1)) [], xo 18 (.fieldAddr 32 (xt 7) 3) [], xo 19 (.load 22 (xt 18)) [18], xo 20 (.call { callee := (.value (xt 17)), args := #[(xt 19)], argTypes := #[22] }) [17,19], xo 21 (.unOp .not 4 (xt 20)) []])
 (.cond 21 (.seq (.region [xo 5 (.assign (.const (.bool false))) []])
 (.ret)) (.skip)))
 (.exit 1)) (.skip)))
 (.seq (.seq (.region [xo 22 (.load 51 (xt 2)) [], xo 23 (.load 3 (xt 3)) [], xo 24 (.load 32 (xt 7)) [], xo 25 (.call { callee := (.value (xt 22)), args := #[(xt 23), (xt 24)], argTypes := #[3, 32] }) [22,23,24], xo 26 (.unOp .not 4 (xt 25)) []])
 (.cond 26 (.seq (.region [xo 5 (.assign (.const (.bool false))) []])
 (.ret)) (.skip)))
 (.region [xo 27 (.load 3 (xt 3)) [], xo 28 (.binOp .add 3 (xt 27) (.const (.int .i64 1)) 3) [27], xn (.store 3 (xt 3) (xt 28))])))))
 (.region [xo 29 (.binOp .add 3 (xt 10) (.const (.int .i64 1)) 3) [], xo 10 (.move (xt 29)) []])))))))
 (.seq (.region [xo 5 (.assign (.const (.bool true))) []])
 (.ret)))
theorem c22_ok : Tryd.f22.body.map (strip (tab.ann 22)) = some c22 := by kernel_rfl
def c24 : XC :=
  .seq (.region [xo 2 (.assign (.const (.slice none 0 0))) []])
 (.seq (.region [xo 3 (.move (xt 0)) [], xo 4 (.call { callee := (.value (.func 33)), args := #[(xt 3), (.func 17)], argTypes := #[22, 48] }) [3], xo 2 (.assign (xt 4)) []])
 (.ret))
theorem c24_ok : Tryd.f24.body.map (strip (tab.ann 24)) = some c24 := by kernel_rfl
def c25 : XC :=
  .seq (.region [xo 2 (.assign (.const (.slice none 0 0))) []])
 (.seq (.region [xo 3 (.move (xt 0)) [], xo 4 (.call { callee := (.value (.func 34)), args := #[(xt 3), (.func 35)], argTypes := #[30, 67] }) [3], xo 2 (.assign (xt 4)) []])
 (.ret))
theorem c25_ok : Tryd.f25.body.map (strip (tab.ann 25)) = some c25 := by kernel_rfl
def c26 : XC :=
  .seq (.region [xo 2 (.assign (.const (.string { data := #[] }))) []])
 (.seq (.region [xo 3 (.move (xt 0)) [], xo 4 (.call { callee := (.value (.func 23)), args := #[(xt 3), (.const (.int .i64 10))], argTypes := #[2, 3] }) [3], xo 2 (.assign (xt 4)) []])
 (.ret))
theorem c26_ok : Tryd.f26.body.map (strip (tab.ann 26)) = some c26 := by kernel_rfl
def c27 : XC :=
  .seq (.region [xo 2 (.box 32 (xt 0)) [], xo 3 (.box 32 (xt 1)) [], xo 4 (.assign (.const (.bool false))) []])
 (.seq (.regionG [xo 5 (.fieldAddr 32 (xt 2) 0) [], xo 6 (.load 29 (xt 5)) [5], xo 7 (.fieldAddr 32 (xt 3) 0) [], xo 8 (.load 29 (xt 7)) [7], xo 9 (.binOp .eql 29 (xt 6) (xt 8) 29) [6,8], xo 10 (.move (xt 9)) [9], xg 11 (.fieldAddr 32 (xt 2) 1) 10 true [], xg 12 (.load 2 (xt 11)) 10 true [11], xg 13 (.fieldAddr 32 (xt 3) 1) 10 true [], xg 14 (.load 2 (xt 13)) 10 true [13], xg 15 (.binOp .eql 2 (xt 12) (xt 14) 2) 10 true [12,14], xo 16 (.pick (xt 10) (xt 15) (.const (.bool false))) [10,15], xo 17 (.move (xt 16)) [16], xg 18 (.fieldAddr 32 (xt 2) 2) 17 true [], xg 19 (.load 9 (xt 18)) 17 true [18], xg 20 (.fieldAddr 32 (xt 3) 2) 17 true [], xg 21 (.load 9 (xt 20)) 17 true [20], xg 22 (.binOp .eql 9 (xt 19) (xt 21) 9) 17 true [19,21], xo 23 (.pick (xt 17) (xt 22) (.const (.bool false))) [17,22], xo 24 (.move (xt 23)) [23], xg 25 (.fieldAddr 32 (xt 2) 3) 24 true [], xg 26 (.load 22 (xt 25)) 24 true [25], xg 27 (.fieldAddr 32 (xt 3) 3) 24 true [], xg 28 (.load 22 (xt 27)) 24 true [27], xg 29 (xc 36 [26,28] [22,22]) 24 true [26,28], xo 30 (.pick (xt 24) (xt 29) (.const (.bool false))) [24,29], xo 31 (.move (xt 30)) [30], xg 32 (.fieldAddr 32 (xt 2) 4) 31 true [], xg 33 (.load 30 (xt 32)) 31 true [32], xg 34 (.fieldAddr 32 (xt 3) 4) 31 true [], xg 35 (.load 30 (xt 34)) 31 true [34], xg 36 (xc 37 [33,35] [30,30]) 31 true [33,35], xo 37 (.pick (xt 31) (xt 36) (.const (.bool false))) [31,36], xo 38 (.move (xt 37)) [37], xg 39 (.fieldAddr 32 (xt 2) 5) 38 true [], xg 40 (.load 28 (xt 39)) 38 true [39], xg 41 (.fieldAddr 32 (xt 3) 5) 38 true [], xg 42 (.load 28 (xt 41)) 38 true [41], xg 43 (.binOp .eql 28 (xt 40) (xt 42) 28) 38 true [40,42], xo 44 (.pick (xt 38) (xt 43) (.const (.bool false))) [38,43], xo 45 (.move (xt 44)) [44], xg 46 (.fieldAddr 32 (xt 2) 6) 45 true [], xg 47 (.load 9 (xt 46)) 45 true [46], xg 48 (.fieldAddr 32 (xt 3) 6) 45 true [], xg 49 (.load 9 (xt 48)) 45 true [48], xg 50 (.binOp .eql 9 (xt 47) (xt 49) 9) 45 true [47,49], xo 51 (.pick (xt 45) (xt 50) (.const (.bool false))) [45,50], xo 52 (.move (xt 51)) [51], xg 53 (.fieldAddr 32 (xt 2) 7) 52 true [], xg 54 (.load 4 (xt 53)) 52 true [53], xg 55 (.fieldAddr 32 (xt 3) 7) 52 true [], xg 56 (.load 4 (xt 55)) 52 true [55], xg 57 (.binOp .eql 4 (xt 54) (xt 56) 4) 52 true [54,56], xo 58 (.pick (xt 52) (xt 57) (.const (.bool false))) [52,57], xo 4 (.assign (xt 58)) []])
 (.ret))
theorem c27_ok : Tryd.f27.body.map (strip (tab.ann 27)) = some c27 := by kernel_rfl
def c28 : XC :=
  .seq (.region [xo 1 (.box 57 (xt 0)) [], xo 2 (.assign (.const (.int .i64 0))) []])
 (.seq (.region [xo 4 (.fieldAddr 57 (xt 1) 0) [], xo 5 (.load 9 (xt 4)) [4], xo 6 (xb .len [5] [9]) [5], xo 7 (.binOp .add 3 (.const (.int .i64 1)) (xt 6) 3) [6], xo 3 (.assign (xt 7)) []])
 (.seq (.seq (.region [xo 8 (.move (xt 3)) [], xo 9 (.binOp .leq 3 (xt 8) (.const (.int .i64 1048576)) 3) []])
 (.cond 9 (.region [xo 10 (.move (xt 3)) [], xo 11 (.fieldAddr 57 (xt 1) 1) [], xo 12 (.load 32 (xt 11)) [11], xo 13 (xc 13 [12] [32]) [12], xo 14 (.binOp .add 3 (xt 10) (xt 13) 3) [10,13], xo 3 (.assign (xt 14)) []]) (.skip)))
 (.seq (.region [xo 15 (.move (xt 3)) [], xo 2 (.assign (xt 15)) []])
 (.ret))))
theorem c28_ok : Tryd.f28.body.map (strip (tab.ann 28)) = some c28 := by kernel_rfl
def c33 : XC :=
  .seq (.region [xo 4 (.assign (.const (.slice none 0 0))) []])
 (.seq (.region [xo 8 (.move (xt 0)) [], xo 9 (xc 43 [8] [22]) [8], xo 5 (.assign (xt 9)) []])
 (.seq (.seq (.region [xo 10 (.move (xt 5)) [], xo 11 (xb .len [10] [22]) [], xo 12 (.move (.const (.int .i64 0))) []])
 (.block 0 (.loop (.seq (.region [xo 13 (.binOp .lss 3 (xt 12) (xt 11) 3) []])
 (.seq (.cond 13 (.skip) (.exit 0))
 (.seq (.block 1 (.seq (.region [xo 14 (.move (xt 12)) [], xo 15 (.indexAddr 22 (xt 10) (xt 12)) [], xo 16 (.load 32 (xt 15)) [15], xo 7 (.alloc 32) [], xo 6 (.assign (xt 14)) [14], xn (.store 32 (xt 7) (xt 16))])
 (.region [xo 17 (.move (xt 5)) [], xo 18 (.move (xt 6)) [], xo 19 (.move (xt 1)) [], xo 20 (.load 32 (xt 7)) [], xo 21 (.call { callee := (.value (xt 19)), args := #[(xt 20)], argTypes := #[32] }) [19,20], xo 22 (.indexAddr 22 (xt 17) (xt 18)) [17,18], xn (.store 32 (xt 22) (xt 21))])))
 (.region [xo 23 (.binOp .add 3 (xt 12) (.const (.int .i64 1)) 3) [], xo 12 (.move (xt 23)) []])))))))
 (.seq (.region [xo 24 (.move (xt 5)) [], xo 4 (.assign (xt 24)) []])
 (.ret))))
theorem c33_ok : Tryd.f33.body.map (strip (tab.ann 33)) = some c33 := by kernel_rfl
def c34 : XC :=
  .seq (.region [xo 4 (.assign (.const (.slice none 0 0))) []])
 (.seq (.region [xo 8 (.move (xt 0)) [], xo 9 (xc 44 [8] [30]) [8], xo 5 (.assign (xt 9)) []])
 (.seq (.seq (.region [xo 10 (.move (xt 5)) [], xo 11 (xb .len [10] [30]) [], xo 12 (.move (.const (.int .i64 0))) []])
 (.block 0 (.loop (.seq (.region [xo 13 (.binOp .lss 3 (xt 12) (xt 11) 3) []])
 (.seq (.cond 13 (.skip) (.exit 0))
 (.seq (.block 1 (.seq (.region [xo 14 (.move (xt 12)) [], xo 15 (.indexAddr 30 (xt 10) (xt 12)) [], xo 16 (.load 57 (xt 15)) [15], xo 7 (.alloc 57) [], xo 6 (.assign (xt 14)) [14], xn (.store 57 (xt 7) (xt 16))])
 (.region [xo 17 (.move (xt 5)) [], xo 18 (.move (xt 6)) [], xo 19 (.move (xt 1)) [], xo 20 (.load 57 (xt 7)) [], xo 21 (.call { callee := (.value (xt 19)), args := #[(xt 20)], argTypes := #[57] }) [19,20], xo 22 (.indexAddr 30 (xt 17) (xt 18)) [17,18], xn (.store 57 (xt 22) (xt 21))])))
 (.region [xo 23 (.binOp .add 3 (xt 12) (.const (.int .i64 1)) 3) [], xo 12 (.move (xt 23)) []])))))))
 (.seq (.region [xo 24 (.move (xt 5)) [], xo 4 (.assign (xt 24)) []])
 (.ret))))
theorem c34_ok : Tryd.f34.body.map (strip (tab.ann 34)) = some c34 := by kernel_rfl
def c35 : XC :=
  .seq (.region [xo 1 (.box 57 (xt 0)) [], xo 2 (.alloc 57) []])
 (.seq (.region [xo 3 (.fieldAddr 57 (xt 1) 0) [], xo 4 (.load 9 (xt 3)) [], xo 5 (.fieldAddr 57 (xt 1) 1) [], xo 6 (.load 32 (xt 5)) [], xk 7 (xc 17 [6] [32]) [], xo 8 (.build 57 #[(0, (xt 4)), (1, (xt 7))]) [], xn (.store 57 (xt 2) (xt 8))])
 (.ret))
theorem c35_ok : Tryd.f35.body.map (strip (tab.ann 35)) = some c35 := by kernel_rfl
def c36 : XC :=
  .seq (.region [xo 4 (.assign (.const (.bool false))) []])
 (.seq (.seq (.region [xo 6 (.move (xt 0)) [], xo 7 (xb .len [6] [22]) [6], xo 8 (.move (xt 1)) [], xo 9 (xb .len [8] [22]) [8], xo 10 (.binOp .neq 3 (xt 7) (xt 9) 3) []])
 (.cond 10 (.seq (.region [xo 4 (.assign (.const (.bool false))) []])
 (.ret)) (.skip)))
 (.seq (.seq (.region [xo 5 (.assign (.const (.int .i64 0))) []])
 (.block 0 (.loop (.seq (.seq (.region [xo 11 (.move (xt 5)) [], xo 12 (.move (xt 0)) [], xo 13 (xb .len [12] [22]) [12], xo 14 (.binOp .lss 3 (xt 11) (xt 13) 3) []])
 (.cond 14 (.skip) (.exit 0)))
 (.seq (.block 1 (.seq (.region [xo 17 (.move (xt 0)) [], xo 18 (.move (xt 5)) [], xo 19 (.indexAddr 22 (xt 17) (xt 18)) [], xo 20 (.load 32 (xt 19)) [], xo 21 (.move (xt 1)) [], xo 22 (.move (xt 5)) [], xo 23 (.indexAddr 22 (xt 21) (xt 22)) [], xo 24 (.load 32 (xt 23)) [], xo 25 (xc 27 [20,24] [32,32]) [], xo 26 (.unOp .not 4 (xt 25)) []])
 (.cond 26 (.seq (.region [xo 4 (.assign (.const (.bool false))) []])
 (.ret)) (.skip))))
 (.region [xo 15 (.move (xt 5)) [], xo 16 (.binOp .add 3 (xt 15) (.const (.int .i64 1)) 3) [15], xo 5 (.assign (xt 16)) []]))))))
 (.seq (.region [xo 4 (.assign (.const (.bool true))) []])
 (.ret))))
theorem c36_ok : Tryd.f36.body.map (strip (tab.ann 36)) = some c36 := by kernel_rfl
def c37 : XC :=
  .seq (.region [xo 4 (.assign (.const (.bool false))) []])
 (.seq (.seq (.region [xo 6 (.move (xt 0)) [], xo 7 (xb .len [6] [30]) [6], xo 8 (.move (xt 1)) [], xo 9 (xb .len [8] [30]) [8], xo 10 (.binOp .neq 3 (xt 7) (xt 9) 3) []])
 (.cond 10 (.seq (.region [xo 4 (.assign (.const (.bool false))) []])
 (.ret)) (.skip)))
 (.seq (.seq (.region [xo 5 (.assign (.const (.int .i64 0))) []])
 (.block 0 (.loop (.seq (.seq (.region [xo 11 (.move (xt 5)) [], xo 12 (.move (xt 0)) [], xo 13 (xb .len [12] [30]) [12], xo 14 (.binOp .lss 3 (xt 11) (xt 13) 3) []])
 (.cond 14 (.skip) (.exit 0)))
 (.seq (.block 1 (.seq (.region [xo 17 (.move (xt 0)) [], xo 18 (.move (xt 5)) [], xo 19 (.indexAddr 30 (xt 17) (xt 18)) [], xo 20 (.load 57 (xt 19)) [], xo 21 (.move (xt 1)) [], xo 22 (.move (xt 5)) [], xo 23 (.indexAddr 30 (xt 21) (xt 22)) [], xo 24 (.load 57 (xt 23)) [], xo 25 (xc 45 [20,24] [57,57]) [], xo 26 (.unOp .not 4 (xt 25)) []])
 (.cond 26 (.seq (.region [xo 4 (.assign (.const (.bool false))) []])
 (.ret)) (.skip))))
 (.region [xo 15 (.move (xt 5)) [], xo 16 (.binOp .add 3 (xt 15) (.const (.int .i64 1)) 3) [15], xo 5 (.assign (xt 16)) []]))))))
 (.seq (.region [xo 4 (.assign (.const (.bool true))) []])
 (.ret))))
theorem c37_ok : Tryd.f37.body.map (strip (tab.ann 37)) = some c37 := by kernel_rfl
def c43 : XC :=
  .seq (.region [xo 2 (.assign (.const (.slice none 0 0))) []])
 (.seq (.seq (.regionG [xo 3 (.move (xt 0)) [], xo 4 (.binOp .eql 22 (xt 3) (.const (.slice none 0 0)) 22) []])
 (.cond 4 (.seq (.region [xo 2 (.assign (.const (.slice none 0 0))) []])
 (.ret)) (.skip)))
 (.seq (.regionG [xo 5 (.buildSlice 22 0 #[]) [], xo 6 (.move (xt 0)) [], xo 7 (xb .append [5,6] [22,22]) [5,6], xo 2 (.assign (xt 7)) []])
 (.ret)))
theorem c43_ok : Tryd.f43.body.map (strip (tab.ann 43)) = some c43 := by kernel_rfl
def c44 : XC :=
  .seq (.region [xo 2 (.assign (.const (.slice none 0 0))) []])
 (.seq (.seq (.regionG [xo 3 (.move (xt 0)) [], xo 4 (.binOp .eql 30 (xt 3) (.const (.slice none 0 0)) 30) []])
 (.cond 4 (.seq (.region [xo 2 (.assign (.const (.slice none 0 0))) []])
 (.ret)) (.skip)))
 (.seq (.regionG [xo 5 (.buildSlice 30 0 #[]) [], xo 6 (.move (xt 0)) [], xo 7 (xb .append [5,6] [30,30]) [5,6], xo 2 (.assign (xt 7)) []])
 (.ret)))
theorem c44_ok : Tryd.f44.body.map (strip (tab.ann 44)) = some c44 := by kernel_rfl
def c45 : XC :=
  .seq (.region [xo 2 (.box 57 (xt 0)) [], xo 3 (.box 57 (xt 1)) [], xo 4 (.assign (.const (.bool false))) []])
 (.seq (.regionG [xo 5 (.fieldAddr 57 (xt 2) 0) [], xo 6 (.load 9 (xt 5)) [5], xo 7 (.fieldAddr 57 (xt 3) 0) [], xo 8 (.load 9 (xt 7)) [7], xo 9 (.binOp .eql 9 (xt 6) (xt 8) 9) [6,8], xo 10 (.move (xt 9)) [9], xg 11 (.fieldAddr 57 (xt 2) 1) 10 true [], xg 12 (.load 32 (xt 11)) 10 true [11], xg 13 (.fieldAddr 57 (xt 3) 1) 10 true [], xg 14 (.load 32 (xt 13)) 10 true [13], xg 15 (xc 27 [12,14] [32,32]) 10 true [12,14], xo 16 (.pick (xt 10) (xt 15) (.const (.bool false))) [10,15], xo 4 (.assign (xt 16)) []])
 (.ret))
theorem c45_ok : Tryd.f45.body.map (strip (tab.ann 45)) = some c45 := by kernel_rfl
end Go.Proofs.YtjoinlfkebgfkaaDoor
