/- Calls without arguments, worked out. -/
import Derived.Test.YtjoinlfkebgfkaaDoorXTabNU
import Derived.Test.YtjoinlfkebgfkaaDoorXEval
import Derived.ProofKit
namespace Go.Proofs.YtjoinlfkebgfkaaDoor
open Go Go.X
set_option linter.unusedVariables false
set_option linter.unusedSimpArgs false
set_option maxRecDepth 100000
def tabAnn0 (t : Nat) : Ann := (bif Nat.blt t 22 then (bif Nat.blt t 15 then (bif Nat.blt t 11 then (bif Nat.beq t 6 then { keep := [0, 1, 2, 22], dead := fun s => (bif Nat.blt s 16 then (bif Nat.blt s 13 then (bif Nat.beq s 8 then [3, 4, 5, 6, 7] else bif Nat.beq s 9 then [8] else []) else (bif Nat.beq s 13 then [10, 11, 12] else bif Nat.beq s 14 then [13] else [])) else (bif Nat.blt s 18 then (bif Nat.beq s 16 then [15] else bif Nat.beq s 17 then [16] else []) else (bif Nat.blt s 20 then (bif Nat.beq s 18 then [17] else []) else (bif Nat.beq s 20 then [19] else bif Nat.beq s 21 then [20] else [])))) } else bif Nat.beq t 9 then { keep := [0, 2, 3, 4, 5, 6, 9, 10, 11, 14, 15, 23, 30, 68], dead := fun s => (bif Nat.blt s 42 then (bif Nat.blt s 29 then (bif Nat.blt s 21 then (bif Nat.blt s 18 then (bif Nat.beq s 13 then [12] else bif Nat.beq s 17 then [16] else []) else (bif Nat.beq s 18 then [17] else bif Nat.beq s 20 then [19] else [])) else (bif Nat.blt s 25 then (bif Nat.beq s 21 then [20] else bif Nat.beq s 22 then [21] else []) else (bif Nat.blt s 26 then (bif Nat.beq s 25 then [24] else []) else (bif Nat.beq s 26 then [25] else bif Nat.beq s 28 then [27] else [])))) else (bif Nat.blt s 36 then (bif Nat.blt s 33 then (bif Nat.beq s 29 then [28] else bif Nat.beq s 32 then [31] else []) else (bif Nat.beq s 33 then [32] else bif Nat.beq s 34 then [33] else [])) else (bif Nat.blt s 38 then (bif Nat.beq s 36 then [35] else bif Nat.beq s 37 then [36] else []) else (bif Nat.blt s 39 then (bif Nat.beq s 38 then [34, 37] else []) else (bif Nat.beq s 39 then [38] else bif Nat.beq s 41 then [40] else []))))) else (bif Nat.blt s 62 then (bif Nat.blt s 56 then (bif Nat.blt s 52 then (bif Nat.beq s 42 then [41] else bif Nat.beq s 43 then [39, 42] else []) else (bif Nat.beq s 52 then [51] else bif Nat.beq s 53 then [52] else [])) else (bif Nat.blt s 58 then (bif Nat.beq s 56 then [55] else bif Nat.beq s 57 then [56] else []) else (bif Nat.blt s 60 then (bif Nat.beq s 58 then [57] else []) else (bif Nat.beq s 60 then [59] else bif Nat.beq s 61 then [58, 60] else [])))) else (bif Nat.blt s 71 then (bif Nat.blt s 66 then (bif Nat.beq s 62 then [61] else bif Nat.beq s 65 then [64] else []) else (bif Nat.beq s 66 then [63, 65] else bif Nat.beq s 67 then [66] else [])) else (bif Nat.blt s 74 then (bif Nat.beq s 71 then [70] else bif Nat.beq s 73 then [72] else []) else (bif Nat.blt s 78 then (bif Nat.beq s 74 then [73] else []) else (bif Nat.beq s 78 then [77] else bif Nat.beq s 79 then [76, 78] else [])))))), own := fun s => bif Nat.beq s 2 then some 26 else none, site := fun s => bif Nat.beq s 9 then 70 else 0, cap := fun s => bif Nat.beq s 9 then [2, 3, 4, 5, 6, 14, 15, 23, 30, 68] else [] } else { keep := [] }) else (bif Nat.blt t 12 then (bif Nat.beq t 11 then { keep := [0, 1, 2, 3, 4], dead := fun s => (bif Nat.blt s 12 then (bif Nat.blt s 9 then (bif Nat.beq s 6 then [5] else bif Nat.beq s 8 then [7] else []) else (bif Nat.beq s 9 then [6, 8] else bif Nat.beq s 10 then [9] else [])) else (bif Nat.blt s 15 then (bif Nat.beq s 12 then [11] else bif Nat.beq s 14 then [13] else []) else (bif Nat.beq s 15 then [12, 14] else bif Nat.beq s 16 then [10, 15] else []))) } else { keep := [] }) else (bif Nat.beq t 12 then { keep := [0, 1, 4], dead := fun s => (bif Nat.beq s 7 then [6] else bif Nat.beq s 9 then [5, 7, 8] else []) } else bif Nat.beq t 14 then { keep := [0, 1, 2], cold := fun s => bif Nat.beq s 1 then true else false } else { keep := [] }))) else (bif Nat.blt t 17 then (bif Nat.beq t 15 then { keep := [0, 2], dead := fun s => (bif Nat.beq s 4 then [3] else bif Nat.beq s 5 then [4] else []) } else bif Nat.beq t 16 then { keep := [0, 1, 4], dead := fun s => (bif Nat.beq s 7 then [5, 6] else []) } else { keep := [] }) else (bif Nat.blt t 18 then (bif Nat.beq t 17 then { keep := [0, 1, 2] } else { keep := [] }) else (bif Nat.beq t 18 then { keep := [0, 2], dead := fun s => (bif Nat.beq s 4 then [3] else []) } else bif Nat.beq t 21 then { keep := [0, 1, 2, 3, 4] } else { keep := [] })))) else (bif Nat.blt t 29 then (bif Nat.blt t 24 then (bif Nat.beq t 22 then { keep := [0, 1, 2, 3, 5, 7, 8, 9, 10, 11, 16, 21, 26], dead := fun s => (bif Nat.blt s 20 then (bif Nat.blt s 15 then (bif Nat.beq s 13 then [12] else []) else (bif Nat.beq s 15 then [14] else bif Nat.beq s 19 then [18] else [])) else (bif Nat.blt s 25 then (bif Nat.beq s 20 then [17, 19] else []) else (bif Nat.beq s 25 then [22, 23, 24] else bif Nat.beq s 28 then [27] else []))) } else bif Nat.beq t 23 then { keep := [0, 1, 4, 5, 6, 7, 9, 11, 17, 23, 34], dead := fun s => (bif Nat.blt s 37 then (bif Nat.blt s 21 then (bif Nat.blt s 14 then (bif Nat.beq s 8 then [8, 51] else bif Nat.beq s 13 then [12] else []) else (bif Nat.blt s 16 then (bif Nat.beq s 14 then [13] else []) else (bif Nat.beq s 16 then [15] else bif Nat.beq s 19 then [18] else []))) else (bif Nat.blt s 27 then (bif Nat.beq s 21 then [20] else bif Nat.beq s 25 then [24] else []) else (bif Nat.blt s 29 then (bif Nat.beq s 27 then [26] else []) else (bif Nat.beq s 29 then [28] else bif Nat.beq s 30 then [29] else [])))) else (bif Nat.blt s 43 then (bif Nat.blt s 39 then (bif Nat.beq s 37 then [36] else bif Nat.beq s 38 then [37] else []) else (bif Nat.blt s 41 then (bif Nat.beq s 39 then [38] else []) else (bif Nat.beq s 41 then [40] else bif Nat.beq s 42 then [41] else []))) else (bif Nat.blt s 49 then (bif Nat.blt s 44 then (bif Nat.beq s 43 then [42] else []) else (bif Nat.beq s 44 then [50] else bif Nat.beq s 46 then [45] else [])) else (bif Nat.blt s 50 then (bif Nat.beq s 49 then [48] else []) else (bif Nat.beq s 50 then [46, 47, 49] else bif Nat.beq s 52 then [44] else []))))) } else { keep := [] }) else (bif Nat.blt t 25 then (bif Nat.beq t 24 then { keep := [0, 2], dead := fun s => (bif Nat.beq s 4 then [3] else []) } else { keep := [] }) else (bif Nat.beq t 25 then { keep := [0, 2], dead := fun s => (bif Nat.beq s 4 then [3] else []) } else bif Nat.beq t 26 then { keep := [0, 2], dead := fun s => (bif Nat.beq s 4 then [3] else []) } else { keep := [] }))) else (bif Nat.blt t 35 then (bif Nat.blt t 33 then (bif Nat.beq t 29 then { keep := [0, 2, 4], dead := fun s => (bif Nat.blt s 12 then (bif Nat.blt s 8 then (bif Nat.beq s 7 then [6] else []) else (bif Nat.beq s 8 then [5, 7] else bif Nat.beq s 10 then [9] else [])) else (bif Nat.blt s 13 then (bif Nat.beq s 12 then [11] else []) else (bif Nat.beq s 13 then [12] else bif Nat.beq s 14 then [10, 13] else []))) } else { keep := [] }) else (bif Nat.beq t 33 then { keep := [0, 1, 4, 5, 6, 7, 10, 11, 12, 13], dead := fun s => (bif Nat.blt s 16 then (bif Nat.beq s 6 then [14] else bif Nat.beq s 9 then [8] else []) else (bif Nat.blt s 21 then (bif Nat.beq s 16 then [15] else []) else (bif Nat.beq s 21 then [19, 20] else bif Nat.beq s 22 then [17, 18] else []))) } else bif Nat.beq t 34 then { keep := [0, 1, 4, 5, 6, 7, 10, 11, 12, 13], dead := fun s => (bif Nat.blt s 16 then (bif Nat.beq s 6 then [14] else bif Nat.beq s 9 then [8] else []) else (bif Nat.blt s 21 then (bif Nat.beq s 16 then [15] else []) else (bif Nat.beq s 21 then [19, 20] else bif Nat.beq s 22 then [17, 18] else []))) } else { keep := [] })) else (bif Nat.blt t 43 then (bif Nat.beq t 35 then { keep := [0, 1, 2] } else { keep := [] }) else (bif Nat.beq t 43 then { keep := [0, 2, 4], dead := fun s => (bif Nat.beq s 7 then [5, 6] else []), own := fun s => bif Nat.beq s 2 then some 22 else bif Nat.beq s 7 then some 22 else none, mt := fun s => bif Nat.beq s 2 then true else bif Nat.beq s 7 then true else false, give := true } else bif Nat.beq t 44 then { keep := [0, 2, 4], dead := fun s => (bif Nat.beq s 7 then [5, 6] else []), own := fun s => bif Nat.beq s 2 then some 30 else bif Nat.beq s 7 then some 30 else none, mt := fun s => bif Nat.beq s 2 then true else bif Nat.beq s 7 then true else false, give := true } else { keep := [] })))))
def tab0 : Tab := { ty := tabTy, zero := tabZero, ann := tabAnn0, eqs := tabEqs }
theorem tab0_is_ok : TabOK Tryd.prog tab0 := ⟨tab_is_ok.ty, tab_is_ok.zero, tab_is_ok.eq, tab_is_ok.unit⟩
def k6 : XC :=
  .seq (.region [xo 0 (.assign (.const (.bool false))) []])
 (.seq (.region [xo 3 (.build 32 #[]) [], xo 4 (.build 32 #[(0, (.const (.int .u8 2)))]) [], xo 5 (.build 32 #[(0, (.const (.int .u8 3))), (2, (.const (.string { data := #[97] })))]) [], xo 6 (.build 32 #[(0, (.const (.int .u8 1))), (1, (.const (.int .i64 5)))]) [], xo 7 (.build 32 #[(0, (.const (.int .u8 5)))]) [], xo 8 (.buildSlice 22 5 #[(0, (xt 3)), (1, (xt 4)), (2, (xt 5)), (3, (xt 6)), (4, (xt 7))]) [3,4,5,6,7], xo 9 (xc 9 [8] [22]) [8], xo 1 (.assign (xt 9)) []])
 (.seq (.region [xo 10 (.call { callee := (.value (.func 12)), args := #[(.const (.string { data := #[112] })), (.const (.string { data := #[120] }))], argTypes := #[9, 9] }) [], xo 11 (.call { callee := (.value (.func 12)), args := #[(.const (.string { data := #[113] })), (.const (.string { data := #[120] }))], argTypes := #[9, 9] }) [], xo 12 (.call { callee := (.value (.func 12)), args := #[(.const (.string { data := #[114] })), (.const (.string { data := #[121] }))], argTypes := #[9, 9] }) [], xo 13 (.buildSlice 22 3 #[(0, (xt 10)), (1, (xt 11)), (2, (xt 12))]) [10,11,12], xo 14 (xc 9 [13] [22]) [13], xo 2 (.assign (xt 14)) []])
 (.seq (.seq (.regionG [xo 15 (.move (xt 1)) [], xo 16 (xb .len [15] [26]) [15], xo 17 (.binOp .neq 3 (xt 16) (.const (.int .i64 2)) 3) [16], xo 18 (.move (xt 17)) [17], xg 19 (.move (xt 2)) 18 false [], xg 20 (xb .len [19] [26]) 18 false [19], xg 21 (.binOp .neq 3 (xt 20) (.const (.int .i64 3)) 3) 18 false [20], xo 22 (.pick (xt 18) (.const (.bool true)) (xt 21)) []])
 (.cond 22 (.seq (.region [xo 0 (.assign (.const (.bool false))) []])
 (.ret)) (.skip)))
 (.seq (.regionG [xo 23 (.move (xt 1)) [], xo 24 (.indexAddr 26 (xt 23) (.const (.int .i64 0))) [], xo 25 (.fieldAddr 34 (xt 24) 0) [], xo 26 (.load 9 (xt 25)) [], xo 27 (.binOp .eql 9 (xt 26) (.const (.string { data := #[105, 58, 50] })) 9) [], xo 28 (.move (xt 27)) [], xg 29 (.move (xt 1)) 28 true [], xg 30 (.indexAddr 26 (xt 29) (.const (.int .i64 0))) 28 true [], xg 31 (.fieldAddr 34 (xt 30) 3) 28 true [], xg 32 (.fieldAddr 32 (xt 31) 2) 28 true [], xg 33 (.load 9 (xt 32)) 28 true [], xg 34 (.binOp .eql 9 (xt 33) (.const (.string { data := #[97] })) 9) 28 true [], xo 35 (.pick (xt 28) (xt 34) (.const (.bool false))) [], xo 36 (.move (xt 35)) [], xg 37 (.move (xt 1)) 36 true [], xg 38 (.indexAddr 26 (xt 37) (.const (.int .i64 1))) 36 true [], xg 39 (.fieldAddr 34 (xt 38) 0) 36 true [], xg 40 (.load 9 (xt 39)) 36 true [], xg 41 (.binOp .eql 9 (xt 40) (.const (.string { data := #[105, 58, 51] })) 9) 36 true [], xo 42 (.pick (xt 36) (xt 41) (.const (.bool false))) [], xo 43 (.move (xt 42)) [], xg 44 (.move (xt 1)) 43 true [], xg 45 (.indexAddr 26 (xt 44) (.const (.int .i64 1))) 43 true [], xg 46 (.fieldAddr 34 (xt 45) 3) 43 true [], xg 47 (.fieldAddr 32 (xt 46) 2) 43 true [], xg 48 (.load 9 (xt 47)) 43 true [], xg 49 (.binOp .eql 9 (xt 48) (.const (.string { data := #[53] })) 9) 43 true [], xo 50 (.pick (xt 43) (xt 49) (.const (.bool false))) [], xo 51 (.move (xt 50)) [], xg 52 (.move (xt 1)) 51 true [], xg 53 (.indexAddr 26 (xt 52) (.const (.int .i64 1))) 51 true [], xg 54 (.fieldAddr 34 (xt 53) 1) 51 true [], xg 55 (.load 28 (xt 54)) 51 true [], xg 56 (.binOp .eql 28 (xt 55) (.const (.int .u8 9)) 28) 51 true [], xo 57 (.pick (xt 51) (xt 56) (.const (.bool false))) [], xo 58 (.move (xt 57)) [], xg 59 (.move (xt 2)) 58 true [], xg 60 (.indexAddr 26 (xt 59) (.const (.int .i64 0))) 58 true [], xg 61 (.fieldAddr 34 (xt 60) 0) 58 true [], xg 62 (.load 9 (xt 61)) 58 true [], xg 63 (.binOp .eql 9 (xt 62) (.const (.string { data := #[107, 58, 120] })) 9) 58 true [], xo 64 (.pick (xt 58) (xt 63) (.const (.bool false))) [], xo 65 (.move (xt 64)) [], xg 66 (.move (xt 2)) 65 true [], xg 67 (.indexAddr 26 (xt 66) (.const (.int .i64 1))) 65 true [], xg 68 (.fieldAddr 34 (xt 67) 0) 65 true [], xg 69 (.load 9 (xt 68)) 65 true [], xg 70 (.binOp .eql 9 (xt 69) (.const (.string { data := #[105, 58, 49] })) 9) 65 true [], xo 71 (.pick (xt 65) (xt 70) (.const (.bool false))) [], xo 72 (.move (xt 71)) [], xg 73 (.move (xt 2)) 72 true [], xg 74 (.indexAddr 26 (xt 73) (.const (.int .i64 2))) 72 true [], xg 75 (.fieldAddr 34 (xt 74) 0) 72 true [], xg 76 (.load 9 (xt 75)) 72 true [], xg 77 (.binOp .eql 9 (xt 76) (.const (.string { data := #[107, 58, 121] })) 9) 72 true [], xo 78 (.pick (xt 72) (xt 77) (.const (.bool false))) [], xo 79 (.move (xt 78)) [], xg 80 (.move (xt 2)) 79 true [], xg 81 (.indexAddr 26 (xt 80) (.const (.int .i64 2))) 79 true [], xg 82 (.fieldAddr 34 (xt 81) 2) 79 true [], xg 83 (.load 9 (xt 82)) 79 true [], xg 84 (.binOp .eql 9 (xt 83) (.const (.string { data := #[114] })) 9) 79 true [], xo 85 (.pick (xt 79) (xt 84) (.const (.bool false))) [], xo 86 (.move (xt 85)) [], xg 87 (.move (xt 1)) 86 true [], xg 88 (.indexAddr 26 (xt 87) (.const (.int .i64 0))) 86 true [], xg 89 (.load 34 (xt 88)) 86 true [], xg 90 (.move (xt 1)) 86 true [], xg 91 (.indexAddr 26 (xt 90) (.const (.int .i64 1))) 86 true [], xg 92 (.load 34 (xt 91)) 86 true [], xg 93 (xc 11 [89,92] [34,34]) 86 true [], xo 94 (.pick (xt 86) (xt 93) (.const (.bool false))) [], xo 95 (.move (xt 94)) [], xg 96 (.move (xt 2)) 95 true [], xg 97 (.indexAddr 26 (xt 96) (.const (.int .i64 0))) 95 true [], xg 98 (.load 34 (xt 97)) 95 true [], xg 99 (.move (xt 2)) 95 true [], xg 100 (.indexAddr 26 (xt 99) (.const (.int .i64 1))) 95 true [], xg 101 (.load 34 (xt 100)) 95 true [], xg 102 (xc 11 [98,101] [34,34]) 95 true [], xg 103 (.unOp .not 4 (xt 102)) 95 true [], xo 104 (.pick (xt 95) (xt 103) (.const (.bool false))) [], xo 0 (.assign (xt 104)) []])
 (.ret)))))
theorem k6_ok : Tryd.f6.body.map (strip (tab0.ann 6)) = some k6 := by kernel_rfl
def ks70a : XC :=
  .seq (.region [xo 4 (.assign (xt 10)) []])
 (.region [xo 5 (.alloc 32) [], xn (.store 32 (xt 5) (xt 11))])
def ks70b : XC :=
  .block 1 (.seq (.seq (.region [xo 12 (.load 26 (xt 2)) [], xo 13 (xb .len [12] [26]) [12], xo 14 (.binOp .eql 3 (xt 13) (.const (.int .i64 4096)) 3) []])
 (.cond 14 (.exit 0) (.skip)))
 (.seq (.region [xo 6 (.alloc 34) []])
 (.seq (.block 2 (.seq (.region [xo 16 (.fieldAddr 32 (xt 5) 0) [], xo 17 (.load 29 (xt 16)) [16], xo 18 (.binOp .eql 29 (xt 17) (.const (.int .u8 1)) 29) [17], xo 15 (.assign (xt 18)) []])
 (.cond 15 (.region [xo 19 (.fieldAddr 32 (xt 5) 1) [], xo 20 (.load 2 (xt 19)) [19], xo 21 (.call { callee := (.value (.func 16)), args := #[(xt 20), (.const (.int .i64 10))], argTypes := #[2, 3] }) [20], xo 22 (xc 15 [21] [9]) [21], xn (.store 34 (xt 6) (xt 22))]) (.seq (.region [xo 24 (.fieldAddr 32 (xt 5) 0) [], xo 25 (.load 29 (xt 24)) [24], xo 26 (.binOp .eql 29 (xt 25) (.const (.int .u8 3)) 29) [25], xo 23 (.assign (xt 26)) []])
 (.cond 23 (.region [xo 27 (.fieldAddr 32 (xt 5) 2) [], xo 28 (.load 9 (xt 27)) [27], xo 29 (xc 15 [28] [9]) [28], xn (.store 34 (xt 6) (xt 29))]) (.seq (.regionG [xo 31 (.fieldAddr 32 (xt 5) 0) [], xo 32 (.load 29 (xt 31)) [31], xo 33 (.binOp .eql 29 (xt 32) (.const (.int .u8 6)) 29) [32], xo 34 (.move (xt 33)) [33], xg 35 (.fieldAddr 32 (xt 5) 5) 34 true [], xg 36 (.load 28 (xt 35)) 34 true [35], xg 37 (.binOp .gtr 28 (xt 36) (.const (.int .u8 0)) 28) 34 true [36], xo 38 (.pick (xt 34) (xt 37) (.const (.bool false))) [34,37], xo 39 (.move (xt 38)) [38], xg 40 (.fieldAddr 32 (xt 5) 5) 39 true [], xg 41 (.load 28 (xt 40)) 39 true [40], xg 42 (.binOp .lss 28 (xt 41) (.const (.int .u8 9)) 28) 39 true [41], xo 43 (.pick (xt 39) (xt 42) (.const (.bool false))) [39,42], xo 30 (.assign (xt 43)) []])
 (.cond 30 (.region [xo 44 (.fieldAddr 32 (xt 5) 5) [], xo 45 (.load 28 (xt 44)) [], xo 46 (.fieldAddr 32 (xt 5) 2) [], xo 47 (.load 9 (xt 46)) [], xo 48 (.load 32 (xt 5)) [], xk 49 (xc 17 [48] [32]) [], xo 50 (.build 34 #[(1, (xt 45)), (2, (xt 47)), (3, (xt 49))]) [], xn (.store 34 (xt 6) (xt 50))]) (.exit 1))))))))
 (.seq (.region [xo 51 (.move (xt 4)) [], xo 52 (xc 18 [51] [3]) [51], xo 53 (.binOp .add 9 (.const (.string { data := #[105, 58] })) (xt 52) 9) [52], xo 54 (.fieldAddr 34 (xt 6) 0) [], xn (.store 9 (xt 54) (xt 53))])
 (.seq (.seq (.regionG [xo 55 (.fieldAddr 32 (xt 5) 0) [], xo 56 (.load 29 (xt 55)) [55], xo 57 (.binOp .eql 29 (xt 56) (.const (.int .u8 6)) 29) [56], xo 58 (.move (xt 57)) [57], xg 59 (.fieldAddr 32 (xt 5) 7) 58 true [], xg 60 (.load 4 (xt 59)) 58 true [59], xo 61 (.pick (xt 58) (xt 60) (.const (.bool false))) [58,60], xo 62 (.move (xt 61)) [61], xg 63 (.load 43 (xt 3)) 62 true [], xg 64 (.fieldAddr 32 (xt 5) 6) 62 true [], xg 65 (.load 9 (xt 64)) 62 true [64], xg 66 (.lookup 43 (xt 63) (xt 65) false) 62 true [63,65], xg 67 (.unOp .not 4 (xt 66)) 62 true [66], xo 68 (.pick (xt 62) (xt 67) (.const (.bool false))) []])
 (.cond 68 (.seq (.region [xo 69 (.load 43 (xt 3)) [], xo 70 (.fieldAddr 32 (xt 5) 6) [], xo 71 (.load 9 (xt 70)) [70], xn (.mapUpdate 43 (xt 69) (xt 71) (.const (.bool true)))])
 (.region [xo 72 (.fieldAddr 32 (xt 5) 6) [], xo 73 (.load 9 (xt 72)) [72], xo 74 (.binOp .add 9 (.const (.string { data := #[107, 58] })) (xt 73) 9) [73], xo 75 (.fieldAddr 34 (xt 6) 0) [], xn (.store 9 (xt 75) (xt 74))])) (.skip)))
 (.regionG [xo 76 (.load 26 (xt 2)) [], xo 77 (.load 34 (xt 6)) [], xo 78 (.buildSlice 26 1 #[(0, (xt 77))]) [77], xo 79 (xb .append [76,78] [26,26]) [76,78], xn (.store 26 (xt 2) (xt 79))]))))))
theorem ks70_ok : (Sites.site 70).map (fun q => (q.own, q.ps, strip (tab0.ann q.own) q.asg, strip (tab0.ann q.own) q.body)) = some (9, [10, 11], ks70a, ks70b) := by kernel_rfl
def k9 : XC :=
  .seq (.region [xo 2 (.alloc 26) []])
 (.seq (.region [xo 7 (.makeMap 43 none) [], xo 3 (.alloc 43) [], xn (.store 43 (xt 3) (xt 7))])
 (.seq (.seq (.region [xo 8 (.move (xt 0)) [], xo 9 (xc 14 [8] [22]) []])
 (.block 0 (.rng 9)))
 (.seq (.region [xo 80 (.load 26 (xt 2)) [], xn (.store 26 (xt 2) (xt 80))])
 (.ret))))
theorem k9_ok : Tryd.f9.body.map (strip (tab0.ann 9)) = some k9 := by kernel_rfl
def k11 : XC :=
  .seq (.region [xo 2 (.box 34 (xt 0)) [], xo 3 (.box 34 (xt 1)) [], xo 4 (.assign (.const (.bool false))) []])
 (.seq (.regionG [xo 5 (.fieldAddr 34 (xt 2) 1) [], xo 6 (.load 28 (xt 5)) [5], xo 7 (.fieldAddr 34 (xt 3) 1) [], xo 8 (.load 28 (xt 7)) [7], xo 9 (.binOp .eql 28 (xt 6) (xt 8) 28) [6,8], xo 10 (.move (xt 9)) [9], xg 11 (.fieldAddr 34 (xt 2) 2) 10 true [], xg 12 (.load 9 (xt 11)) 10 true [11], xg 13 (.fieldAddr 34 (xt 3) 2) 10 true [], xg 14 (.load 9 (xt 13)) 10 true [13], xg 15 (.binOp .eql 9 (xt 12) (xt 14) 9) 10 true [12,14], xo 16 (.pick (xt 10) (xt 15) (.const (.bool false))) [10,15], xo 4 (.assign (xt 16)) []])
 (.ret))
theorem k11_ok : Tryd.f11.body.map (strip (tab0.ann 11)) = some k11 := by kernel_rfl
def k12 : XC :=
  .seq (.region [xo 4 (.alloc 32) []])
 (.seq (.region [xo 5 (.move (xt 0)) [], xo 6 (.move (xt 1)) [], xo 7 (.binOp .neq 9 (xt 6) (.const (.string { data := #[] })) 9) [6], xo 8 (.move (xt 1)) [], xo 9 (.build 32 #[(0, (.const (.int .u8 6))), (5, (.const (.int .u8 1))), (2, (xt 5)), (7, (xt 7)), (6, (xt 8))]) [5,7,8], xn (.store 32 (xt 4) (xt 9))])
 (.ret))
theorem k12_ok : Tryd.f12.body.map (strip (tab0.ann 12)) = some k12 := by kernel_rfl
def k14 : XC :=
  .seq (.region [xo 1 (.box 22 (xt 0)) [], xo 2 (.assign (.const .nilFunc)) []])
 (.seq (.region [xo 3 (.makeFunc (.func 21) #[] #[(xt 1)]) [], xo 2 (.assign (xt 3)) []])
 (.ret))
theorem k14_ok : Tryd.f14.body.map (strip (tab0.ann 14)) = some k14 := by kernel_rfl
def k15 : XC :=
  .seq (.region [xo 2 (.alloc 34) []])
 (.seq (.region [xo 3 (.move (xt 0)) [], xo 4 (.build 32 #[(0, (.const (.int .u8 3))), (2, (xt 3))]) [3], xo 5 (.build 34 #[(1, (.const (.int .u8 9))), (3, (xt 4))]) [4], xn (.store 34 (xt 2) (xt 5))])
 (.ret))
theorem k15_ok : Tryd.f15.body.map (strip (tab0.ann 15)) = some k15 := by kernel_rfl
def k16 : XC :=
  .seq (.region [xo 4 (.assign (.const (.string { data := #[] }))) []])
 (.seq (.region [xo 5 (.move (xt 0)) [], xo 6 (.move (xt 1)) [], xo 7 (xc 23 [5,6] [2,3]) [5,6], xo 4 (.assign (xt 7)) []])
 (.ret))
theorem k16_ok : Tryd.f16.body.map (strip (tab0.ann 16)) = some k16 := by kernel_rfl
def k17 : XC :=
  .seq (.region [xo 1 (.box 32 (xt 0)) [], xo 2 (.alloc 32) []])
 (.seq (.region [xo 3 (.fieldAddr 32 (xt 1) 3) [], xo 4 (.load 22 (xt 3)) [], xk 5 (xc 24 [4] [22]) [], xo 6 (.fieldAddr 32 (xt 1) 4) [], xo 7 (.load 30 (xt 6)) [], xk 8 (xc 25 [7] [30]) [], xo 9 (.fieldAddr 32 (xt 1) 3) [], xn (.store 22 (xt 9) (xt 5)), xo 10 (.fieldAddr 32 (xt 1) 4) [], xn (.store 30 (xt 10) (xt 8))])
 (.seq (.region [xo 11 (.load 32 (xt 1)) [], xn (.store 32 (xt 2) (xt 11))])
 (.ret)))
theorem k17_ok : Tryd.f17.body.map (strip (tab0.ann 17)) = some k17 := by kernel_rfl
def k18 : XC :=
  .seq (.region [xo 2 (.assign (.const (.string { data := #[] }))) []])
 (.seq (.region [xo 3 (.move (xt 0)) [], xo 4 (xc 26 [3] [3]) [3], xo 2 (.assign (xt 4)) []])
 (.ret))
theorem k18_ok : Tryd.f18.body.map (strip (tab0.ann 18)) = some k18 := by kernel_rfl
def k21 : XC :=
  .seq (.region [xo 2 (.box 51 (xt 0)) []])
 (.seq (.region [xo 3 (.alloc 3) [], xn (.store 3 (xt 3) (.const (.int .i64 0)))])
 (.seq (.region [xo 4 (.alloc 35) []])
 (.seq (.region [xo 5 (.makeFunc (.func 22) #[] #[(xt 4), (xt 2), (xt 3)]) [], xn (.store 35 (xt 4) (xt 5))])
 (.region [xo 6 (.load 35 (xt 4)) [], xo 7 (.load 22 (xt 1)) [], xo 8 (.call { callee := (.value (xt 6)), args := #[(xt 7)], argTypes := #[22] }) []]))))
theorem k21_ok : Tryd.f21.body.map (strip (tab0.ann 21)) = some k21 := by kernel_rfl
def k22 : XC :=
  .seq (.region [xo 5 (.assign (.const (.bool false))) []])
 (.seq (.seq (.region [xo 8 (.move (xt 0)) [], xo 9 (xb .len [8] [22]) [], xo 10 (.move (.const (.int .i64 0))) []])
 (.block 0 (.loop (.seq (.region [xo 11 (.binOp .lss 3 (xt 10) (xt 9) 3) []])
 (.seq (.cond 11 (.skip) (.exit 0))
 (.seq (.block 1 (.seq (.region [xo 12 (.indexAddr 22 (xt 8) (xt 10)) [], xo 13 (.load 32 (xt 12)) [12], xo 7 (.alloc 32) [], xn (.store 32 (xt 7) (xt 13))])
 (.seq (.seq (.region [xo 14 (.fieldAddr 32 (xt 7) 0) [], xo 15 (.load 29 (xt 14)) [14], xo 16 (.binOp .eql 29 (xt 15) (.const (.int .u8 4)) 29) []])
 (.cond 16 (.seq (.seq (.region [xo 17 (.load 35 (xt 1)) [], xo 18 (.fieldAddr 32 (xt 7) 3) [], xo 19 (.load 22 (xt 18)) [18], xo 20 (.call { callee := (.value (xt 17)), args := #[(xt 19)], argTypes := #[22] }) [17,19], xo 21 (.unOp .not 4 (xt 20)) []])
 (.cond 21 (.seq (.region [xo 5 (.assign (.const (.bool false))) []])
 (.ret)) (.skip)))
 (.exit 1)) (.skip)))
 (.seq (.seq (.region [xo 22 (.load 51 (xt 2)) [], xo 23 (.load 3 (xt 3)) [], xo 24 (.load 32 (xt 7)) [], xo 25 (.call { callee := (.value (xt 22)), args := #[(xt 23), (xt 24)], argTypes := #[3, 32] }) [22,23,24], xo 26 (.unOp .not 4 (xt 25)) []])
 (.cond 26 (.seq (.region [xo 5 (.assign (.const (.bool false))) []])
 (.ret)) (.skip)))
 (.region [xo 27 (.load 3 (xt 3)) [], xo 28 (.binOp .add 3 (xt 27) (.const (.int .i64 1)) 3) [27], xn (.store 3 (xt 3) (xt 28))])))))
 (.region [xo 29 (.binOp .add 3 (xt 10) (.const (.int .i64 1)) 3) [], xo 10 (.move (xt 29)) []])))))))
 (.seq (.region [xo 5 (.assign (.const (.bool true))) []])
 (.ret)))
theorem k22_ok : Tryd.f22.body.map (strip (tab0.ann 22)) = some k22 := by kernel_rfl
def k23 : XC :=
  .seq (.region [xo 4 (.assign (.const (.string { data := #[] }))) []])
 (.seq (.seq (.region [xo 10 (.move (xt 1)) [], xo 11 (.binOp .eql 3 (xt 10) (.const (.int .i64 10)) 3) []])
 (.cond 11 (.seq (.seq (.regionG [xo 12 (.move (xt 0)) [], xo 13 (.binOp .leq 2 (.const (.int .i64 0)) (xt 12) 2) [12], xo 14 (.move (xt 13)) [13], xg 15 (.move (xt 0)) 14 true [], xg 16 (.binOp .lss 2 (xt 15) (.const (.int .i64 100)) 2) 14 true [15], xo 17 (.pick (xt 14) (xt 16) (.const (.bool false))) []])
 (.cond 17 (.seq (.region [xo 18 (.move (xt 0)) [], xo 19 (xc 29 [18] [3]) [18], xo 4 (.assign (xt 19)) []])
 (.ret)) (.skip)))
 (.seq (.region [xo 5 (.alloc 58) []])
 (.seq (.region [xo 20 (.move (xt 0)) [], xo 21 (.convert 2 59 (xt 20)) [20], xo 6 (.assign (xt 21)) []])
 (.seq (.seq (.region [xo 22 (.move (xt 0)) [], xo 23 (.binOp .lss 2 (xt 22) (.const (.int .i64 0)) 2) []])
 (.cond 23 (.region [xo 24 (.move (xt 6)) [], xo 25 (.unOp .neg 59 (xt 24)) [24], xo 6 (.assign (xt 25)) []]) (.skip)))
 (.seq (.region [xo 26 (.move (xt 6)) [], xo 27 (xc 30 [26] [59]) [26], xo 7 (.assign (xt 27)) []])
 (.seq (.region [xo 28 (.move (xt 7)) [], xo 29 (.binOp .add 3 (.const (.int .i64 1)) (xt 28) 3) [28], xo 30 (.slice 58 (xt 5) (some (.const (.int .i64 1))) (some (xt 29)) none) [29], xo 31 (.move (xt 6)) [], xo 32 (xc 31 [30,31] [62,59]) []])
 (.seq (.seq (.region [xo 33 (.move (xt 0)) [], xo 34 (.binOp .lss 2 (xt 33) (.const (.int .i64 0)) 2) []])
 (.cond 34 (.seq (.region [xo 35 (.indexAddr 58 (xt 5) (.const (.int .i64 0))) [], xn (.store 5 (xt 35) (.const (.int .u8 45)))])
 (.seq (.region [xo 36 (.move (xt 7)) [], xo 37 (.binOp .add 3 (.const (.int .i64 1)) (xt 36) 3) [36], xo 38 (.slice 58 (xt 5) none (some (xt 37)) none) [37], xo 39 (.convert 62 9 (xt 38)) [38], xo 4 (.assign (xt 39)) []])
 (.ret))) (.skip)))
 (.seq (.region [xo 40 (.move (xt 7)) [], xo 41 (.binOp .add 3 (.const (.int .i64 1)) (xt 40) 3) [40], xo 42 (.slice 58 (xt 5) (some (.const (.int .i64 1))) (some (xt 41)) none) [41], xo 43 (.convert 62 9 (xt 42)) [42], xo 4 (.assign (xt 43)) []])
 (.ret))))))))) (.skip)))
 (.seq (.region [xo 45 (.move (xt 0)) [], xo 46 (.convert 2 59 (xt 45)) [45], xo 47 (.move (xt 1)) [], xo 48 (.move (xt 0)) [], xo 49 (.binOp .lss 2 (xt 48) (.const (.int .i64 0)) 2) [48], xo 50 (.call { callee := (.value (.func 32)), args := #[(.const (.slice none 0 0)), (xt 46), (xt 47), (xt 49), (.const (.bool false))], argTypes := #[62, 59, 3, 4, 4] }) [46,47,49], xo 44 (.move (xt 50)) [50], xo 51 (.extract (xt 44) 0) [], xo 52 (.extract (xt 44) 1) [44], xo 8 (.assign (xt 51)) [8,51], xo 9 (.assign (xt 52)) []])
 (.seq (.region [xo 53 (.move (xt 9)) [], xo 4 (.assign (xt 53)) []])
 (.ret))))
theorem k23_ok : Tryd.f23.body.map (strip (tab0.ann 23)) = some k23 := by kernel_rfl
def k24 : XC :=
  .seq (.region [xo 2 (.assign (.const (.slice none 0 0))) []])
 (.seq (.region [xo 3 (.move (xt 0)) [], xo 4 (.call { callee := (.value (.func 33)), args := #[(xt 3), (.func 17)], argTypes := #[22, 48] }) [3], xo 2 (.assign (xt 4)) []])
 (.ret))
theorem k24_ok : Tryd.f24.body.map (strip (tab0.ann 24)) = some k24 := by kernel_rfl
def k25 : XC :=
  .seq (.region [xo 2 (.assign (.const (.slice none 0 0))) []])
 (.seq (.region [xo 3 (.move (xt 0)) [], xo 4 (.call { callee := (.value (.func 34)), args := #[(xt 3), (.func 35)], argTypes := #[30, 67] }) [3], xo 2 (.assign (xt 4)) []])
 (.ret))
theorem k25_ok : Tryd.f25.body.map (strip (tab0.ann 25)) = some k25 := by kernel_rfl
def k26 : XC :=
  .seq (.region [xo 2 (.assign (.const (.string { data := #[] }))) []])
 (.seq (.region [xo 3 (.move (xt 0)) [], xo 4 (.call { callee := (.value (.func 23)), args := #[(xt 3), (.const (.int .i64 10))], argTypes := #[2, 3] }) [3], xo 2 (.assign (xt 4)) []])
 (.ret))
theorem k26_ok : Tryd.f26.body.map (strip (tab0.ann 26)) = some k26 := by kernel_rfl
def k29 : XC :=
  .seq (.region [xo 2 (.assign (.const (.string { data := #[] }))) []])
 (.seq (.seq (.region [xo 3 (.move (xt 0)) [], xo 4 (.binOp .lss 3 (xt 3) (.const (.int .i64 10)) 3) []])
 (.cond 4 (.seq (.region [xo 5 (.move (xt 0)) [], xo 6 (.move (xt 0)) [], xo 7 (.binOp .add 3 (xt 6) (.const (.int .i64 1)) 3) [6], xo 8 (.slice 9 (.const (.string { data := #[48, 49, 50, 51, 52, 53, 54, 55, 56, 57, 97, 98, 99, 100, 101, 102, 103, 104, 105, 106, 107, 108, 109, 110, 111, 112, 113, 114, 115, 116, 117, 118, 119, 120, 121, 122] })) (some (xt 5)) (some (xt 7)) none) [5,7], xo 2 (.assign (xt 8)) []])
 (.ret)) (.skip)))
 (.seq (.region [xo 9 (.move (xt 0)) [], xo 10 (.binOp .mul 3 (xt 9) (.const (.int .i64 2)) 3) [9], xo 11 (.move (xt 0)) [], xo 12 (.binOp .mul 3 (xt 11) (.const (.int .i64 2)) 3) [11], xo 13 (.binOp .add 3 (xt 12) (.const (.int .i64 2)) 3) [12], xo 14 (.slice 9 (.const (.string { data := #[48, 48, 48, 49, 48, 50, 48, 51, 48, 52, 48, 53, 48, 54, 48, 55, 48, 56, 48, 57, 49, 48, 49, 49, 49, 50, 49, 51, 49, 52, 49, 53, 49, 54, 49, 55, 49, 56, 49, 57, 50, 48, 50, 49, 50, 50, 50, 51, 50, 52, 50, 53, 50, 54, 50, 55, 50, 56, 50, 57, 51, 48, 51, 49, 51, 50, 51, 51, 51, 52, 51, 53, 51, 54, 51, 55, 51, 56, 51, 57, 52, 48, 52, 49, 52, 50, 52, 51, 52, 52, 52, 53, 52, 54, 52, 55, 52, 56, 52, 57, 53, 48, 53, 49, 53, 50, 53, 51, 53, 52, 53, 53, 53, 54, 53, 55, 53, 56, 53, 57, 54, 48, 54, 49, 54, 50, 54, 51, 54, 52, 54, 53, 54, 54, 54, 55, 54, 56, 54, 57, 55, 48, 55, 49, 55, 50, 55, 51, 55, 52, 55, 53, 55, 54, 55, 55, 55, 56, 55, 57, 56, 48, 56, 49, 56, 50, 56, 51, 56, 52, 56, 53, 56, 54, 56, 55, 56, 56, 56, 57, 57, 48, 57, 49, 57, 50, 57, 51, 57, 52, 57, 53, 57, 54, 57, 55, 57, 56, 57, 57] })) (some (xt 10)) (some (xt 13)) none) [10,13], xo 2 (.assign (xt 14)) []])
 (.ret)))
theorem k29_ok : Tryd.f29.body.map (strip (tab0.ann 29)) = some k29 := by kernel_rfl
def k33 : XC :=
  .seq (.region [xo 4 (.assign (.const (.slice none 0 0))) []])
 (.seq (.region [xo 8 (.move (xt 0)) [], xo 9 (xc 43 [8] [22]) [8], xo 5 (.assign (xt 9)) []])
 (.seq (.seq (.region [xo 10 (.move (xt 5)) [], xo 11 (xb .len [10] [22]) [], xo 12 (.move (.const (.int .i64 0))) []])
 (.block 0 (.loop (.seq (.region [xo 13 (.binOp .lss 3 (xt 12) (xt 11) 3) []])
 (.seq (.cond 13 (.skip) (.exit 0))
 (.seq (.block 1 (.seq (.region [xo 14 (.move (xt 12)) [], xo 15 (.indexAddr 22 (xt 10) (xt 12)) [], xo 16 (.load 32 (xt 15)) [15], xo 7 (.alloc 32) [], xo 6 (.assign (xt 14)) [14], xn (.store 32 (xt 7) (xt 16))])
 (.region [xo 17 (.move (xt 5)) [], xo 18 (.move (xt 6)) [], xo 19 (.move (xt 1)) [], xo 20 (.load 32 (xt 7)) [], xo 21 (.call { callee := (.value (xt 19)), args := #[(xt 20)], argTypes := #[32] }) [19,20], xo 22 (.indexAddr 22 (xt 17) (xt 18)) [17,18], xn (.store 32 (xt 22) (xt 21))])))
 (.region [xo 23 (.binOp .add 3 (xt 12) (.const (.int .i64 1)) 3) [], xo 12 (.move (xt 23)) []])))))))
 (.seq (.region [xo 24 (.move (xt 5)) [], xo 4 (.assign (xt 24)) []])
 (.ret))))
theorem k33_ok : Tryd.f33.body.map (strip (tab0.ann 33)) = some k33 := by kernel_rfl
def k34 : XC :=
  .seq (.region [xo 4 (.assign (.const (.slice none 0 0))) []])
 (.seq (.region [xo 8 (.move (xt 0)) [], xo 9 (xc 44 [8] [30]) [8], xo 5 (.assign (xt 9)) []])
 (.seq (.seq (.region [xo 10 (.move (xt 5)) [], xo 11 (xb .len [10] [30]) [], xo 12 (.move (.const (.int .i64 0))) []])
 (.block 0 (.loop (.seq (.region [xo 13 (.binOp .lss 3 (xt 12) (xt 11) 3) []])
 (.seq (.cond 13 (.skip) (.exit 0))
 (.seq (.block 1 (.seq (.region [xo 14 (.move (xt 12)) [], xo 15 (.indexAddr 30 (xt 10) (xt 12)) [], xo 16 (.load 57 (xt 15)) [15], xo 7 (.alloc 57) [], xo 6 (.assign (xt 14)) [14], xn (.store 57 (xt 7) (xt 16))])
 (.region [xo 17 (.move (xt 5)) [], xo 18 (.move (xt 6)) [], xo 19 (.move (xt 1)) [], xo 20 (.load 57 (xt 7)) [], xo 21 (.call { callee := (.value (xt 19)), args := #[(xt 20)], argTypes := #[57] }) [19,20], xo 22 (.indexAddr 30 (xt 17) (xt 18)) [17,18], xn (.store 57 (xt 22) (xt 21))])))
 (.region [xo 23 (.binOp .add 3 (xt 12) (.const (.int .i64 1)) 3) [], xo 12 (.move (xt 23)) []])))))))
 (.seq (.region [xo 24 (.move (xt 5)) [], xo 4 (.assign (xt 24)) []])
 (.ret))))
theorem k34_ok : Tryd.f34.body.map (strip (tab0.ann 34)) = some k34 := by kernel_rfl
def k35 : XC :=
  .seq (.region [xo 1 (.box 57 (xt 0)) [], xo 2 (.alloc 57) []])
 (.seq (.region [xo 3 (.fieldAddr 57 (xt 1) 0) [], xo 4 (.load 9 (xt 3)) [], xo 5 (.fieldAddr 57 (xt 1) 1) [], xo 6 (.load 32 (xt 5)) [], xk 7 (xc 17 [6] [32]) [], xo 8 (.build 57 #[(0, (xt 4)), (1, (xt 7))]) [], xn (.store 57 (xt 2) (xt 8))])
 (.ret))
theorem k35_ok : Tryd.f35.body.map (strip (tab0.ann 35)) = some k35 := by kernel_rfl
def k43 : XC :=
  .seq (.region [xo 2 (.assign (.const (.slice none 0 0))) []])
 (.seq (.seq (.regionG [xo 3 (.move (xt 0)) [], xo 4 (.binOp .eql 22 (xt 3) (.const (.slice none 0 0)) 22) []])
 (.cond 4 (.seq (.region [xo 2 (.assign (.const (.slice none 0 0))) []])
 (.ret)) (.skip)))
 (.seq (.regionG [xo 5 (.buildSlice 22 0 #[]) [], xo 6 (.move (xt 0)) [], xo 7 (xb .append [5,6] [22,22]) [5,6], xo 2 (.assign (xt 7)) []])
 (.ret)))
theorem k43_ok : Tryd.f43.body.map (strip (tab0.ann 43)) = some k43 := by kernel_rfl
def k44 : XC :=
  .seq (.region [xo 2 (.assign (.const (.slice none 0 0))) []])
 (.seq (.seq (.regionG [xo 3 (.move (xt 0)) [], xo 4 (.binOp .eql 30 (xt 3) (.const (.slice none 0 0)) 30) []])
 (.cond 4 (.seq (.region [xo 2 (.assign (.const (.slice none 0 0))) []])
 (.ret)) (.skip)))
 (.seq (.regionG [xo 5 (.buildSlice 30 0 #[]) [], xo 6 (.move (xt 0)) [], xo 7 (xb .append [5,6] [30,30]) [5,6], xo 2 (.assign (xt 7)) []])
 (.ret)))
theorem k44_ok : Tryd.f44.body.map (strip (tab0.ann 44)) = some k44 := by kernel_rfl
noncomputable def S0 : X.Sys := { fn := fnOf [(6, Tryd.f6), (9, Tryd.f9), (11, Tryd.f11), (12, Tryd.f12), (14, Tryd.f14), (15, Tryd.f15), (16, Tryd.f16), (17, Tryd.f17), (18, Tryd.f18), (21, Tryd.f21), (22, Tryd.f22), (23, Tryd.f23), (24, Tryd.f24), (25, Tryd.f25), (26, Tryd.f26), (29, Tryd.f29), (33, Tryd.f33), (34, Tryd.f34), (35, Tryd.f35), (43, Tryd.f43), (44, Tryd.f44)], tab := tab0, foreign := fun _ => none }
theorem sys0_ok : SysOK Tryd.prog S0 where
  tab := tab0_is_ok
  mixed := by kernel_rfl
  fn := fnOf_spec (by
    intro p hp
    simp only [List.mem_cons, List.not_mem_nil, or_false] at hp
    rcases hp with rfl | rfl | rfl | rfl | rfl | rfl | rfl | rfl | rfl | rfl | rfl | rfl | rfl | rfl | rfl | rfl | rfl | rfl | rfl | rfl | rfl
    · exact ⟨Tryd.func6, by kernel_rfl⟩
    · exact ⟨Tryd.func9, by kernel_rfl⟩
    · exact ⟨Tryd.func11, by kernel_rfl⟩
    · exact ⟨Tryd.func12, by kernel_rfl⟩
    · exact ⟨Tryd.func14, by kernel_rfl⟩
    · exact ⟨Tryd.func15, by kernel_rfl⟩
    · exact ⟨Tryd.func16, by kernel_rfl⟩
    · exact ⟨Tryd.func17, by kernel_rfl⟩
    · exact ⟨Tryd.func18, by kernel_rfl⟩
    · exact ⟨Tryd.func21, by kernel_rfl⟩
    · exact ⟨Tryd.func22, by kernel_rfl⟩
    · exact ⟨Tryd.func23, by kernel_rfl⟩
    · exact ⟨Tryd.func24, by kernel_rfl⟩
    · exact ⟨Tryd.func25, by kernel_rfl⟩
    · exact ⟨Tryd.func26, by kernel_rfl⟩
    · exact ⟨Tryd.func29, by kernel_rfl⟩
    · exact ⟨Tryd.func33, by kernel_rfl⟩
    · exact ⟨Tryd.func34, by kernel_rfl⟩
    · exact ⟨Tryd.func35, by kernel_rfl⟩
    · exact ⟨Tryd.func43, by kernel_rfl⟩
    · exact ⟨Tryd.func44, by kernel_rfl⟩)
  sites := sites_spec (fun _ => rfl) (by
    intro p hp
    simp only [List.mem_cons, List.not_mem_nil, or_false] at hp
    rcases hp with rfl | rfl | rfl | rfl | rfl | rfl | rfl | rfl | rfl | rfl | rfl | rfl | rfl | rfl | rfl | rfl | rfl | rfl | rfl | rfl | rfl
    · exact .inl (by kernel_rfl)
    · exact .inr ⟨by kernel_rfl, by kernel_rfl⟩
    · exact .inl (by kernel_rfl)
    · exact .inl (by kernel_rfl)
    · exact .inl (by kernel_rfl)
    · exact .inl (by kernel_rfl)
    · exact .inl (by kernel_rfl)
    · exact .inl (by kernel_rfl)
    · exact .inl (by kernel_rfl)
    · exact .inl (by kernel_rfl)
    · exact .inl (by kernel_rfl)
    · exact .inl (by kernel_rfl)
    · exact .inl (by kernel_rfl)
    · exact .inl (by kernel_rfl)
    · exact .inl (by kernel_rfl)
    · exact .inl (by kernel_rfl)
    · exact .inl (by kernel_rfl)
    · exact .inl (by kernel_rfl)
    · exact .inl (by kernel_rfl)
    · exact .inl (by kernel_rfl)
    · exact .inl (by kernel_rfl))
  site := fun g q h => site_spec (F := siteF) (L := siteL) (by
    intro p hp
    simp only [siteL, List.mem_cons, List.not_mem_nil, or_false] at hp
    first
    | exact hp.elim
    | (subst hp; exact ⟨by kernel_rfl, by kernel_rfl, by kernel_rfl⟩)
    | (rcases hp with rfl | rfl <;> exact ⟨by kernel_rfl, by kernel_rfl, by kernel_rfl⟩)) g q h
  foreign := fun f g h => by cases h
noncomputable def XFL : List (Nat × (XC × List ResultVar)) := [(6, (k6, [.tmp 0])), (9, (k9, [.cell 2 26])), (11, (k11, [.tmp 4])), (12, (k12, [.cell 4 32])), (14, (k14, [.tmp 2])), (15, (k15, [.cell 2 34])), (16, (k16, [.tmp 4])), (17, (k17, [.cell 2 32])), (18, (k18, [.tmp 2])), (21, (k21, [])), (22, (k22, [.tmp 5])), (23, (k23, [.tmp 4])), (24, (k24, [.tmp 2])), (25, (k25, [.tmp 2])), (26, (k26, [.tmp 2])), (29, (k29, [.tmp 2])), (33, (k33, [.tmp 4])), (34, (k34, [.tmp 4])), (35, (k35, [.cell 2 57])), (43, (k43, [.tmp 2])), (44, (k44, [.tmp 2]))]
theorem XFL_ok : XFok S0 (pickOf XFL) := xf_ok (by
    intro p hp
    simp only [XFL, List.mem_cons, List.not_mem_nil, or_false] at hp
    rcases hp with rfl | rfl | rfl | rfl | rfl | rfl | rfl | rfl | rfl | rfl | rfl | rfl | rfl | rfl | rfl | rfl | rfl | rfl | rfl | rfl | rfl
    · exact ⟨Tryd.f6, by kernel_rfl, k6_ok, by kernel_rfl⟩
    · exact ⟨Tryd.f9, by kernel_rfl, k9_ok, by kernel_rfl⟩
    · exact ⟨Tryd.f11, by kernel_rfl, k11_ok, by kernel_rfl⟩
    · exact ⟨Tryd.f12, by kernel_rfl, k12_ok, by kernel_rfl⟩
    · exact ⟨Tryd.f14, by kernel_rfl, k14_ok, by kernel_rfl⟩
    · exact ⟨Tryd.f15, by kernel_rfl, k15_ok, by kernel_rfl⟩
    · exact ⟨Tryd.f16, by kernel_rfl, k16_ok, by kernel_rfl⟩
    · exact ⟨Tryd.f17, by kernel_rfl, k17_ok, by kernel_rfl⟩
    · exact ⟨Tryd.f18, by kernel_rfl, k18_ok, by kernel_rfl⟩
    · exact ⟨Tryd.f21, by kernel_rfl, k21_ok, by kernel_rfl⟩
    · exact ⟨Tryd.f22, by kernel_rfl, k22_ok, by kernel_rfl⟩
    · exact ⟨Tryd.f23, by kernel_rfl, k23_ok, by kernel_rfl⟩
    · exact ⟨Tryd.f24, by kernel_rfl, k24_ok, by kernel_rfl⟩
    · exact ⟨Tryd.f25, by kernel_rfl, k25_ok, by kernel_rfl⟩
    · exact ⟨Tryd.f26, by kernel_rfl, k26_ok, by kernel_rfl⟩
    · exact ⟨Tryd.f29, by kernel_rfl, k29_ok, by kernel_rfl⟩
    · exact ⟨Tryd.f33, by kernel_rfl, k33_ok, by kernel_rfl⟩
    · exact ⟨Tryd.f34, by kernel_rfl, k34_ok, by kernel_rfl⟩
    · exact ⟨Tryd.f35, by kernel_rfl, k35_ok, by kernel_rfl⟩
    · exact ⟨Tryd.f43, by kernel_rfl, k43_ok, by kernel_rfl⟩
    · exact ⟨Tryd.f44, by kernel_rfl, k44_ok, by kernel_rfl⟩)
noncomputable def XSL : List (Nat × (Nat × List Nat × XC × XC)) := [(70, (9, [10, 11], ks70a, ks70b))]
theorem XSL_ok : XSok S0 (pickOf XSL) := xs_ok (by
    intro p hp
    simp only [XSL, List.mem_cons, List.not_mem_nil, or_false] at hp
    subst hp; exact ⟨ks70_ok, by kernel_rfl⟩)
theorem closed6 : callN S0 (pickOf XFL) (pickOf XSL) 5000 100 6 [] [] = some (.d (.bool true), []) := by kernel_rfl
end Go.Proofs.YtjoinlfkebgfkaaDoor
