/- Calls without arguments, worked out. -/
import Derived.Test.YtipkggkbldgmjaaGreatCYC
import Derived.Test.YtipkggkbldgmjaaGreatXEval
import Derived.ProofKit
namespace Go.Proofs.YtipkggkbldgmjaaGreat
open Go Go.X
set_option linter.unusedVariables false
set_option linter.unusedSimpArgs false
set_option maxRecDepth 100000
def k15 : XC :=
 .seq (.region [xo 0 (.assign xF) []])
 (.seq (.region [xo 6 (.call { callee := (.value (.func 31)), args := #[(xi .i64 1)], argTypes := #[2] }) [], xo 7 (.call { callee := (.value (.func 31)), args := #[(xi .i64 1)], argTypes := #[2] }) [], xo 8 (.build 40 #[(0, (xi .u8 1)), (1, (.const (.string { data := #[110] }))), (2, (xt 6)), (3, (xt 7))]) [6,7], xo 9 (.build 40 #[(0, (xi .u8 3)), (1, (.const (.string { data := #[99] })))]) [], xo 10 (.buildSlice 22 2 #[(0, (xt 8)), (1, (xt 9))]) [8,9], oA 1 10 []])
 (.seq (.region [oM 12 1 [], xo 13 (.call { callee := (.value (.func 31)), args := #[(xi .i64 2)], argTypes := #[2] }) [], xo 14 (.call { callee := (.value (.func 32)), args := #[(xt 12), (.const (.string { data := #[110] })), (xt 13)], argTypes := #[22, 9, 29] }) [12,13], oM 11 14 [14], xo 15 (.extract (xt 11) 0) [], xo 16 (.extract (xt 11) 1) [11], oA 2 15 [15], oA 3 16 []])
 (.seq (.region [oM 18 1 [], xo 19 (.call { callee := (.value (.func 31)), args := #[(xi .i64 2)], argTypes := #[2] }) [], xo 20 (.call { callee := (.value (.func 32)), args := #[(xt 18), (.const (.string { data := #[109] })), (xt 19)], argTypes := #[22, 9, 29] }) [18,19], oM 17 20 [20], xo 21 (.extract (xt 17) 0) [], xo 22 (.extract (xt 17) 1) [17], oA 4 21 [4,21], oA 5 22 []])
 (.seq (.bV [oM 23 3 [], oM 24 23 [23], gM 25 5 24 true [], xg 26 (.unOp .not 4 (xt 25)) 24 true [25], xo 27 (.pick (xt 24) (xt 26) xF) [24,26], oM 28 27 [27], gM 29 2 28 true [], xg 30 (xc 9 [29] [22]) 28 true [29], xo 31 (.pick (xt 28) (xt 30) xF) [28,30], oM 32 31 [31], gM 33 1 32 true [], xg 34 (xc 9 [33] [22]) 32 true [33], xg 35 (.unOp .not 4 (xt 34)) 32 true [34], xo 36 (.pick (xt 32) (xt 35) xF) [32,35], oM 37 36 [36], gM 38 2 37 true [], xg 39 (xc 33 [38] [22]) 37 true [38], xg 40 (xc 9 [39] [22]) 37 true [39], xg 41 (.unOp .not 4 (xt 40)) 37 true [40], xo 42 (.pick (xt 37) (xt 41) xF) [37,41], oM 43 42 [42], gM 44 1 43 true [], gM 45 2 43 true [], xg 46 (xc 7 [44,45] [22,22]) 43 true [44,45], xo 47 (.pick (xt 43) (xt 46) xF) [43,46], oM 48 47 [47], gM 49 2 48 true [], xg 50 (xc 11 [49] [22]) 48 true [49], xo 51 (.pick (xt 48) (xt 50) xF) [48,50], oA 0 51 []])
 (.ret)))))
theorem alj : Tryz.f15.body.map (strip (tab.ann 15)) = some k15 := by kernel_rfl
def k31 : XC :=
 .seq (.region [xo 2 (.alloc 29) []])
 (.seq (.region [oM 3 0 [0], xo 4 (.build 29 #[(0, (xi .u8 1)), (1, (xt 3))]) [3], xn (.store 29 (xt 2) (xt 4))])
 (.ret))
theorem alk : Tryz.f31.body.map (strip (tab.ann 31)) = some k31 := by kernel_rfl
def k32 : XC :=
 .seq (.region [oB 5 29 2 [2], xo 6 (.assign (.const (.slice none 0 0))) [28], xo 7 (.assign xF) []])
 (.seq (.region [oM 10 0 [], oM 11 1 [1], xo 12 (xc 17 [10,11] [22,9]) [10,11], oA 8 12 []])
 (.seq (.seq (.bV [oM 13 8 [], xo 14 (.binOp .lss 3 (xt 13) (xi .i64 0) 3) [13], oM 15 14 [14], gL 16 29 5 15 false [], xg 17 (xc 49 [16] [29]) 15 false [16], xg 18 (.unOp .not 4 (xt 17)) 15 false [17], xo 19 (.pick (xt 15) xT (xt 18)) []])
 (.cond 19 (.seq (.region [xo 6 (.assign (.const (.slice none 0 0))) [28], xo 7 (.assign xF) []])
 (.ret)) (.skip)))
 (.seq (.region [oM 20 0 [0], xo 21 (xc 64 [20] [22]) [20], oA 9 21 []])
 (.seq (.region [oM 22 9 [], oM 23 8 [], oL 24 29 5 [], xo 25 (xc 18 [24] [29]) [24], oI 26 22 22 23 [22,23], oF 27 40 26 3 [26], xn (.store 29 (xt 27) (xt 25))])
 (.seq (.region [oM 28 9 [], oA 6 28 [28], xo 7 (.assign xT) []])
 (.ret))))))
theorem alm : Tryz.f32.body.map (strip (tab.ann 32)) = some k32 := by kernel_rfl
def k33 : XC :=
 .seq (.region [xo 2 (.assign (.const (.slice none 0 0))) []])
 (.seq (.region [oM 5 0 [0], xo 6 (xc 64 [5] [22]) [5], oA 3 6 []])
 (.seq (.seq (.region [oM 7 3 [], xo 8 (xb .len [7] [22]) [7], xo 9 (.move (xi .i64 0)) []])
 (.block 0 (.loop (.seq (.region [xo 10 (.binOp .lss 3 (xt 9) (xt 8) 3) []])
 (.seq (.cond 10 (.skip) (.exit 0))
 (.seq (.block 1 (.seq (.region [oM 11 9 [], oA 4 11 []])
 (.seq (.region [oM 12 3 [], oM 13 4 [], oI 14 22 12 13 [12,13], oF 15 40 14 0 [14], oL 16 37 15 [15], xo 17 (.binOp .eql 37 (xt 16) (xi .u8 1) 37) []])
 (.cond 17 (.region [oM 18 3 [], oM 19 4 [], oM 20 3 [], oM 21 4 [], oI 22 22 20 21 [20,21], oF 23 40 22 3 [22], oL 24 29 23 [23], xo 25 (xc 18 [24] [29]) [24], oI 26 22 18 19 [18,19], oF 27 40 26 2 [26], xn (.store 29 (xt 27) (xt 25))]) (.skip)))))
 (.region [xo 28 (.binOp .add 3 (xt 9) (xi .i64 1) 3) [], oM 9 28 []])))))))
 (.seq (.region [oM 29 3 [], oA 2 29 []])
 (.ret))))
theorem aln : Tryz.f33.body.map (strip (tab.ann 33)) = some k33 := by kernel_rfl
def k64 : XC :=
 .seq (.region [xo 2 (.assign (.const (.slice none 0 0))) []])
 (.seq (.region [oM 5 0 [0], xo 6 (xc 83 [5] [22]) [5], oA 3 6 []])
 (.seq (.seq (.region [oM 7 3 [], xo 8 (xb .len [7] [22]) [7], xo 9 (.move (xi .i64 0)) []])
 (.block 0 (.loop (.seq (.region [xo 10 (.binOp .lss 3 (xt 9) (xt 8) 3) []])
 (.seq (.cond 10 (.skip) (.exit 0))
 (.seq (.block 1 (.seq (.region [oM 11 9 [], oA 4 11 []])
 (.region [oM 12 3 [], oM 13 4 [], oM 14 3 [], oM 15 4 [], oI 16 22 14 15 [14,15], oL 17 40 16 [16], xo 18 (xc 84 [17] [40]) [17], oI 19 22 12 13 [12,13], xn (.store 40 (xt 19) (xt 18))])))
 (.region [xo 20 (.binOp .add 3 (xt 9) (xi .i64 1) 3) [], oM 9 20 []])))))))
 (.seq (.region [oM 21 3 [], xo 22 (xc 85 [21] [22]) [21], oA 2 22 []])
 (.ret))))
theorem alo : Tryz.f64.body.map (strip (tab.ann 64)) = some k64 := by kernel_rfl
def k83 : XC :=
 .seq (.region [xo 2 (.assign (.const (.slice none 0 0))) []])
 (.seq (.seq (.bV [oM 3 0 [], xo 4 (.binOp .eql 22 (xt 3) (.const (.slice none 0 0)) 22) []])
 (.cond 4 (.seq (.region [xo 2 (.assign (.const (.slice none 0 0))) []])
 (.ret)) (.skip)))
 (.seq (.bV [xo 5 (.buildSlice 22 0 #[]) [], oM 6 0 [0], xo 7 (xb .append [5,6] [22,22]) [5,6], oA 2 7 []])
 (.ret)))
theorem alp : Tryz.f83.body.map (strip (tab.ann 83)) = some k83 := by kernel_rfl
def k84 : XC :=
 .seq (.region [oB 1 40 0 [0], xo 2 (.alloc 40) []])
 (.seq (.region [oF 3 40 1 2 [], oL 4 29 3 [], xk 5 (xc 18 [4] [29]) [], oF 6 40 1 3 [], oL 7 29 6 [], xk 8 (xc 18 [7] [29]) [], oF 9 40 1 2 [], xn (.store 29 (xt 9) (xt 5)), oF 10 40 1 3 [], xn (.store 29 (xt 10) (xt 8))])
 (.seq (.region [oF 11 40 1 4 [], oL 12 25 11 [11], xo 13 (xc 39 [12] [25]) [12], oF 14 40 1 4 [], xn (.store 25 (xt 14) (xt 13))])
 (.seq (.region [oF 15 40 1 5 [], oL 16 38 15 [], xk 17 (xc 97 [16] [38]) [], oF 18 40 1 6 [], oL 19 38 18 [], xk 20 (xc 97 [19] [38]) [], oF 21 40 1 10 [], oL 22 38 21 [], xk 23 (xc 97 [22] [38]) [], oF 24 40 1 5 [], xn (.store 38 (xt 24) (xt 17)), oF 25 40 1 6 [], xn (.store 38 (xt 25) (xt 20)), oF 26 40 1 10 [], xn (.store 38 (xt 26) (xt 23))])
 (.seq (.region [oF 27 40 1 7 [], oL 28 26 27 [], xk 29 (xc 40 [28] [26]) [], oF 30 40 1 11 [], oL 31 26 30 [], xk 32 (xc 40 [31] [26]) [], oF 33 40 1 7 [], xn (.store 26 (xt 33) (xt 29)), oF 34 40 1 11 [], xn (.store 26 (xt 34) (xt 32))])
 (.seq (.region [oL 35 40 1 [], xn (.store 40 (xt 2) (xt 35))])
 (.ret))))))
theorem alq : Tryz.f84.body.map (strip (tab.ann 84)) = some k84 := by kernel_rfl
def k85 : XC :=
 .seq (.region [xo 2 (.assign (.const (.slice none 0 0))) []])
 (.seq (.region [oM 3 0 [], oM 4 0 [], xo 5 (xb .len [4] [22]) [4], oM 6 0 [], xo 7 (xb .len [6] [22]) [6], xo 8 (.slice 22 (xt 3) none (some (xt 5)) (some (xt 7))) [3,5,7], oA 2 8 []])
 (.ret))
theorem alr : Tryz.f85.body.map (strip (tab.ann 85)) = some k85 := by kernel_rfl
def k97 : XC :=
 .seq (.region [xo 2 (.assign (.const (.slice none 0 0))) []])
 (.seq (.region [oM 5 0 [0], xo 6 (xc 108 [5] [38]) [5], oA 3 6 []])
 (.seq (.seq (.region [oM 7 3 [], xo 8 (xb .len [7] [38]) [7], xo 9 (.move (xi .i64 0)) []])
 (.block 0 (.loop (.seq (.region [xo 10 (.binOp .lss 3 (xt 9) (xt 8) 3) []])
 (.seq (.cond 10 (.skip) (.exit 0))
 (.seq (.block 1 (.seq (.region [oM 11 9 [], oA 4 11 []])
 (.region [oM 12 3 [], oM 13 4 [], oM 14 3 [], oM 15 4 [], oI 16 38 14 15 [14,15], oF 17 76 16 2 [16], oL 18 74 17 [17], xo 19 (xc 109 [18] [74]) [18], oI 20 38 12 13 [12,13], oF 21 76 20 2 [20], xn (.store 74 (xt 21) (xt 19))])))
 (.region [xo 22 (.binOp .add 3 (xt 9) (xi .i64 1) 3) [], oM 9 22 []])))))))
 (.seq (.region [oM 23 3 [], xo 24 (xc 110 [23] [38]) [23], oA 2 24 []])
 (.ret))))
theorem als : Tryz.f97.body.map (strip (tab.ann 97)) = some k97 := by kernel_rfl
def apJ : XC :=
 .seq (.region [xo 2 (.assign (.const (.slice none 0 0))) []])
 (.seq (.seq (.bV [oM 3 0 [], xo 4 (.binOp .eql 38 (xt 3) (.const (.slice none 0 0)) 38) []])
 (.cond 4 (.seq (.region [xo 2 (.assign (.const (.slice none 0 0))) []])
 (.ret)) (.skip)))
 (.seq (.bV [xo 5 (.buildSlice 38 0 #[]) [], oM 6 0 [0], xo 7 (xb .append [5,6] [38,38]) [5,6], oA 2 7 []])
 (.ret)))
theorem agH : Tryz.f108.body.map (strip (tab.ann 108)) = some apJ := by kernel_rfl
def apK : XC :=
 .seq (.region [oB 1 74 0 [0], xo 2 (.alloc 74) []])
 (.seq (.region [oF 3 74 1 3 [], oL 4 71 3 [], xk 5 (xc 111 [4] [71]) [], oF 6 74 1 5 [], oL 7 71 6 [], xk 8 (xc 111 [7] [71]) [], oF 9 74 1 7 [], oL 10 71 9 [], xk 11 (xc 111 [10] [71]) [], oF 12 74 1 3 [], xn (.store 71 (xt 12) (xt 5)), oF 13 74 1 5 [], xn (.store 71 (xt 13) (xt 8)), oF 14 74 1 7 [], xn (.store 71 (xt 14) (xt 11))])
 (.seq (.region [oF 15 74 1 4 [], oL 16 72 15 [15], xo 17 (xc 113 [16] [72]) [16], xo 18 (xc 112 [17] [72]) [17], oF 19 74 1 4 [], xn (.store 72 (xt 19) (xt 18))])
 (.seq (.region [oF 20 74 1 8 [], oL 21 38 20 [20], xo 22 (xc 97 [21] [38]) [21], oF 23 74 1 8 [], xn (.store 38 (xt 23) (xt 22))])
 (.seq (.region [oL 24 74 1 [], xn (.store 74 (xt 2) (xt 24))])
 (.ret)))))
theorem agI : Tryz.f109.body.map (strip (tab.ann 109)) = some apK := by kernel_rfl
def apL : XC :=
 .seq (.region [xo 2 (.assign (.const (.slice none 0 0))) []])
 (.seq (.region [oM 3 0 [], oM 4 0 [], xo 5 (xb .len [4] [38]) [4], oM 6 0 [0], xo 7 (xb .len [6] [38]) [6], xo 8 (.slice 38 (xt 3) none (some (xt 5)) (some (xt 7))) [3,5,7], oA 2 8 []])
 (.ret))
theorem agJ : Tryz.f110.body.map (strip (tab.ann 110)) = some apL := by kernel_rfl
def apM : XC :=
 .seq (.region [xo 2 (.assign (.const (.slice none 0 0))) []])
 (.seq (.region [oM 5 0 [0], xo 6 (xc 114 [5] [71]) [5], oA 3 6 []])
 (.seq (.seq (.region [oM 7 3 [], xo 8 (xb .len [7] [71]) [7], xo 9 (.move (xi .i64 0)) []])
 (.block 0 (.loop (.seq (.region [xo 10 (.binOp .lss 3 (xt 9) (xt 8) 3) []])
 (.seq (.cond 10 (.skip) (.exit 0))
 (.seq (.block 1 (.seq (.region [oM 11 9 [], oA 4 11 []])
 (.region [oM 12 3 [], oM 13 4 [], oM 14 3 [], oM 15 4 [], oI 16 71 14 15 [14,15], oL 17 74 16 [16], xo 18 (xc 109 [17] [74]) [17], oI 19 71 12 13 [12,13], xn (.store 74 (xt 19) (xt 18))])))
 (.region [xo 20 (.binOp .add 3 (xt 9) (xi .i64 1) 3) [], oM 9 20 []])))))))
 (.seq (.region [oM 21 3 [], xo 22 (xc 115 [21] [71]) [21], oA 2 22 []])
 (.ret))))
theorem agK : Tryz.f111.body.map (strip (tab.ann 111)) = some apM := by kernel_rfl
def apN : XC :=
 .seq (.region [xo 2 (.assign (.const (.slice none 0 0))) []])
 (.seq (.region [oM 3 0 [], oM 4 0 [], xo 5 (xb .len [4] [72]) [4], oM 6 0 [0], xo 7 (xb .len [6] [72]) [6], xo 8 (.slice 72 (xt 3) none (some (xt 5)) (some (xt 7))) [3,5,7], oA 2 8 []])
 (.ret))
theorem agL : Tryz.f112.body.map (strip (tab.ann 112)) = some apN := by kernel_rfl
def apO : XC :=
 .seq (.region [xo 2 (.assign (.const (.slice none 0 0))) []])
 (.seq (.seq (.bV [oM 3 0 [], xo 4 (.binOp .eql 72 (xt 3) (.const (.slice none 0 0)) 72) []])
 (.cond 4 (.seq (.region [xo 2 (.assign (.const (.slice none 0 0))) []])
 (.ret)) (.skip)))
 (.seq (.bV [xo 5 (.buildSlice 72 0 #[]) [], oM 6 0 [0], xo 7 (xb .append [5,6] [72,72]) [5,6], oA 2 7 []])
 (.ret)))
theorem agM : Tryz.f113.body.map (strip (tab.ann 113)) = some apO := by kernel_rfl
def apP : XC :=
 .seq (.region [xo 2 (.assign (.const (.slice none 0 0))) []])
 (.seq (.seq (.bV [oM 3 0 [], xo 4 (.binOp .eql 71 (xt 3) (.const (.slice none 0 0)) 71) []])
 (.cond 4 (.seq (.region [xo 2 (.assign (.const (.slice none 0 0))) []])
 (.ret)) (.skip)))
 (.seq (.bV [xo 5 (.buildSlice 71 0 #[]) [], oM 6 0 [0], xo 7 (xb .append [5,6] [71,71]) [5,6], oA 2 7 []])
 (.ret)))
theorem agN : Tryz.f114.body.map (strip (tab.ann 114)) = some apP := by kernel_rfl
def apQ : XC :=
 .seq (.region [xo 2 (.assign (.const (.slice none 0 0))) []])
 (.seq (.region [oM 3 0 [], oM 4 0 [], xo 5 (xb .len [4] [71]) [4], oM 6 0 [0], xo 7 (xb .len [6] [71]) [6], xo 8 (.slice 71 (xt 3) none (some (xt 5)) (some (xt 7))) [3,5,7], oA 2 8 []])
 (.ret))
theorem agO : Tryz.f115.body.map (strip (tab.ann 115)) = some apQ := by kernel_rfl
noncomputable def S0 : X.Sys := { fn := Ch [(7, Tryz.f7), (9, Tryz.f9), (11, Tryz.f11), (15, Tryz.f15), (17, Tryz.f17), (18, Tryz.f18), (20, Tryz.f20), (21, Tryz.f21), (22, Tryz.f22), (23, Tryz.f23), (24, Tryz.f24), (26, Tryz.f26), (31, Tryz.f31), (32, Tryz.f32), (33, Tryz.f33), (38, Tryz.f38), (39, Tryz.f39), (40, Tryz.f40), (41, Tryz.f41), (42, Tryz.f42), (43, Tryz.f43), (44, Tryz.f44), (45, Tryz.f45), (47, Tryz.f47), (48, Tryz.f48), (49, Tryz.f49), (50, Tryz.f50), (51, Tryz.f51), (52, Tryz.f52), (64, Tryz.f64), (67, Tryz.f67), (68, Tryz.f68), (69, Tryz.f69), (70, Tryz.f70), (71, Tryz.f71), (72, Tryz.f72), (73, Tryz.f73), (74, Tryz.f74), (75, Tryz.f75), (76, Tryz.f76), (77, Tryz.f77), (83, Tryz.f83), (84, Tryz.f84), (85, Tryz.f85), (87, Tryz.f87), (88, Tryz.f88), (89, Tryz.f89), (90, Tryz.f90), (91, Tryz.f91), (97, Tryz.f97), (100, Tryz.f100), (101, Tryz.f101), (102, Tryz.f102), (103, Tryz.f103), (108, Tryz.f108), (109, Tryz.f109), (110, Tryz.f110), (111, Tryz.f111), (112, Tryz.f112), (113, Tryz.f113), (114, Tryz.f114), (115, Tryz.f115)], tab := tab, foreign := fun _ => none }
theorem agP : vH Tryz.prog S0 where
 tab := Md
 mixed := by kernel_rfl
 fn := Ef (by
  intro p hp
  simp only [List.mem_cons, List.not_mem_nil, or_false] at hp
  rcases hp with rfl | rfl | rfl | rfl | rfl | rfl | rfl | rfl | rfl | rfl | rfl | rfl | rfl | rfl | rfl | rfl | rfl | rfl | rfl | rfl | rfl | rfl | rfl | rfl | rfl | rfl | rfl | rfl | rfl | rfl | rfl | rfl | rfl | rfl | rfl | rfl | rfl | rfl | rfl | rfl | rfl | rfl | rfl | rfl | rfl | rfl | rfl | rfl | rfl | rfl | rfl | rfl | rfl | rfl | rfl | rfl | rfl | rfl | rfl | rfl | rfl | rfl
  ·exact ⟨Tryz.func7, by kernel_rfl⟩
  ·exact ⟨Tryz.func9, by kernel_rfl⟩
  ·exact ⟨Tryz.func11, by kernel_rfl⟩
  ·exact ⟨Tryz.func15, by kernel_rfl⟩
  ·exact ⟨Tryz.func17, by kernel_rfl⟩
  ·exact ⟨Tryz.func18, by kernel_rfl⟩
  ·exact ⟨Tryz.func20, by kernel_rfl⟩
  ·exact ⟨Tryz.func21, by kernel_rfl⟩
  ·exact ⟨Tryz.func22, by kernel_rfl⟩
  ·exact ⟨Tryz.func23, by kernel_rfl⟩
  ·exact ⟨Tryz.func24, by kernel_rfl⟩
  ·exact ⟨Tryz.func26, by kernel_rfl⟩
  ·exact ⟨Tryz.func31, by kernel_rfl⟩
  ·exact ⟨Tryz.func32, by kernel_rfl⟩
  ·exact ⟨Tryz.func33, by kernel_rfl⟩
  ·exact ⟨Tryz.func38, by kernel_rfl⟩
  ·exact ⟨Tryz.func39, by kernel_rfl⟩
  ·exact ⟨Tryz.func40, by kernel_rfl⟩
  ·exact ⟨Tryz.func41, by kernel_rfl⟩
  ·exact ⟨Tryz.func42, by kernel_rfl⟩
  ·exact ⟨Tryz.func43, by kernel_rfl⟩
  ·exact ⟨Tryz.func44, by kernel_rfl⟩
  ·exact ⟨Tryz.func45, by kernel_rfl⟩
  ·exact ⟨Tryz.func47, by kernel_rfl⟩
  ·exact ⟨Tryz.func48, by kernel_rfl⟩
  ·exact ⟨Tryz.func49, by kernel_rfl⟩
  ·exact ⟨Tryz.func50, by kernel_rfl⟩
  ·exact ⟨Tryz.func51, by kernel_rfl⟩
  ·exact ⟨Tryz.func52, by kernel_rfl⟩
  ·exact ⟨Tryz.func64, by kernel_rfl⟩
  ·exact ⟨Tryz.func67, by kernel_rfl⟩
  ·exact ⟨Tryz.func68, by kernel_rfl⟩
  ·exact ⟨Tryz.func69, by kernel_rfl⟩
  ·exact ⟨Tryz.func70, by kernel_rfl⟩
  ·exact ⟨Tryz.func71, by kernel_rfl⟩
  ·exact ⟨Tryz.func72, by kernel_rfl⟩
  ·exact ⟨Tryz.func73, by kernel_rfl⟩
  ·exact ⟨Tryz.func74, by kernel_rfl⟩
  ·exact ⟨Tryz.func75, by kernel_rfl⟩
  ·exact ⟨Tryz.func76, by kernel_rfl⟩
  ·exact ⟨Tryz.func77, by kernel_rfl⟩
  ·exact ⟨Tryz.func83, by kernel_rfl⟩
  ·exact ⟨Tryz.func84, by kernel_rfl⟩
  ·exact ⟨Tryz.func85, by kernel_rfl⟩
  ·exact ⟨Tryz.func87, by kernel_rfl⟩
  ·exact ⟨Tryz.func88, by kernel_rfl⟩
  ·exact ⟨Tryz.func89, by kernel_rfl⟩
  ·exact ⟨Tryz.func90, by kernel_rfl⟩
  ·exact ⟨Tryz.func91, by kernel_rfl⟩
  ·exact ⟨Tryz.func97, by kernel_rfl⟩
  ·exact ⟨Tryz.func100, by kernel_rfl⟩
  ·exact ⟨Tryz.func101, by kernel_rfl⟩
  ·exact ⟨Tryz.func102, by kernel_rfl⟩
  ·exact ⟨Tryz.func103, by kernel_rfl⟩
  ·exact ⟨Tryz.func108, by kernel_rfl⟩
  ·exact ⟨Tryz.func109, by kernel_rfl⟩
  ·exact ⟨Tryz.func110, by kernel_rfl⟩
  ·exact ⟨Tryz.func111, by kernel_rfl⟩
  ·exact ⟨Tryz.func112, by kernel_rfl⟩
  ·exact ⟨Tryz.func113, by kernel_rfl⟩
  ·exact ⟨Tryz.func114, by kernel_rfl⟩
  ·exact ⟨Tryz.func115, by kernel_rfl⟩)
 sites := zQ (fun _ => rfl) (by
  intro p hp
  simp only [List.mem_cons, List.not_mem_nil, or_false] at hp
  rcases hp with rfl | rfl | rfl | rfl | rfl | rfl | rfl | rfl | rfl | rfl | rfl | rfl | rfl | rfl | rfl | rfl | rfl | rfl | rfl | rfl | rfl | rfl | rfl | rfl | rfl | rfl | rfl | rfl | rfl | rfl | rfl | rfl | rfl | rfl | rfl | rfl | rfl | rfl | rfl | rfl | rfl | rfl | rfl | rfl | rfl | rfl | rfl | rfl | rfl | rfl | rfl | rfl | rfl | rfl | rfl | rfl | rfl | rfl | rfl | rfl | rfl | rfl
  ·exact .inl (by kernel_rfl)
  ·exact .inl (by kernel_rfl)
  ·exact .inl (by kernel_rfl)
  ·exact .inl (by kernel_rfl)
  ·exact .inl (by kernel_rfl)
  ·exact .inl (by kernel_rfl)
  ·exact .inl (by kernel_rfl)
  ·exact .inl (by kernel_rfl)
  ·exact .inl (by kernel_rfl)
  ·exact .inl (by kernel_rfl)
  ·exact .inl (by kernel_rfl)
  ·exact .inl (by kernel_rfl)
  ·exact .inl (by kernel_rfl)
  ·exact .inl (by kernel_rfl)
  ·exact .inl (by kernel_rfl)
  ·exact .inl (by kernel_rfl)
  ·exact .inl (by kernel_rfl)
  ·exact .inl (by kernel_rfl)
  ·exact .inl (by kernel_rfl)
  ·exact .inl (by kernel_rfl)
  ·exact .inl (by kernel_rfl)
  ·exact .inl (by kernel_rfl)
  ·exact .inl (by kernel_rfl)
  ·exact .inl (by kernel_rfl)
  ·exact .inl (by kernel_rfl)
  ·exact .inl (by kernel_rfl)
  ·exact .inl (by kernel_rfl)
  ·exact .inl (by kernel_rfl)
  ·exact .inl (by kernel_rfl)
  ·exact .inl (by kernel_rfl)
  ·exact .inl (by kernel_rfl)
  ·exact .inl (by kernel_rfl)
  ·exact .inl (by kernel_rfl)
  ·exact .inl (by kernel_rfl)
  ·exact .inl (by kernel_rfl)
  ·exact .inl (by kernel_rfl)
  ·exact .inl (by kernel_rfl)
  ·exact .inl (by kernel_rfl)
  ·exact .inl (by kernel_rfl)
  ·exact .inl (by kernel_rfl)
  ·exact .inl (by kernel_rfl)
  ·exact .inl (by kernel_rfl)
  ·exact .inl (by kernel_rfl)
  ·exact .inl (by kernel_rfl)
  ·exact .inl (by kernel_rfl)
  ·exact .inl (by kernel_rfl)
  ·exact .inl (by kernel_rfl)
  ·exact .inl (by kernel_rfl)
  ·exact .inl (by kernel_rfl)
  ·exact .inl (by kernel_rfl)
  ·exact .inl (by kernel_rfl)
  ·exact .inl (by kernel_rfl)
  ·exact .inl (by kernel_rfl)
  ·exact .inl (by kernel_rfl)
  ·exact .inl (by kernel_rfl)
  ·exact .inl (by kernel_rfl)
  ·exact .inl (by kernel_rfl)
  ·exact .inl (by kernel_rfl)
  ·exact .inl (by kernel_rfl)
  ·exact .inl (by kernel_rfl)
  ·exact .inl (by kernel_rfl)
  ·exact .inl (by kernel_rfl))
 site := fun g q h => Eh (F := abw) (L := abx) (by
  intro p hp
  cases hp) g q h
 foreign := fun f g h => by cases h
noncomputable def XFL : List (Nat × (XC × List ResultVar)) := [(7, (c7, [.tmp 4])), (9, (c9, [.tmp 2])), (11, (c11, [.tmp 2])), (15, (k15, [.tmp 0])), (17, (c17, [.tmp 4])), (18, (c18, [.cell 2 29])), (20, (c20, [.tmp 6])), (21, (c21, [.tmp 4])), (22, (c22, [.tmp 6])), (23, (c23, [.tmp 2])), (24, (c24, [.tmp 4])), (26, (c26, [.tmp 2])), (31, (k31, [.cell 2 29])), (32, (k32, [.tmp 6, .tmp 7])), (33, (k33, [.tmp 2])), (38, (c38, [.tmp 3])), (39, (c39, [.tmp 2])), (40, (c40, [.tmp 2])), (41, (c41, [.tmp 4])), (42, (c42, [.tmp 4])), (43, (c43, [.tmp 4])), (44, (c44, [.tmp 6])), (45, (c45, [.tmp 4])), (47, (c47, [.tmp 4])), (48, (c48, [.tmp 2])), (49, (c49, [.tmp 2])), (50, (c50, [.tmp 2])), (51, (c51, [.tmp 2])), (52, (c52, [.tmp 2])), (64, (k64, [.tmp 2])), (67, (c67, [.tmp 2])), (68, (c68, [.tmp 2])), (69, (c69, [.tmp 2])), (70, (c70, [.tmp 2])), (71, (c71, [.tmp 4])), (72, (c72, [.tmp 6])), (73, (c73, [.tmp 4])), (74, (c74, [.tmp 4])), (75, (c75, [])), (76, (c76, [.tmp 6])), (77, (c77, [.tmp 2])), (83, (k83, [.tmp 2])), (84, (k84, [.cell 2 40])), (85, (k85, [.tmp 2])), (87, (c87, [.tmp 6])), (88, (c88, [.tmp 2])), (89, (c89, [.tmp 2])), (90, (c90, [.tmp 3])), (91, (c91, [.tmp 4])), (97, (k97, [.tmp 2])), (100, (ald, [.tmp 2, .tmp 3])), (101, (ale, [.tmp 6])), (102, (alf, [.tmp 4])), (103, (alg, [.tmp 4])), (108, (apJ, [.tmp 2])), (109, (apK, [.cell 2 74])), (110, (apL, [.tmp 2])), (111, (apM, [.tmp 2])), (112, (apN, [.tmp 2])), (113, (apO, [.tmp 2])), (114, (apP, [.tmp 2])), (115, (apQ, [.tmp 2]))]
theorem alu : agD S0 (pG XFL) := apz (by
  intro p hp
  simp only [XFL, List.mem_cons, List.not_mem_nil, or_false] at hp
  rcases hp with rfl | rfl | rfl | rfl | rfl | rfl | rfl | rfl | rfl | rfl | rfl | rfl | rfl | rfl | rfl | rfl | rfl | rfl | rfl | rfl | rfl | rfl | rfl | rfl | rfl | rfl | rfl | rfl | rfl | rfl | rfl | rfl | rfl | rfl | rfl | rfl | rfl | rfl | rfl | rfl | rfl | rfl | rfl | rfl | rfl | rfl | rfl | rfl | rfl | rfl | rfl | rfl | rfl | rfl | rfl | rfl | rfl | rfl | rfl | rfl | rfl | rfl
  ·exact ⟨Tryz.f7, by kernel_rfl, ajk, by kernel_rfl⟩
  ·exact ⟨Tryz.f9, by kernel_rfl, ajl, by kernel_rfl⟩
  ·exact ⟨Tryz.f11, by kernel_rfl, aby, by kernel_rfl⟩
  ·exact ⟨Tryz.f15, by kernel_rfl, alj, by kernel_rfl⟩
  ·exact ⟨Tryz.f17, by kernel_rfl, abA, by kernel_rfl⟩
  ·exact ⟨Tryz.f18, by kernel_rfl, abB, by kernel_rfl⟩
  ·exact ⟨Tryz.f20, by kernel_rfl, abC, by kernel_rfl⟩
  ·exact ⟨Tryz.f21, by kernel_rfl, abD, by kernel_rfl⟩
  ·exact ⟨Tryz.f22, by kernel_rfl, Vn, by kernel_rfl⟩
  ·exact ⟨Tryz.f23, by kernel_rfl, abE, by kernel_rfl⟩
  ·exact ⟨Tryz.f24, by kernel_rfl, abF, by kernel_rfl⟩
  ·exact ⟨Tryz.f26, by kernel_rfl, abG, by kernel_rfl⟩
  ·exact ⟨Tryz.f31, by kernel_rfl, alk, by kernel_rfl⟩
  ·exact ⟨Tryz.f32, by kernel_rfl, alm, by kernel_rfl⟩
  ·exact ⟨Tryz.f33, by kernel_rfl, aln, by kernel_rfl⟩
  ·exact ⟨Tryz.f38, by kernel_rfl, abH, by kernel_rfl⟩
  ·exact ⟨Tryz.f39, by kernel_rfl, abI, by kernel_rfl⟩
  ·exact ⟨Tryz.f40, by kernel_rfl, abJ, by kernel_rfl⟩
  ·exact ⟨Tryz.f41, by kernel_rfl, Vo, by kernel_rfl⟩
  ·exact ⟨Tryz.f42, by kernel_rfl, Vp, by kernel_rfl⟩
  ·exact ⟨Tryz.f43, by kernel_rfl, abK, by kernel_rfl⟩
  ·exact ⟨Tryz.f44, by kernel_rfl, abL, by kernel_rfl⟩
  ·exact ⟨Tryz.f45, by kernel_rfl, abM, by kernel_rfl⟩
  ·exact ⟨Tryz.f47, by kernel_rfl, abN, by kernel_rfl⟩
  ·exact ⟨Tryz.f48, by kernel_rfl, abO, by kernel_rfl⟩
  ·exact ⟨Tryz.f49, by kernel_rfl, abP, by kernel_rfl⟩
  ·exact ⟨Tryz.f50, by kernel_rfl, abQ, by kernel_rfl⟩
  ·exact ⟨Tryz.f51, by kernel_rfl, abR, by kernel_rfl⟩
  ·exact ⟨Tryz.f52, by kernel_rfl, abS, by kernel_rfl⟩
  ·exact ⟨Tryz.f64, by kernel_rfl, alo, by kernel_rfl⟩
  ·exact ⟨Tryz.f67, by kernel_rfl, abW, by kernel_rfl⟩
  ·exact ⟨Tryz.f68, by kernel_rfl, abX, by kernel_rfl⟩
  ·exact ⟨Tryz.f69, by kernel_rfl, abY, by kernel_rfl⟩
  ·exact ⟨Tryz.f70, by kernel_rfl, abZ, by kernel_rfl⟩
  ·exact ⟨Tryz.f71, by kernel_rfl, ab0, by kernel_rfl⟩
  ·exact ⟨Tryz.f72, by kernel_rfl, ab1, by kernel_rfl⟩
  ·exact ⟨Tryz.f73, by kernel_rfl, ab2, by kernel_rfl⟩
  ·exact ⟨Tryz.f74, by kernel_rfl, ab3, by kernel_rfl⟩
  ·exact ⟨Tryz.f75, by kernel_rfl, ab4, by kernel_rfl⟩
  ·exact ⟨Tryz.f76, by kernel_rfl, ab5, by kernel_rfl⟩
  ·exact ⟨Tryz.f77, by kernel_rfl, ab6, by kernel_rfl⟩
  ·exact ⟨Tryz.f83, by kernel_rfl, alp, by kernel_rfl⟩
  ·exact ⟨Tryz.f84, by kernel_rfl, alq, by kernel_rfl⟩
  ·exact ⟨Tryz.f85, by kernel_rfl, alr, by kernel_rfl⟩
  ·exact ⟨Tryz.f87, by kernel_rfl, ab7, by kernel_rfl⟩
  ·exact ⟨Tryz.f88, by kernel_rfl, ab8, by kernel_rfl⟩
  ·exact ⟨Tryz.f89, by kernel_rfl, ab9, by kernel_rfl⟩
  ·exact ⟨Tryz.f90, by kernel_rfl, acd, by kernel_rfl⟩
  ·exact ⟨Tryz.f91, by kernel_rfl, ace, by kernel_rfl⟩
  ·exact ⟨Tryz.f97, by kernel_rfl, als, by kernel_rfl⟩
  ·exact ⟨Tryz.f100, by kernel_rfl, Xt, by kernel_rfl⟩
  ·exact ⟨Tryz.f101, by kernel_rfl, Xu, by kernel_rfl⟩
  ·exact ⟨Tryz.f102, by kernel_rfl, Xv, by kernel_rfl⟩
  ·exact ⟨Tryz.f103, by kernel_rfl, Xw, by kernel_rfl⟩
  ·exact ⟨Tryz.f108, by kernel_rfl, agH, by kernel_rfl⟩
  ·exact ⟨Tryz.f109, by kernel_rfl, agI, by kernel_rfl⟩
  ·exact ⟨Tryz.f110, by kernel_rfl, agJ, by kernel_rfl⟩
  ·exact ⟨Tryz.f111, by kernel_rfl, agK, by kernel_rfl⟩
  ·exact ⟨Tryz.f112, by kernel_rfl, agL, by kernel_rfl⟩
  ·exact ⟨Tryz.f113, by kernel_rfl, agM, by kernel_rfl⟩
  ·exact ⟨Tryz.f114, by kernel_rfl, agN, by kernel_rfl⟩
  ·exact ⟨Tryz.f115, by kernel_rfl, agO, by kernel_rfl⟩)
noncomputable def XSL : List (Nat × (Nat × List Nat × XC × XC)) := []
theorem alv : agE S0 (pG XSL) := apA (by
  intro p hp
  cases hp)
theorem acJ : FB S0 (pG XFL) (pG XSL) 5000 100 15 [] [] = some (.d (.bool true), []) := by kernel_rfl
end Go.Proofs.YtipkggkbldgmjaaGreat
