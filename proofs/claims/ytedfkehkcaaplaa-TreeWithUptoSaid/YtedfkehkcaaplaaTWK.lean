/- Calls without arguments, worked out. -/
import Derived.Test.YtedfkehkcaaplaaTWC
import Derived.Test.YtedfkehkcaaplaaXEval
import Derived.ProofKit
namespace Go.Proofs.Ytedfkehkcaaplaa
open Go Go.X
set_option linter.unusedVariables false
set_option linter.unusedSimpArgs false
set_option maxRecDepth 100000
def k7 : XC :=
 .seq (.region [xo 0 (.assign xF) []])
 (.seq (.region [xo 7 (.call { callee := (.value (.func 19)), args := #[(xi .i64 3), (xi .u8 1), (.const (.slice none 0 0))], argTypes := #[3, 22, 32] }) [], xo 8 (.buildSlice 32 1 #[(0, (xt 7))]) [7], xo 9 (.call { callee := (.value (.func 19)), args := #[(xi .i64 2), (xi .u8 8), (xt 8)], argTypes := #[3, 22, 32] }) [8], xo 1 (.alloc 34) [], xn (.store 34 (xt 1) (xt 9))])
 (.seq (.region [oF 10 34 1 10 [], xn (.store 4 (xt 10) xT)])
 (.seq (.region [xo 11 (.call { callee := (.value (.func 19)), args := #[(xi .i64 4), (xi .u8 9), (.const (.slice none 0 0))], argTypes := #[3, 22, 32] }) [], xo 12 (.buildSlice 32 1 #[(0, (xt 11))]) [11], oF 13 34 1 11 [], xn (.store 32 (xt 13) (xt 12))])
 (.seq (.Ag [] (.both (.step (oL 14 34 1 []) (.both (.step (xo 15 (.call { callee := (.value (.func 19)), args := #[(xi .i64 5), (xi .u8 9), (.const (.slice none 0 0))], argTypes := #[3, 22, 32] }) []) (.both (.step (xo 16 (.buildSlice 32 2 #[(0, (xt 14)), (1, (xt 15))]) []) (.both (.step (xo 17 (.call { callee := (.value (.func 19)), args := #[(xi .i64 1), (xi .u8 1), (xt 16)], argTypes := #[3, 22, 32] }) []) (.step (xo 2 (.alloc 34) []) (.step (xn (.store 34 (xt 2) (xt 17))) (.done)))) (.step (xo 2 (.alloc 34) []) (.step (xo 17 (.call { callee := (.value (.func 19)), args := #[(xi .i64 1), (xi .u8 1), (xt 16)], argTypes := #[3, 22, 32] }) []) (.step (xn (.store 34 (xt 2) (xt 17))) (.done)))))) (.step (xo 2 (.alloc 34) []) (.step (xo 16 (.buildSlice 32 2 #[(0, (xt 14)), (1, (xt 15))]) []) (.step (xo 17 (.call { callee := (.value (.func 19)), args := #[(xi .i64 1), (xi .u8 1), (xt 16)], argTypes := #[3, 22, 32] }) []) (.step (xn (.store 34 (xt 2) (xt 17))) (.done))))))) (.step (xo 2 (.alloc 34) []) (.step (xo 15 (.call { callee := (.value (.func 19)), args := #[(xi .i64 5), (xi .u8 9), (.const (.slice none 0 0))], argTypes := #[3, 22, 32] }) []) (.step (xo 16 (.buildSlice 32 2 #[(0, (xt 14)), (1, (xt 15))]) []) (.step (xo 17 (.call { callee := (.value (.func 19)), args := #[(xi .i64 1), (xi .u8 1), (xt 16)], argTypes := #[3, 22, 32] }) []) (.step (xn (.store 34 (xt 2) (xt 17))) (.done)))))))) (.both (.step (xo 15 (.call { callee := (.value (.func 19)), args := #[(xi .i64 5), (xi .u8 9), (.const (.slice none 0 0))], argTypes := #[3, 22, 32] }) []) (.both (.step (oL 14 34 1 []) (.both (.step (xo 16 (.buildSlice 32 2 #[(0, (xt 14)), (1, (xt 15))]) []) (.both (.step (xo 17 (.call { callee := (.value (.func 19)), args := #[(xi .i64 1), (xi .u8 1), (xt 16)], argTypes := #[3, 22, 32] }) []) (.step (xo 2 (.alloc 34) []) (.step (xn (.store 34 (xt 2) (xt 17))) (.done)))) (.step (xo 2 (.alloc 34) []) (.step (xo 17 (.call { callee := (.value (.func 19)), args := #[(xi .i64 1), (xi .u8 1), (xt 16)], argTypes := #[3, 22, 32] }) []) (.step (xn (.store 34 (xt 2) (xt 17))) (.done)))))) (.step (xo 2 (.alloc 34) []) (.step (xo 16 (.buildSlice 32 2 #[(0, (xt 14)), (1, (xt 15))]) []) (.step (xo 17 (.call { callee := (.value (.func 19)), args := #[(xi .i64 1), (xi .u8 1), (xt 16)], argTypes := #[3, 22, 32] }) []) (.step (xn (.store 34 (xt 2) (xt 17))) (.done))))))) (.step (xo 2 (.alloc 34) []) (.step (oL 14 34 1 []) (.step (xo 16 (.buildSlice 32 2 #[(0, (xt 14)), (1, (xt 15))]) []) (.step (xo 17 (.call { callee := (.value (.func 19)), args := #[(xi .i64 1), (xi .u8 1), (xt 16)], argTypes := #[3, 22, 32] }) []) (.step (xn (.store 34 (xt 2) (xt 17))) (.done)))))))) (.step (xo 2 (.alloc 34) []) (.both (.step (oL 14 34 1 []) (.step (xo 15 (.call { callee := (.value (.func 19)), args := #[(xi .i64 5), (xi .u8 9), (.const (.slice none 0 0))], argTypes := #[3, 22, 32] }) []) (.step (xo 16 (.buildSlice 32 2 #[(0, (xt 14)), (1, (xt 15))]) []) (.step (xo 17 (.call { callee := (.value (.func 19)), args := #[(xi .i64 1), (xi .u8 1), (xt 16)], argTypes := #[3, 22, 32] }) []) (.step (xn (.store 34 (xt 2) (xt 17))) (.done)))))) (.step (xo 15 (.call { callee := (.value (.func 19)), args := #[(xi .i64 5), (xi .u8 9), (.const (.slice none 0 0))], argTypes := #[3, 22, 32] }) []) (.step (oL 14 34 1 []) (.step (xo 16 (.buildSlice 32 2 #[(0, (xt 14)), (1, (xt 15))]) []) (.step (xo 17 (.call { callee := (.value (.func 19)), args := #[(xi .i64 1), (xi .u8 1), (xt 16)], argTypes := #[3, 22, 32] }) []) (.step (xn (.store 34 (xt 2) (xt 17))) (.done)))))))))))
 (.seq (.region [oL 19 34 2 [], xo 20 (.call { callee := (.value (.func 13)), args := #[(xt 19), (xi .i64 4)], argTypes := #[34, 3] }) [19], oM 18 20 [20], xo 21 (.extract (xt 18) 0) [], xo 22 (.extract (xt 18) 1) [18], xo 3 (.alloc 34) [], xn (.store 34 (xt 3) (xt 21)), oA 4 22 []])
 (.seq (.region [oL 24 34 2 [], xo 25 (.call { callee := (.value (.func 13)), args := #[(xt 24), (xi .i64 6)], argTypes := #[34, 3] }) [24], oM 23 25 [25], xo 26 (.extract (xt 23) 0) [], xo 27 (.extract (xt 23) 1) [23], xo 5 (.alloc 34) [], xn (.store 34 (xt 5) (xt 26)), oA 6 27 []])
 (.seq (.dF [oL 28 34 2 [], xk 29 (xc 10 [28] [34]) [], xk 30 (xc 21 [29] [32]) [], xk 31 (.buildSlice 45 5 #[(0, (xi .i64 1)), (1, (xi .i64 2)), (2, (xi .i64 3)), (3, (xi .i64 4)), (4, (xi .i64 5))]) [], xo 32 (xc 20 [30,31] [45,45]) [], oM 33 32 [], gL 34 34 2 33 true [], xgk 35 (.call { callee := (.value (.func 22)), args := #[(xt 34)], argTypes := #[34] }) 33 true, xgk 36 (.call { callee := (.value (.func 21)), args := #[(xt 35)], argTypes := #[32] }) 33 true, ⟨some 37, (.buildSlice 45 5 #[(0, (.const (.int .i64 3))), (1, (.const (.int .i64 4))), (2, (.const (.int .i64 2))), (3, (.const (.int .i64 5))), (4, (.const (.int .i64 1)))]), (some (33, true)), true, []⟩, xg 38 (xc 20 [36,37] [45,45]) 33 true [], xo 39 (.pick (xt 33) (xt 38) xF) [], oM 40 39 [], gL 41 34 2 40 true [], xgk 42 (.call { callee := (.value (.func 14)), args := #[(xt 41), (.const (.int .i64 4))], argTypes := #[34, 3] }) 40 true, xgk 43 (.call { callee := (.value (.func 21)), args := #[(xt 42)], argTypes := #[32] }) 40 true, ⟨some 44, (.buildSlice 45 3 #[(0, (.const (.int .i64 1))), (1, (.const (.int .i64 2))), (2, (.const (.int .i64 4)))]), (some (40, true)), true, []⟩, xg 45 (xc 20 [43,44] [45,45]) 40 true [], xo 46 (.pick (xt 40) (xt 45) xF) [], oM 47 46 [], gM 48 4 47 true [], xo 49 (.pick (xt 47) (xt 48) xF) [], oM 50 49 [], gM 51 6 50 true [], xg 52 (.unOp .not 4 (xt 51)) 50 true [], xo 53 (.pick (xt 50) (xt 52) xF) [], oM 54 53 [], gF 55 34 3 0 54 true [], gL 56 3 55 54 true [], xg 57 (.binOp .eql 3 (xt 56) (xi .i64 4) 3) 54 true [], xo 58 (.pick (xt 54) (xt 57) xF) [], oM 59 58 [], gL 60 34 2 59 true [], xg 61 (xc 9 [60] [34]) 59 true [], xo 62 (.pick (xt 59) (xt 61) xF) [], oM 63 62 [], xg 64 (.build 34 #[]) 63 true [], xg 65 (xc 9 [64] [34]) 63 true [], xg 66 (.unOp .not 4 (xt 65)) 63 true [], xo 67 (.pick (xt 63) (xt 66) xF) [], oM 68 67 [], gL 69 34 2 68 true [], xgk 70 (.call { callee := (.value (.func 19)), args := #[(.const (.int .i64 2)), (.const (.int .u8 4)), (.const (.slice none 0 0))], argTypes := #[3, 22, 32] }) 68 true, xgk 71 (.call { callee := (.value (.func 11)), args := #[(xt 69), (xt 70)], argTypes := #[34, 34] }) 68 true, xgk 72 (.call { callee := (.value (.func 10)), args := #[(xt 71)], argTypes := #[34] }) 68 true, xgk 73 (.call { callee := (.value (.func 21)), args := #[(xt 72)], argTypes := #[32] }) 68 true, ⟨some 74, (.buildSlice 45 3 #[(0, (.const (.int .i64 1))), (1, (.const (.int .i64 2))), (2, (.const (.int .i64 5)))]), (some (68, true)), true, []⟩, xg 75 (xc 20 [73,74] [45,45]) 68 true [], xo 76 (.pick (xt 68) (xt 75) xF) [], oA 0 76 []])
 (.ret))))))))
theorem awj : Try.f7.body.map (strip (tab.ann 7)) = some k7 := by kernel_rfl
def k13 : XC :=
 .seq (.region [oB 2 34 0 [0], xo 4 (.alloc 34) [], xo 5 (.assign xF) []])
 (.seq (.region [oL 7 34 2 [], oM 8 1 [1], xo 9 (xc 14 [7,8] [34,3]) [7,8], oA 6 9 []])
 (.seq (.seq (.region [oM 10 6 [], xo 11 (xb .len [10] [32]) [10], xo 12 (.binOp .eql 3 (xt 11) (xi .i64 0) 3) []])
 (.cond 12 (.seq (.region [xo 13 (.build 34 #[]) [], xn (.store 34 (xt 4) (xt 13)), xo 5 (.assign xF) []])
 (.ret)) (.skip)))
 (.seq (.region [oM 14 6 [], oM 15 6 [], xo 16 (xb .len [15] [32]) [15], xo 17 (.binOp .sub 3 (xt 16) (xi .i64 1) 3) [16], oI 18 32 14 17 [14,17], oL 19 34 18 [18], xn (.store 34 (xt 4) (xt 19)), xo 5 (.assign xT) []])
 (.ret))))
theorem asA : Try.f13.body.map (strip (tab.ann 13)) = some k13 := by kernel_rfl
def k14 : XC :=
 .seq (.region [oB 2 34 0 [0], xo 4 (.assign (.const (.slice none 0 0))) []])
 (.seq (.seq (.region [oM 5 1 [], xo 6 (.binOp .eql 3 (xt 5) (xi .i64 0) 3) []])
 (.cond 6 (.seq (.region [xo 4 (.assign (.const (.slice none 0 0))) []])
 (.ret)) (.skip)))
 (.seq (.region [oL 7 34 2 [], oM 8 1 [1], xo 9 (xc 43 [7,8] [34,3]) [7,8], xo 10 (xc 42 [9] [32]) [9], oA 4 10 []])
 (.ret)))
theorem asB : Try.f14.body.map (strip (tab.ann 14)) = some k14 := by kernel_rfl
def k19 : XC :=
 .seq (.region [xo 6 (.alloc 34) []])
 (.seq (.region [oM 7 0 [], oM 8 0 [0], xo 9 (.binOp .rem 3 (xt 8) (xi .i64 26) 3) [8], xo 10 (.binOp .add 3 (xi .i64 97) (xt 9) 3) [9], xo 11 (.convert 3 5 (xt 10)) [10], xo 12 (.buildSlice 81 1 #[(0, (xt 11))]) [11], xo 13 (.convert 81 9 (xt 12)) [12], xo 14 (.binOp .add 9 (.const (.string { data := #[105, 58] })) (xt 13) 9) [13], oM 15 1 [1], xo 16 (.build 29 #[(0, (xt 14)), (1, (xt 15))]) [14,15], oM 17 2 [2], xo 18 (.build 34 #[(0, (xt 7)), (1, (xt 16)), (4, (xt 17))]) [7,16,17], xn (.store 34 (xt 6) (xt 18))])
 (.ret))
theorem asC : Try.f19.body.map (strip (tab.ann 19)) = some k19 := by kernel_rfl
def k20 : XC :=
 .seq (.region [xo 4 (.assign xF) []])
 (.seq (.seq (.region [oM 6 0 [], xo 7 (xb .len [6] [45]) [6], oM 8 1 [], xo 9 (xb .len [8] [45]) [8], xo 10 (.binOp .neq 3 (xt 7) (xt 9) 3) []])
 (.cond 10 (.seq (.region [xo 4 (.assign xF) []])
 (.ret)) (.skip)))
 (.seq (.seq (.region [xo 5 (.assign (xi .i64 0)) []])
 (.block 0 (.loop (.seq (.seq (.region [oM 11 5 [], oM 12 0 [], xo 13 (xb .len [12] [45]) [12], xo 14 (.binOp .lss 3 (xt 11) (xt 13) 3) []])
 (.cond 14 (.skip) (.exit 0)))
 (.seq (.block 1 (.seq (.region [oM 17 0 [], oM 18 5 [], oI 19 45 17 18 [], oL 20 3 19 [], oM 21 1 [], oM 22 5 [], oI 23 45 21 22 [], oL 24 3 23 [], xo 25 (.binOp .neq 3 (xt 20) (xt 24) 3) []])
 (.cond 25 (.seq (.region [xo 4 (.assign xF) []])
 (.ret)) (.skip))))
 (.region [oM 15 5 [], xo 16 (.binOp .add 3 (xt 15) (xi .i64 1) 3) [15], oA 5 16 []]))))))
 (.seq (.region [xo 4 (.assign xT) []])
 (.ret))))
theorem asD : Try.f20.body.map (strip (tab.ann 20)) = some k20 := by kernel_rfl
def k21 : XC :=
 .seq (.region [xo 2 (.assign (.const (.slice none 0 0))) []])
 (.seq (.region [xo 3 (.assign (.const (.slice none 0 0))) []])
 (.seq (.seq (.region [xo 4 (.assign (xi .i64 0)) []])
 (.block 0 (.loop (.seq (.seq (.region [oM 5 4 [], oM 6 0 [], xo 7 (xb .len [6] [32]) [6], xo 8 (.binOp .lss 3 (xt 5) (xt 7) 3) []])
 (.cond 8 (.skip) (.exit 0)))
 (.seq (.block 1 (.dF [oM 11 3 [], oM 12 0 [], oM 13 4 [], oI 14 32 12 13 [12,13], oF 15 34 14 0 [14], oL 16 3 15 [15], xo 17 (.buildSlice 45 1 #[(0, (xt 16))]) [16], xo 18 (xb .append [11,17] [45,45]) [11,17], oA 3 18 []]))
 (.region [oM 9 4 [], xo 10 (.binOp .add 3 (xt 9) (xi .i64 1) 3) [9], oA 4 10 []]))))))
 (.seq (.region [oM 19 3 [], oA 2 19 []])
 (.ret))))
theorem asE : Try.f21.body.map (strip (tab.ann 21)) = some k21 := by kernel_rfl
def k22 : XC :=
 .seq (.region [oB 1 34 0 [0], xo 2 (.alloc 32) []])
 (.seq (.region [oL 3 34 1 [], xo 4 (.makeFunc (.func 56) #[] #[(xt 2)]) [], xo 5 (.call { callee := (.value (.func 29)), args := #[(xt 3), (.func 55), (xt 4)], argTypes := #[34, 59, 59] }) []])
 (.seq (.region [oL 6 32 2 [], xn (.store 32 (xt 2) (xt 6))])
 (.ret)))
theorem asF : Try.f22.body.map (strip (tab.ann 22)) = some k22 := by kernel_rfl
def ah7 : XC :=
 .region [xo 5 (.alloc 34) [], xn (.store 34 (xt 5) (xt 18))]
def ah8 : XC :=
 .block 1 (.seq (.region [oL 19 34 5 [], oL 20 3 3 [], xo 21 (xc 43 [19,20] [34,3]) [19,20], oA 6 21 []])
 (.seq (.region [oM 22 6 [], xo 23 (xb .len [22] [32]) [22], xo 24 (.binOp .gtr 3 (xt 23) (xi .i64 0) 3) []])
 (.cond 24 (.seq (.dF [oL 25 34 2 [], xo 26 (.buildSlice 32 1 #[(0, (xt 25))]) [25], oM 27 6 [], xo 28 (xb .append [26,27] [32,32]) [26,27], xn (.store 32 (xt 4) (xt 28))])
 (.ret)) (.skip))))
theorem ah9 : (fq.site 156).map (fun q => (q.own, q.ps, strip (tab.ann q.own) q.RX, strip (tab.ann q.own) q.body)) = some (43, [18], ah7, ah8) := by kernel_rfl
def k43 : XC :=
 .seq (.region [oB 2 34 0 [], oB 3 3 1 [], xo 4 (.alloc 32) []])
 (.seq (.seq (.region [oF 7 34 2 0 [], oL 8 3 7 [7], xo 9 (.binOp .eql 3 (xt 8) (xi .i64 0) 3) []])
 (.cond 9 (.seq (.region [xn (.store 32 (xt 4) (.const (.slice none 0 0)))])
 (.ret)) (.skip)))
 (.seq (.seq (.region [oF 10 34 2 0 [], oL 11 3 10 [10], oL 12 3 3 [], xo 13 (.binOp .eql 3 (xt 11) (xt 12) 3) []])
 (.cond 13 (.seq (.region [oL 14 34 2 [], xo 15 (.buildSlice 32 1 #[(0, (xt 14))]) [14], xn (.store 32 (xt 4) (xt 15))])
 (.ret)) (.skip)))
 (.seq (.seq (.region [oL 16 34 2 [], xo 17 (xc 44 [16] [34]) []])
 (.block 0 (.rng 17)))
 (.seq (.region [xn (.store 32 (xt 4) (.const (.slice none 0 0)))])
 (.ret)))))
theorem asG : Try.f43.body.map (strip (tab.ann 43)) = some k43 := by kernel_rfl
def k55 : XC :=
 .region [oB 1 34 0 []]
theorem asH : Try.f55.body.map (strip (tab.ann 55)) = some k55 := by kernel_rfl
def k56 : XC :=
 .seq (.region [oB 2 34 0 []])
 (.Ag [oL 3 32 1 [], oL 4 34 2 [], xk 5 (xc 31 [4] [34]) [], xo 6 (xb .len [3] [32]) [], xk 7 (.buildSlice 32 1 #[(0, (.const (.agg #[(.int .i64 0), (.string { data := #[] }), (.int .u8 0), (.string { data := #[] }), (.int .u8 0), (.int .i64 0), (.string { data := #[] }), (.slice none 0 0), (.slice none 0 0), (.int .u8 0), (.string { data := #[] }), (.bool false), (.slice none 0 0), (.slice none 0 0), (.slice none 0 0), (.int .i64 0), (.bool false), (.bool false), (.int .u8 0), (.int .i64 0), (.string { data := #[] }), (.slice none 0 0), (.slice none 0 0), (.int .u8 0), (.string { data := #[] }), (.bool false), (.string { data := #[] }), (.bool false), (.slice none 0 0), (.bool false), (.bool false)])))]) [], xo 8 (xb .append [3,7] [32,32]) []] (.both (.step (oI 9 32 8 6 []) (.both (.step (xn (.store 34 (xt 9) (xt 5))) (.step (xn (.store 32 (xt 1) (xt 8))) (.done))) (.step (xn (.store 32 (xt 1) (xt 8))) (.step (xn (.store 34 (xt 9) (xt 5))) (.done))))) (.step (xn (.store 32 (xt 1) (xt 8))) (.step (oI 9 32 8 6 []) (.step (xn (.store 34 (xt 9) (xt 5))) (.done))))))
theorem asI : Try.f56.body.map (strip (tab.ann 56)) = some k56 := by kernel_rfl
noncomputable def S0 : X.Sys := { fn := Jb [(7, Try.f7), (9, Try.f9), (10, Try.f10), (11, Try.f11), (13, Try.f13), (14, Try.f14), (19, Try.f19), (20, Try.f20), (21, Try.f21), (22, Try.f22), (25, Try.f25), (26, Try.f26), (27, Try.f27), (28, Try.f28), (29, Try.f29), (30, Try.f30), (31, Try.f31), (32, Try.f32), (33, Try.f33), (34, Try.f34), (35, Try.f35), (36, Try.f36), (42, Try.f42), (43, Try.f43), (44, Try.f44), (55, Try.f55), (56, Try.f56), (57, Try.f57), (58, Try.f58), (59, Try.f59), (60, Try.f60), (61, Try.f61), (62, Try.f62), (63, Try.f63), (64, Try.f64), (65, Try.f65), (69, Try.f69), (70, Try.f70), (82, Try.f82), (83, Try.f83), (84, Try.f84), (85, Try.f85), (86, Try.f86), (87, Try.f87), (88, Try.f88), (89, Try.f89), (94, Try.f94), (97, Try.f97), (102, Try.f102), (103, Try.f103), (104, Try.f104), (105, Try.f105), (106, Try.f106), (107, Try.f107), (111, Try.f111), (113, Try.f113), (115, Try.f115), (116, Try.f116), (117, Try.f117), (120, Try.f120), (123, Try.f123), (124, Try.f124), (131, Try.f131), (132, Try.f132)], tab := tab, foreign := fun _ => none }
theorem sM : yw Try.prog S0 where
 tab := Tz
 mixed := by kernel_rfl
 fn := KX (by
  intro p hp
  simp only [List.mem_cons, List.not_mem_nil, or_false] at hp
  rcases hp with rfl | rfl | rfl | rfl | rfl | rfl | rfl | rfl | rfl | rfl | rfl | rfl | rfl | rfl | rfl | rfl | rfl | rfl | rfl | rfl | rfl | rfl | rfl | rfl | rfl | rfl | rfl | rfl | rfl | rfl | rfl | rfl | rfl | rfl | rfl | rfl | rfl | rfl | rfl | rfl | rfl | rfl | rfl | rfl | rfl | rfl | rfl | rfl | rfl | rfl | rfl | rfl | rfl | rfl | rfl | rfl | rfl | rfl | rfl | rfl | rfl | rfl | rfl | rfl
  ·exact ⟨Try.func7, by kernel_rfl⟩
  ·exact ⟨Try.func9, by kernel_rfl⟩
  ·exact ⟨Try.func10, by kernel_rfl⟩
  ·exact ⟨Try.func11, by kernel_rfl⟩
  ·exact ⟨Try.func13, by kernel_rfl⟩
  ·exact ⟨Try.func14, by kernel_rfl⟩
  ·exact ⟨Try.func19, by kernel_rfl⟩
  ·exact ⟨Try.func20, by kernel_rfl⟩
  ·exact ⟨Try.func21, by kernel_rfl⟩
  ·exact ⟨Try.func22, by kernel_rfl⟩
  ·exact ⟨Try.func25, by kernel_rfl⟩
  ·exact ⟨Try.func26, by kernel_rfl⟩
  ·exact ⟨Try.func27, by kernel_rfl⟩
  ·exact ⟨Try.func28, by kernel_rfl⟩
  ·exact ⟨Try.func29, by kernel_rfl⟩
  ·exact ⟨Try.func30, by kernel_rfl⟩
  ·exact ⟨Try.func31, by kernel_rfl⟩
  ·exact ⟨Try.func32, by kernel_rfl⟩
  ·exact ⟨Try.func33, by kernel_rfl⟩
  ·exact ⟨Try.func34, by kernel_rfl⟩
  ·exact ⟨Try.func35, by kernel_rfl⟩
  ·exact ⟨Try.func36, by kernel_rfl⟩
  ·exact ⟨Try.func42, by kernel_rfl⟩
  ·exact ⟨Try.func43, by kernel_rfl⟩
  ·exact ⟨Try.func44, by kernel_rfl⟩
  ·exact ⟨Try.func55, by kernel_rfl⟩
  ·exact ⟨Try.func56, by kernel_rfl⟩
  ·exact ⟨Try.func57, by kernel_rfl⟩
  ·exact ⟨Try.func58, by kernel_rfl⟩
  ·exact ⟨Try.func59, by kernel_rfl⟩
  ·exact ⟨Try.func60, by kernel_rfl⟩
  ·exact ⟨Try.func61, by kernel_rfl⟩
  ·exact ⟨Try.func62, by kernel_rfl⟩
  ·exact ⟨Try.func63, by kernel_rfl⟩
  ·exact ⟨Try.func64, by kernel_rfl⟩
  ·exact ⟨Try.func65, by kernel_rfl⟩
  ·exact ⟨Try.func69, by kernel_rfl⟩
  ·exact ⟨Try.func70, by kernel_rfl⟩
  ·exact ⟨Try.func82, by kernel_rfl⟩
  ·exact ⟨Try.func83, by kernel_rfl⟩
  ·exact ⟨Try.func84, by kernel_rfl⟩
  ·exact ⟨Try.func85, by kernel_rfl⟩
  ·exact ⟨Try.func86, by kernel_rfl⟩
  ·exact ⟨Try.func87, by kernel_rfl⟩
  ·exact ⟨Try.func88, by kernel_rfl⟩
  ·exact ⟨Try.func89, by kernel_rfl⟩
  ·exact ⟨Try.func94, by kernel_rfl⟩
  ·exact ⟨Try.func97, by kernel_rfl⟩
  ·exact ⟨Try.func102, by kernel_rfl⟩
  ·exact ⟨Try.func103, by kernel_rfl⟩
  ·exact ⟨Try.func104, by kernel_rfl⟩
  ·exact ⟨Try.func105, by kernel_rfl⟩
  ·exact ⟨Try.func106, by kernel_rfl⟩
  ·exact ⟨Try.func107, by kernel_rfl⟩
  ·exact ⟨Try.func111, by kernel_rfl⟩
  ·exact ⟨Try.func113, by kernel_rfl⟩
  ·exact ⟨Try.func115, by kernel_rfl⟩
  ·exact ⟨Try.func116, by kernel_rfl⟩
  ·exact ⟨Try.func117, by kernel_rfl⟩
  ·exact ⟨Try.func120, by kernel_rfl⟩
  ·exact ⟨Try.func123, by kernel_rfl⟩
  ·exact ⟨Try.func124, by kernel_rfl⟩
  ·exact ⟨Try.func131, by kernel_rfl⟩
  ·exact ⟨Try.func132, by kernel_rfl⟩)
 sites := Am (fun _ => rfl) (by
  intro p hp
  simp only [List.mem_cons, List.not_mem_nil, or_false] at hp
  rcases hp with rfl | rfl | rfl | rfl | rfl | rfl | rfl | rfl | rfl | rfl | rfl | rfl | rfl | rfl | rfl | rfl | rfl | rfl | rfl | rfl | rfl | rfl | rfl | rfl | rfl | rfl | rfl | rfl | rfl | rfl | rfl | rfl | rfl | rfl | rfl | rfl | rfl | rfl | rfl | rfl | rfl | rfl | rfl | rfl | rfl | rfl | rfl | rfl | rfl | rfl | rfl | rfl | rfl | rfl | rfl | rfl | rfl | rfl | rfl | rfl | rfl | rfl | rfl | rfl
  iterate 14 exact .inl (by kernel_rfl)
  iterate 1 exact .inr ⟨by kernel_rfl, by kernel_rfl⟩
  iterate 8 exact .inl (by kernel_rfl)
  iterate 1 exact .inr ⟨by kernel_rfl, by kernel_rfl⟩
  iterate 40 exact .inl (by kernel_rfl))
 site := fun g q h => Fb (F := adh) (L := OG) (by
  intro p hp
  simp only [OG, List.mem_cons, List.not_mem_nil, or_false] at hp
  first
  | exact hp.elim
  | (subst hp; exact ⟨by kernel_rfl, by kernel_rfl, by kernel_rfl⟩)
  | (rcases hp with rfl | rfl <;> exact ⟨by kernel_rfl, by kernel_rfl, by kernel_rfl⟩)) g q h
 foreign := fun f g h => by cases h
noncomputable def XFL : List (Nat × (XC × List ResultVar)) := [(7, (k7, [.tmp 0])), (9, (c9, [.tmp 2])), (10, (c10, [.cell 2 32])), (11, (c11, [.cell 4 34])), (13, (k13, [.cell 4 34, .tmp 5])), (14, (k14, [.tmp 4])), (19, (k19, [.cell 6 34])), (20, (k20, [.tmp 4])), (21, (k21, [.tmp 2])), (22, (k22, [.cell 2 32])), (25, (U3, [.tmp 6])), (26, (c26, [.tmp 2])), (27, (c27, [.tmp 4])), (28, (c28, [.tmp 4])), (29, (c29, [])), (30, (c30, [])), (31, (c31, [.cell 2 34])), (32, (c32, [])), (33, (c33, [.tmp 4])), (34, (c34, [.tmp 2])), (35, (c35, [.cell 5 34])), (36, (c36, [.tmp 2])), (42, (c42, [.tmp 2])), (43, (k43, [.cell 4 32])), (44, (c44, [.tmp 2])), (55, (k55, [])), (56, (k56, [])), (57, (c57, [.tmp 3])), (58, (c58, [.tmp 4])), (59, (c59, [.tmp 2])), (60, (c60, [.tmp 4])), (61, (c61, [.tmp 4])), (62, (c62, [.cell 2 29])), (63, (c63, [.tmp 2])), (64, (c64, [.tmp 2])), (65, (c65, [.cell 2 27])), (69, (c69, [.tmp 4])), (70, (c70, [])), (82, (c82, [.tmp 4])), (83, (c83, [.tmp 6])), (84, (c84, [.tmp 4])), (85, (c85, [.tmp 4])), (86, (c86, [.cell 2 78])), (87, (c87, [.tmp 4])), (88, (c88, [.tmp 2])), (89, (c89, [.tmp 2])), (94, (c94, [.tmp 2])), (97, (c97, [.tmp 2])), (102, (asn, [.tmp 6])), (103, (aso, [.tmp 4])), (104, (asq, [.tmp 2])), (105, (c105, [.tmp 4])), (106, (asr, [.tmp 4])), (107, (c107, [.cell 2 112])), (111, (asu, [.tmp 2])), (113, (asv, [.tmp 2])), (115, (asw, [.tmp 4])), (116, (c116, [.cell 2 128])), (117, (c117, [.cell 2 126])), (120, (asx, [.tmp 2])), (123, (asy, [.tmp 2])), (124, (c124, [.tmp 2])), (131, (c131, [.tmp 4])), (132, (asz, [.tmp 2]))]
theorem DX : afM S0 (iY XFL) := av6 (by
  intro p hp
  simp only [XFL, List.mem_cons, List.not_mem_nil, or_false] at hp
  rcases hp with rfl | rfl | rfl | rfl | rfl | rfl | rfl | rfl | rfl | rfl | rfl | rfl | rfl | rfl | rfl | rfl | rfl | rfl | rfl | rfl | rfl | rfl | rfl | rfl | rfl | rfl | rfl | rfl | rfl | rfl | rfl | rfl | rfl | rfl | rfl | rfl | rfl | rfl | rfl | rfl | rfl | rfl | rfl | rfl | rfl | rfl | rfl | rfl | rfl | rfl | rfl | rfl | rfl | rfl | rfl | rfl | rfl | rfl | rfl | rfl | rfl | rfl | rfl | rfl
  ·exact ⟨Try.f7, by kernel_rfl, awj, by kernel_rfl⟩
  ·exact ⟨Try.f9, by kernel_rfl, aoY, by kernel_rfl⟩
  ·exact ⟨Try.f10, by kernel_rfl, ag8, by kernel_rfl⟩
  ·exact ⟨Try.f11, by kernel_rfl, ag9, by kernel_rfl⟩
  ·exact ⟨Try.f13, by kernel_rfl, asA, by kernel_rfl⟩
  ·exact ⟨Try.f14, by kernel_rfl, asB, by kernel_rfl⟩
  ·exact ⟨Try.f19, by kernel_rfl, asC, by kernel_rfl⟩
  ·exact ⟨Try.f20, by kernel_rfl, asD, by kernel_rfl⟩
  ·exact ⟨Try.f21, by kernel_rfl, asE, by kernel_rfl⟩
  ·exact ⟨Try.f22, by kernel_rfl, asF, by kernel_rfl⟩
  ·exact ⟨Try.f25, by kernel_rfl, aha, by kernel_rfl⟩
  ·exact ⟨Try.f26, by kernel_rfl, ahb, by kernel_rfl⟩
  ·exact ⟨Try.f27, by kernel_rfl, ahc, by kernel_rfl⟩
  ·exact ⟨Try.f28, by kernel_rfl, ahd, by kernel_rfl⟩
  ·exact ⟨Try.f29, by kernel_rfl, ahg, by kernel_rfl⟩
  ·exact ⟨Try.f30, by kernel_rfl, ahh, by kernel_rfl⟩
  ·exact ⟨Try.f31, by kernel_rfl, ahi, by kernel_rfl⟩
  ·exact ⟨Try.f32, by kernel_rfl, ahj, by kernel_rfl⟩
  ·exact ⟨Try.f33, by kernel_rfl, ahk, by kernel_rfl⟩
  ·exact ⟨Try.f34, by kernel_rfl, ahl, by kernel_rfl⟩
  ·exact ⟨Try.f35, by kernel_rfl, ahm, by kernel_rfl⟩
  ·exact ⟨Try.f36, by kernel_rfl, ahn, by kernel_rfl⟩
  ·exact ⟨Try.f42, by kernel_rfl, aho, by kernel_rfl⟩
  ·exact ⟨Try.f43, by kernel_rfl, asG, by kernel_rfl⟩
  ·exact ⟨Try.f44, by kernel_rfl, ahp, by kernel_rfl⟩
  ·exact ⟨Try.f55, by kernel_rfl, asH, by kernel_rfl⟩
  ·exact ⟨Try.f56, by kernel_rfl, asI, by kernel_rfl⟩
  ·exact ⟨Try.f57, by kernel_rfl, ahq, by kernel_rfl⟩
  ·exact ⟨Try.f58, by kernel_rfl, ahr, by kernel_rfl⟩
  ·exact ⟨Try.f59, by kernel_rfl, ahs, by kernel_rfl⟩
  ·exact ⟨Try.f60, by kernel_rfl, aht, by kernel_rfl⟩
  ·exact ⟨Try.f61, by kernel_rfl, ahu, by kernel_rfl⟩
  ·exact ⟨Try.f62, by kernel_rfl, ahv, by kernel_rfl⟩
  ·exact ⟨Try.f63, by kernel_rfl, ahw, by kernel_rfl⟩
  ·exact ⟨Try.f64, by kernel_rfl, ahx, by kernel_rfl⟩
  ·exact ⟨Try.f65, by kernel_rfl, ahy, by kernel_rfl⟩
  ·exact ⟨Try.f69, by kernel_rfl, ahz, by kernel_rfl⟩
  ·exact ⟨Try.f70, by kernel_rfl, ahA, by kernel_rfl⟩
  ·exact ⟨Try.f82, by kernel_rfl, ahB, by kernel_rfl⟩
  ·exact ⟨Try.f83, by kernel_rfl, ahC, by kernel_rfl⟩
  ·exact ⟨Try.f84, by kernel_rfl, ahD, by kernel_rfl⟩
  ·exact ⟨Try.f85, by kernel_rfl, ahE, by kernel_rfl⟩
  ·exact ⟨Try.f86, by kernel_rfl, ahF, by kernel_rfl⟩
  ·exact ⟨Try.f87, by kernel_rfl, ahG, by kernel_rfl⟩
  ·exact ⟨Try.f88, by kernel_rfl, ahH, by kernel_rfl⟩
  ·exact ⟨Try.f89, by kernel_rfl, ahI, by kernel_rfl⟩
  ·exact ⟨Try.f94, by kernel_rfl, ahJ, by kernel_rfl⟩
  ·exact ⟨Try.f97, by kernel_rfl, ahK, by kernel_rfl⟩
  ·exact ⟨Try.f102, by kernel_rfl, adi, by kernel_rfl⟩
  ·exact ⟨Try.f103, by kernel_rfl, adj, by kernel_rfl⟩
  ·exact ⟨Try.f104, by kernel_rfl, adk, by kernel_rfl⟩
  ·exact ⟨Try.f105, by kernel_rfl, adl, by kernel_rfl⟩
  ·exact ⟨Try.f106, by kernel_rfl, adn, by kernel_rfl⟩
  ·exact ⟨Try.f107, by kernel_rfl, ado, by kernel_rfl⟩
  ·exact ⟨Try.f111, by kernel_rfl, adp, by kernel_rfl⟩
  ·exact ⟨Try.f113, by kernel_rfl, adq, by kernel_rfl⟩
  ·exact ⟨Try.f115, by kernel_rfl, adr, by kernel_rfl⟩
  ·exact ⟨Try.f116, by kernel_rfl, ads, by kernel_rfl⟩
  ·exact ⟨Try.f117, by kernel_rfl, adt, by kernel_rfl⟩
  ·exact ⟨Try.f120, by kernel_rfl, adu, by kernel_rfl⟩
  ·exact ⟨Try.f123, by kernel_rfl, adv, by kernel_rfl⟩
  ·exact ⟨Try.f124, by kernel_rfl, adw, by kernel_rfl⟩
  ·exact ⟨Try.f131, by kernel_rfl, adx, by kernel_rfl⟩
  ·exact ⟨Try.f132, by kernel_rfl, ady, by kernel_rfl⟩)
noncomputable def XSL : List (Nat × (Nat × List Nat × XC × XC)) := [(155, (29, [15], ahe, ahf)), (156, (43, [18], ah7, ah8))]
theorem DY : afN S0 (iY XSL) := av7 (by
  intro p hp
  simp only [XSL, List.mem_cons, List.not_mem_nil, or_false] at hp
  rcases hp with rfl | rfl
  ·exact ⟨Yi, by kernel_rfl⟩
  ·exact ⟨ah9, by kernel_rfl⟩)
def lI (k : IntKind) (n : Nat) : D := .int k (.ofNat n)
def lS (l : List UInt8) : D := .str (.mk (.mk l))
def lE : D := lS []
def lN : D := .sl [] .none
def lO : D := .sl [] (.some [])
def lF : D := .bool .false
def lZ : D := lI .u8 0
def ld0 : D := (.sl [[(lI .i64 3), (lS [105, 58, 100]), (lI .u8 1), lE, lZ, (lI .i64 0), lE, lO, lO, lZ, lE, lF, lO, lO, lO, (lI .i64 0), lF, lF, lZ, (lI .i64 0), lE, lO, lO, lZ, lE, lF, lE, lF, lO, lF, lF]] (.some []))
def ld1 : D := (.sl [[(lI .i64 4), (lS [105, 58, 101]), (lI .u8 9), lE, lZ, (lI .i64 0), lE, lO, lO, lZ, lE, lF, lO, lO, lO, (lI .i64 0), lF, lF, lZ, (lI .i64 0), lE, lO, lO, lZ, lE, lF, lE, lF, lO, lF, lF]] (.some []))
def ld2 : D := (.sl [[(lI .i64 2), (lS [105, 58, 99]), (lI .u8 8), lE, lZ, (lI .i64 0), lE, lO, lO, lZ, lE, lF, lO, lO, ld0, (lI .i64 0), lF, lF, lZ, (lI .i64 0), lE, lO, lO, lZ, lE, lF, lE, (.bool .true), ld1, lF, lF], [(lI .i64 5), (lS [105, 58, 102]), (lI .u8 9), lE, lZ, (lI .i64 0), lE, lO, lO, lZ, lE, lF, lO, lO, lO, (lI .i64 0), lF, lF, lZ, (lI .i64 0), lE, lO, lO, lZ, lE, lF, lE, lF, lO, lF, lF]] (.some []))
def lp3 : PV := (.agg [(.d (lI .i64 1)), (.d (lS [105, 58, 98])), (.d (lI .u8 1)), (.d lE), (.d lZ), (.d (lI .i64 0)), (.d lE), (.d lO), (.d lO), (.d lZ), (.d lE), (.d lF), (.d lO), (.d lO), (.d ld2), (.d (lI .i64 0)), (.d lF), (.d lF), (.d lZ), (.d (lI .i64 0)), (.d lE), (.d lO), (.d lO), (.d lZ), (.d lE), (.d lF), (.d lE), (.d lF), (.d lO), (.d lF), (.d lF)])
def lp4 : PV := (.agg [(.d (lI .i64 0)), (.d lE), (.d lZ), (.d lE), (.d lZ), (.d (lI .i64 0)), (.d lE), (.d lO), (.d lO), (.d lZ), (.d lE), (.d lF), (.d lO), (.d lO), (.d lO), (.d (lI .i64 0)), (.d lF), (.d lF), (.d lZ), (.d (lI .i64 0)), (.d lE), (.d lO), (.d lO), (.d lZ), (.d lE), (.d lF), (.d lE), (.d lF), (.d lO), (.d lF), (.d lF)])
def ld5 : D := (.sl [[(lI .i64 3), (lS [105, 58, 100]), (lI .u8 1), lE, lZ, (lI .i64 0), lE, lN, lN, lZ, lE, lF, lN, lN, lN, (lI .i64 0), lF, lF, lZ, (lI .i64 0), lE, lN, lN, lZ, lE, lF, lE, lF, lN, lF, lF]] .none)
def ld6 : D := (.sl [[(lI .i64 4), (lS [105, 58, 101]), (lI .u8 9), lE, lZ, (lI .i64 0), lE, lN, lN, lZ, lE, lF, lN, lN, lN, (lI .i64 0), lF, lF, lZ, (lI .i64 0), lE, lN, lN, lZ, lE, lF, lE, lF, lN, lF, lF]] .none)
def ld7 : D := (.sl [[(lI .i64 2), (lS [105, 58, 99]), (lI .u8 8), lE, lZ, (lI .i64 0), lE, lN, lN, lZ, lE, lF, lN, lN, ld5, (lI .i64 0), lF, lF, lZ, (lI .i64 0), lE, lN, lN, lZ, lE, lF, lE, (.bool .true), ld6, lF, lF], [(lI .i64 5), (lS [105, 58, 102]), (lI .u8 9), lE, lZ, (lI .i64 0), lE, lN, lN, lZ, lE, lF, lN, lN, lN, (lI .i64 0), lF, lF, lZ, (lI .i64 0), lE, lN, lN, lZ, lE, lF, lE, lF, lN, lF, lF]] .none)
def ld8 : D := (.sl [[(lI .i64 1), (lS [105, 58, 98]), (lI .u8 1), lE, lZ, (lI .i64 0), lE, lN, lN, lZ, lE, lF, lN, lN, ld7, (lI .i64 0), lF, lF, lZ, (lI .i64 0), lE, lN, lN, lZ, lE, lF, lE, lF, lN, lF, lF], [(lI .i64 2), (lS [105, 58, 99]), (lI .u8 8), lE, lZ, (lI .i64 0), lE, lN, lN, lZ, lE, lF, lN, lN, ld5, (lI .i64 0), lF, lF, lZ, (lI .i64 0), lE, lN, lN, lZ, lE, lF, lE, (.bool .true), ld6, lF, lF], [(lI .i64 3), (lS [105, 58, 100]), (lI .u8 1), lE, lZ, (lI .i64 0), lE, lN, lN, lZ, lE, lF, lN, lN, lN, (lI .i64 0), lF, lF, lZ, (lI .i64 0), lE, lN, lN, lZ, lE, lF, lE, lF, lN, lF, lF], [(lI .i64 4), (lS [105, 58, 101]), (lI .u8 9), lE, lZ, (lI .i64 0), lE, lN, lN, lZ, lE, lF, lN, lN, lN, (lI .i64 0), lF, lF, lZ, (lI .i64 0), lE, lN, lN, lZ, lE, lF, lE, lF, lN, lF, lF], [(lI .i64 5), (lS [105, 58, 102]), (lI .u8 9), lE, lZ, (lI .i64 0), lE, lN, lN, lZ, lE, lF, lN, lN, lN, (lI .i64 0), lF, lF, lZ, (lI .i64 0), lE, lN, lN, lZ, lE, lF, lE, lF, lN, lF, lF]] .none)
def ld9 : D := (.sl [[(lI .i64 2), (lS [105, 58, 99]), (lI .u8 4), lE, lZ, (lI .i64 0), lE, lN, lN, lZ, lE, lF, lN, lN, lN, (lI .i64 0), lF, lF, lZ, (lI .i64 0), lE, lN, lN, lZ, lE, lF, lE, lF, lN, lF, lF], [(lI .i64 5), (lS [105, 58, 102]), (lI .u8 9), lE, lZ, (lI .i64 0), lE, lN, lN, lZ, lE, lF, lN, lN, lN, (lI .i64 0), lF, lF, lZ, (lI .i64 0), lE, lN, lN, lZ, lE, lF, lE, lF, lN, lF, lF]] .none)
def awk : PV := (.agg [(.d (lI .i64 1)), (.d (lS [105, 58, 98])), (.d (lI .u8 1)), (.d lE), (.d lZ), (.d (lI .i64 0)), (.d lE), (.d lN), (.d lN), (.d lZ), (.d lE), (.d lF), (.d lN), (.d lN), (.d ld9), (.d (lI .i64 0)), (.d lF), (.d lF), (.d lZ), (.d (lI .i64 0)), (.d lE), (.d lN), (.d lN), (.d lZ), (.d lE), (.d lF), (.d lE), (.d lF), (.d lN), (.d lF), (.d lF)])
def ay6 : D := (.sl [[(lI .i64 1), (lS [105, 58, 98]), (lI .u8 1), lE, lZ, (lI .i64 0), lE, lN, lN, lZ, lE, lF, lN, lN, ld9, (lI .i64 0), lF, lF, lZ, (lI .i64 0), lE, lN, lN, lZ, lE, lF, lE, lF, lN, lF, lF], [(lI .i64 2), (lS [105, 58, 99]), (lI .u8 4), lE, lZ, (lI .i64 0), lE, lN, lN, lZ, lE, lF, lN, lN, lN, (lI .i64 0), lF, lF, lZ, (lI .i64 0), lE, lN, lN, lZ, lE, lF, lE, lF, lN, lF, lF], [(lI .i64 5), (lS [105, 58, 102]), (lI .u8 9), lE, lZ, (lI .i64 0), lE, lN, lN, lZ, lE, lF, lN, lN, lN, (lI .i64 0), lF, lF, lZ, (lI .i64 0), lE, lN, lN, lZ, lE, lF, lE, lF, lN, lF, lF]] .none)
def awl : PV := (.agg [(.d (lI .i64 2)), (.d (lS [105, 58, 99])), (.d (lI .u8 4)), (.d lE), (.d lZ), (.d (lI .i64 0)), (.d lE), (.d lO), (.d lO), (.d lZ), (.d lE), (.d lF), (.d lO), (.d lO), (.d lO), (.d (lI .i64 0)), (.d lF), (.d lF), (.d lZ), (.d (lI .i64 0)), (.d lE), (.d lO), (.d lO), (.d lZ), (.d lE), (.d lF), (.d lE), (.d lF), (.d lO), (.d lF), (.d lF)])
def ay7 : PV := (.agg [(.d (lI .i64 4)), (.d (lS [105, 58, 101])), (.d (lI .u8 9)), (.d lE), (.d lZ), (.d (lI .i64 0)), (.d lE), (.d lN), (.d lN), (.d lZ), (.d lE), (.d lF), (.d lN), (.d lN), (.d lN), (.d (lI .i64 0)), (.d lF), (.d lF), (.d lZ), (.d (lI .i64 0)), (.d lE), (.d lN), (.d lN), (.d lZ), (.d lE), (.d lF), (.d lE), (.d lF), (.d lN), (.d lF), (.d lF)])
def ay8 : D := (.sl [[(lI .i64 1), (lS [105, 58, 98]), (lI .u8 1), lE, lZ, (lI .i64 0), lE, lN, lN, lZ, lE, lF, lN, lN, ld7, (lI .i64 0), lF, lF, lZ, (lI .i64 0), lE, lN, lN, lZ, lE, lF, lE, lF, lN, lF, lF], [(lI .i64 2), (lS [105, 58, 99]), (lI .u8 8), lE, lZ, (lI .i64 0), lE, lN, lN, lZ, lE, lF, lN, lN, ld5, (lI .i64 0), lF, lF, lZ, (lI .i64 0), lE, lN, lN, lZ, lE, lF, lE, (.bool .true), ld6, lF, lF], [(lI .i64 4), (lS [105, 58, 101]), (lI .u8 9), lE, lZ, (lI .i64 0), lE, lN, lN, lZ, lE, lF, lN, lN, lN, (lI .i64 0), lF, lF, lZ, (lI .i64 0), lE, lN, lN, lZ, lE, lF, lE, lF, lN, lF, lF]] .none)
def ay9 : PV := (.agg [(.d (lI .i64 3)), (.d (lS [105, 58, 100])), (.d (lI .u8 1)), (.d lE), (.d lZ), (.d (lI .i64 0)), (.d lE), (.d lO), (.d lO), (.d lZ), (.d lE), (.d lF), (.d lO), (.d lO), (.d lO), (.d (lI .i64 0)), (.d lF), (.d lF), (.d lZ), (.d (lI .i64 0)), (.d lE), (.d lO), (.d lO), (.d lZ), (.d lE), (.d lF), (.d lE), (.d lF), (.d lO), (.d lF), (.d lF)])
def aza : PV := (.agg [(.d (lI .i64 2)), (.d (lS [105, 58, 99])), (.d (lI .u8 8)), (.d lE), (.d lZ), (.d (lI .i64 0)), (.d lE), (.d lO), (.d lO), (.d lZ), (.d lE), (.d lF), (.d lO), (.d lO), (.d ld0), (.d (lI .i64 0)), (.d lF), (.d lF), (.d lZ), (.d (lI .i64 0)), (.d lE), (.d lO), (.d lO), (.d lZ), (.d lE), (.d lF), (.d lE), (.d lF), (.d lO), (.d lF), (.d lF)])
def azb : PV := (.agg [(.d (lI .i64 4)), (.d (lS [105, 58, 101])), (.d (lI .u8 9)), (.d lE), (.d lZ), (.d (lI .i64 0)), (.d lE), (.d lO), (.d lO), (.d lZ), (.d lE), (.d lF), (.d lO), (.d lO), (.d lO), (.d (lI .i64 0)), (.d lF), (.d lF), (.d lZ), (.d (lI .i64 0)), (.d lE), (.d lO), (.d lO), (.d lZ), (.d lE), (.d lF), (.d lE), (.d lF), (.d lO), (.d lF), (.d lF)])
def azc : PV := (.agg [(.d (lI .i64 5)), (.d (lS [105, 58, 102])), (.d (lI .u8 9)), (.d lE), (.d lZ), (.d (lI .i64 0)), (.d lE), (.d lO), (.d lO), (.d lZ), (.d lE), (.d lF), (.d lO), (.d lO), (.d lO), (.d (lI .i64 0)), (.d lF), (.d lF), (.d lZ), (.d (lI .i64 0)), (.d lE), (.d lO), (.d lO), (.d lZ), (.d lE), (.d lF), (.d lE), (.d lF), (.d lO), (.d lF), (.d lF)])
def azd : D := (.sl [[(lI .i64 3), (lS [105, 58, 100]), (lI .u8 1), lE, lZ, (lI .i64 0), lE, lN, lN, lZ, lE, lF, lN, lN, lN, (lI .i64 0), lF, lF, lZ, (lI .i64 0), lE, lN, lN, lZ, lE, lF, lE, lF, lN, lF, lF], [(lI .i64 4), (lS [105, 58, 101]), (lI .u8 9), lE, lZ, (lI .i64 0), lE, lN, lN, lZ, lE, lF, lN, lN, lN, (lI .i64 0), lF, lF, lZ, (lI .i64 0), lE, lN, lN, lZ, lE, lF, lE, lF, lN, lF, lF], [(lI .i64 2), (lS [105, 58, 99]), (lI .u8 8), lE, lZ, (lI .i64 0), lE, lN, lN, lZ, lE, lF, lN, lN, ld5, (lI .i64 0), lF, lF, lZ, (lI .i64 0), lE, lN, lN, lZ, lE, lF, lE, (.bool .true), ld6, lF, lF], [(lI .i64 5), (lS [105, 58, 102]), (lI .u8 9), lE, lZ, (lI .i64 0), lE, lN, lN, lZ, lE, lF, lN, lN, lN, (lI .i64 0), lF, lF, lZ, (lI .i64 0), lE, lN, lN, lZ, lE, lF, lE, lF, lN, lF, lF], [(lI .i64 1), (lS [105, 58, 98]), (lI .u8 1), lE, lZ, (lI .i64 0), lE, lN, lN, lZ, lE, lF, lN, lN, ld7, (lI .i64 0), lF, lF, lZ, (lI .i64 0), lE, lN, lN, lZ, lE, lF, lE, lF, lN, lF, lF]] .none)
def L9 : List (List PV × PV) := [([lp3], (.d (.bool .true))), ([lp4], (.d lF))]
theorem awm : ∀ p ∈ L9, oP p.1 = true ∧ wF p.2 = true ∧ uI S0 (iY XFL) (iY XSL) 5000 100 9 p.1 [] = some (p.2, []) := by
 intro p hp
 simp only [L9, List.mem_cons, List.not_mem_nil, or_false] at hp
 rcases hp with rfl | rfl
 ·exact ⟨rfl, rfl, by kernel_rfl⟩
 ·exact ⟨rfl, rfl, by kernel_rfl⟩
def L10 : List (List PV × PV) := [([lp3], (.d ld8)), ([awk], (.d ay6))]
theorem asJ : ∀ p ∈ L10, oP p.1 = true ∧ wF p.2 = true ∧ uI S0 (iY XFL) (iY XSL) 5000 100 10 p.1 [] = some (p.2, []) := by
 intro p hp
 simp only [L10, List.mem_cons, List.not_mem_nil, or_false] at hp
 rcases hp with rfl | rfl
 ·exact ⟨rfl, rfl, by kernel_rfl⟩
 ·exact ⟨rfl, rfl, by kernel_rfl⟩
def L11 : List (List PV × PV) := [([lp3, awl], awk)]
theorem asK : ∀ p ∈ L11, oP p.1 = true ∧ wF p.2 = true ∧ uI S0 (iY XFL) (iY XSL) 5000 100 11 p.1 [] = some (p.2, []) := by
 intro p hp
 simp only [L11, List.mem_cons, List.not_mem_nil, or_false] at hp
 rcases hp with rfl
 ·exact ⟨rfl, rfl, by kernel_rfl⟩
def L13 : List (List PV × PV) := [([lp3, (.d (lI .i64 4))], (.zh [ay7, (.d (.bool .true))])), ([lp3, (.d (lI .i64 6))], (.zh [lp4, (.d lF)]))]
theorem asL : ∀ p ∈ L13, oP p.1 = true ∧ wF p.2 = true ∧ uI S0 (iY XFL) (iY XSL) 5000 100 13 p.1 [] = some (p.2, []) := by
 intro p hp
 simp only [L13, List.mem_cons, List.not_mem_nil, or_false] at hp
 rcases hp with rfl | rfl
 ·exact ⟨rfl, rfl, by kernel_rfl⟩
 ·exact ⟨rfl, rfl, by kernel_rfl⟩
def L14 : List (List PV × PV) := [([lp3, (.d (lI .i64 4))], (.d ay8))]
theorem asM : ∀ p ∈ L14, oP p.1 = true ∧ wF p.2 = true ∧ uI S0 (iY XFL) (iY XSL) 5000 100 14 p.1 [] = some (p.2, []) := by
 intro p hp
 simp only [L14, List.mem_cons, List.not_mem_nil, or_false] at hp
 rcases hp with rfl
 ·exact ⟨rfl, rfl, by kernel_rfl⟩
def L19 : List (List PV × PV) := [([(.d (lI .i64 3)), (.d (lI .u8 1)), (.d lO)], ay9), ([(.d (lI .i64 2)), (.d (lI .u8 8)), (.d ld0)], aza), ([(.d (lI .i64 4)), (.d (lI .u8 9)), (.d lO)], azb), ([(.d (lI .i64 5)), (.d (lI .u8 9)), (.d lO)], azc), ([(.d (lI .i64 1)), (.d (lI .u8 1)), (.d ld2)], lp3), ([(.d (lI .i64 2)), (.d (lI .u8 4)), (.d lO)], awl)]
theorem asN : ∀ p ∈ L19, oP p.1 = true ∧ wF p.2 = true ∧ uI S0 (iY XFL) (iY XSL) 5000 100 19 p.1 [] = some (p.2, []) := by
 intro p hp
 simp only [L19, List.mem_cons, List.not_mem_nil, or_false] at hp
 rcases hp with rfl | rfl | rfl | rfl | rfl | rfl
 ·exact ⟨rfl, rfl, by kernel_rfl⟩
 ·exact ⟨rfl, rfl, by kernel_rfl⟩
 ·exact ⟨rfl, rfl, by kernel_rfl⟩
 ·exact ⟨rfl, rfl, by kernel_rfl⟩
 ·exact ⟨rfl, rfl, by kernel_rfl⟩
 ·exact ⟨rfl, rfl, by kernel_rfl⟩
def L22 : List (List PV × PV) := [([lp3], (.d azd))]
theorem asO : ∀ p ∈ L22, oP p.1 = true ∧ wF p.2 = true ∧ uI S0 (iY XFL) (iY XSL) 5000 100 22 p.1 [] = some (p.2, []) := by
 intro p hp
 simp only [L22, List.mem_cons, List.not_mem_nil, or_false] at hp
 rcases hp with rfl
 ·exact ⟨rfl, rfl, by kernel_rfl⟩
noncomputable def S1 : X.Sys := { S0 with foreign := iY [(9, (U0 L9)), (10, (U0 L10)), (11, (U0 L11)), (13, (U0 L13)), (14, (U0 L14)), (19, (U0 L19)), (22, (U0 L22))] }
theorem amv : yw Try.prog S1 where
 tab := sM.tab
 mixed := sM.mixed
 fn := sM.fn
 sites := Am (fun _ => rfl) (by
  intro p hp
  simp only [List.mem_cons, List.not_mem_nil, or_false] at hp
  rcases hp with rfl | rfl | rfl | rfl | rfl | rfl | rfl | rfl | rfl | rfl | rfl | rfl | rfl | rfl | rfl | rfl | rfl | rfl | rfl | rfl | rfl | rfl | rfl | rfl | rfl | rfl | rfl | rfl | rfl | rfl | rfl | rfl | rfl | rfl | rfl | rfl | rfl | rfl | rfl | rfl | rfl | rfl | rfl | rfl | rfl | rfl | rfl | rfl | rfl | rfl | rfl | rfl | rfl | rfl | rfl | rfl | rfl | rfl | rfl | rfl | rfl | rfl | rfl | rfl
  iterate 14 exact .inl (by kernel_rfl)
  iterate 1 exact .inr ⟨by kernel_rfl, by kernel_rfl⟩
  iterate 8 exact .inl (by kernel_rfl)
  iterate 1 exact .inr ⟨by kernel_rfl, by kernel_rfl⟩
  iterate 40 exact .inl (by kernel_rfl))
 site := fun g q h => Fb (F := adh) (L := OG) (by
  intro p hp
  simp only [OG, List.mem_cons, List.not_mem_nil, or_false] at hp
  first
  | exact hp.elim
  | (subst hp; exact ⟨by kernel_rfl, by kernel_rfl, by kernel_rfl⟩)
  | (rcases hp with rfl | rfl <;> exact ⟨by kernel_rfl, by kernel_rfl, by kernel_rfl⟩)) g q h
 foreign := tF (by
  intro p hp
  simp only [List.mem_cons, List.not_mem_nil, or_false] at hp
  rcases hp with rfl | rfl | rfl | rfl | rfl | rfl | rfl
  ·exact nS sM DX DY awm
  ·exact nS sM DX DY asJ
  ·exact nS sM DX DY asK
  ·exact nS sM DX DY asL
  ·exact nS sM DX DY asM
  ·exact nS sM DX DY asN
  ·exact nS sM DX DY asO)
theorem amw : afM S1 (iY XFL) := DX
theorem amx : afN S1 (iY XSL) := DY
theorem amy : uI S1 (iY XFL) (iY XSL) 5000 100 7 [] [] = some (.d (.bool true), []) := by kernel_rfl
end Go.Proofs.Ytedfkehkcaaplaa
