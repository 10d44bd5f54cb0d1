/- T -/
import Derived.Test.YtedfkehkcaaplaaXTabTF
namespace Go.Proofs.Ytedfkehkcaaplaa
open Go Go.X
set_option linter.unusedVariables false
set_option maxRecDepth 100000
theorem aC {S : X.Sys} {Ω : Om} (hΩ : real (call S) = Ω) {f : Nat} {fn : Func} {b : Code} {rs : List ResultVar} (h1 : S.foreign f = none) (h2 : S.fn f = some fn) (h4 : fn.body = some b) (h5 : fn.results.toList = rs) (h6 : (S.tab.ann f).arena = false) (h7 : iF f = false) (args : List PV) (st : St) :
  Ω.cf f args st = mI Ω (S.tab.ann f).take 0 (down.fA 1 args) ([] :: st) fun args st => gu Ω S.tab (S.tab.ann f) (strip (S.tab.ann f) b) (enter 0 args) st fun e ρ st => match e with
   | .exit _ => none
   | _ => leave Ω S.tab (S.tab.ann f).give rs ρ st :=
 kJ hΩ h1 h2 (by rw [h4]; rfl) h5 h6 h7 args st
def cc4 : XC :=
 .seq (.region [oB 1 34 0 [0], xo 2 (.assign xF) []])
 (.seq (.seq (.iR [xo 13 (xc 7 [] []) [], xo 14 (.unOp .not 4 (xt 13)) [13], oM 15 14 [14], gL 16 34 1 15 false [], xg 17 (xc 8 [16] [34]) 15 false [16], xo 18 (.pick (xt 15) xT (xt 17)) [15,17], oM 19 18 [18], gL 20 34 1 19 false [], xg 21 (xc 9 [20] [34]) 19 false [20], xg 22 (.unOp .not 4 (xt 21)) 19 false [21], xo 23 (.pick (xt 19) xT (xt 22)) []])
 (.cond 23 (.seq (.region [xo 24 (xc 7 [] []) [], oA 2 24 []])
 (.ret)) (.skip)))
 (.seq (.region [oL 25 34 1 [], xo 26 (xc 10 [25] [34]) [25], oA 3 26 []])
 (.seq (.region [oM 27 3 [], xo 28 (xb .len [27] [32]) [27], xo 29 (.binOp .quo 3 (xt 28) (xi .i64 5) 3) [28], xo 30 (.binOp .add 3 (xi .i64 1) (xt 29) 3) [29], oA 4 30 []])
 (.seq (.seq (.region [xo 5 (.assign (xi .i64 0)) []])
 (.block 0 (.loop (.seq (.seq (.region [oM 31 5 [], oM 32 3 [], xo 33 (xb .len [32] [32]) [32], xo 34 (.binOp .lss 3 (xt 31) (xt 33) 3) []])
 (.cond 34 (.skip) (.exit 0)))
 (.seq (.block 1 (.seq (.region [oL 39 34 1 [], oM 40 3 [], oM 41 5 [], oI 42 32 40 41 [], oF 43 34 42 0 [], oL 44 3 43 [], xk 45 (xc 13 [39,44] [34,3]) [], oM 38 45 [], xo 46 (.extract (xt 38) 0) [], xo 47 (.extract (xt 38) 1) [], xo 6 (.alloc 34) [], xn (.store 34 (xt 6) (xt 46)), oA 7 47 []])
 (.seq (.region [oL 48 34 1 [], oM 49 3 [], oM 50 5 [], oI 51 32 49 50 [], oF 52 34 51 0 [], oL 53 3 52 [], xo 54 (xc 14 [48,53] [34,3]) [], oA 8 54 []])
 (.seq (.seq (.iR [oM 55 7 [], xo 56 (.unOp .not 4 (xt 55)) [], oM 57 56 [], gL 58 34 6 57 false [], gM 59 3 57 false [], gM 60 5 57 false [], xg 61 (.indexAddr 32 (xt 59) (xt 60)) 57 false [], gL 62 34 61 57 false [], xg 63 (xc 12 [58,62] [34,34]) 57 false [], xg 64 (.unOp .not 4 (xt 63)) 57 false [], xo 65 (.pick (xt 57) xT (xt 64)) [], oM 66 65 [], gL 67 34 6 66 false [], xg 68 (xc 9 [67] [34]) 66 false [], xg 69 (.unOp .not 4 (xt 68)) 66 false [], xo 70 (.pick (xt 66) xT (xt 69)) [], oM 71 70 [], gM 72 8 71 false [], xg 73 (xb .len [72] [32]) 71 false [], xg 74 (.binOp .eql 3 (xt 73) (xi .i64 0) 3) 71 false [], xo 75 (.pick (xt 71) xT (xt 74)) [], oM 76 75 [], gM 77 8 76 false [], xg 78 (.indexAddr 32 (xt 77) (xi .i64 0)) 76 false [], gL 79 34 78 76 false [], gL 80 34 1 76 false [], xg 81 (xc 12 [79,80] [34,34]) 76 false [], xg 82 (.unOp .not 4 (xt 81)) 76 false [], xo 83 (.pick (xt 76) xT (xt 82)) [], oM 84 83 [], gM 85 8 84 false [], gM 86 8 84 false [], xg 87 (xb .len [86] [32]) 84 false [], xg 88 (.binOp .sub 3 (xt 87) (xi .i64 1) 3) 84 false [], xg 89 (.indexAddr 32 (xt 85) (xt 88)) 84 false [], gL 90 34 89 84 false [], gL 91 34 6 84 false [], xg 92 (xc 12 [90,91] [34,34]) 84 false [], xg 93 (.unOp .not 4 (xt 92)) 84 false [], xo 94 (.pick (xt 84) xT (xt 93)) []])
 (.cond 94 (.seq (.region [xo 2 (.assign xF) []])
 (.ret)) (.skip)))
 (.seq (.region [xo 9 (.assign (xi .i64 1)) []])
 (.block 2 (.loop (.seq (.seq (.region [oM 95 9 [], oM 96 8 [], xo 97 (xb .len [96] [32]) [96], xo 98 (.binOp .lss 3 (xt 95) (xt 97) 3) []])
 (.cond 98 (.skip) (.exit 2)))
 (.seq (.block 3 (.seq (.region [oM 101 8 [], oM 102 9 [], xo 103 (.binOp .sub 3 (xt 102) (xi .i64 1) 3) [102], oI 104 32 101 103 [101,103], oL 105 34 104 [104], xo 106 (xc 15 [105] [34]) [105], oA 10 106 []])
 (.seq (.region [xo 11 (.assign xF) []])
 (.seq (.seq (.region [xo 12 (.assign (xi .i64 0)) []])
 (.block 4 (.loop (.seq (.seq (.region [oM 107 12 [], oM 108 10 [], xo 109 (xb .len [108] [32]) [108], xo 110 (.binOp .lss 3 (xt 107) (xt 109) 3) []])
 (.cond 110 (.skip) (.exit 4)))
 (.seq (.block 5 (.iR [oM 113 11 [], oM 114 113 [], gM 115 10 114 false [], gM 116 12 114 false [], xg 117 (.indexAddr 32 (xt 115) (xt 116)) 114 false [], gL 118 34 117 114 false [], gM 119 8 114 false [], gM 120 9 114 false [], xg 121 (.indexAddr 32 (xt 119) (xt 120)) 114 false [], gL 122 34 121 114 false [], xg 123 (xc 12 [118,122] [34,34]) 114 false [], xo 124 (.pick (xt 114) xT (xt 123)) [], oA 11 124 []]))
 (.region [oM 111 12 [], xo 112 (.binOp .add 3 (xt 111) (xi .i64 1) 3) [111], oA 12 112 []]))))))
 (.seq (.region [oM 125 11 [], xo 126 (.unOp .not 4 (xt 125)) []])
 (.cond 126 (.seq (.region [xo 2 (.assign xF) []])
 (.ret)) (.skip)))))))
 (.region [oM 99 9 [], xo 100 (.binOp .add 3 (xt 99) (xi .i64 1) 3) [99], oA 9 100 []]))))))))))
 (.region [oM 35 5 [], oM 36 4 [], xo 37 (.binOp .add 3 (xt 35) (xt 36) 3) [35,36], oA 5 37 []]))))))
 (.seq (.region [oM 127 3 [], xo 128 (xb .len [127] [32]) [127], xo 129 (.binOp .gtr 3 (xt 128) (xi .i64 0) 3) [128], oA 2 129 []])
 (.ret))))))
theorem abT : Try.f4.body.map (strip (tab.ann 4)) = some cc4 := by kernel_rfl
noncomputable def cc9 : XC := (Try.f9.body.map (strip (tab.ann 9))).getD .skip
theorem abU : Try.f9.body.map (strip (tab.ann 9)) = some cc9 := by kernel_rfl
noncomputable def ad5 : XC := (Try.f10.body.map (strip (tab.ann 10))).getD .skip
theorem X5 : Try.f10.body.map (strip (tab.ann 10)) = some ad5 := by kernel_rfl
def ad6 : XC :=
 .seq (.region [oB 2 34 0 [0], oB 3 34 1 [1], xo 4 (.assign xF) []])
 (.seq (.iR [oF 5 34 2 0 [], oL 6 3 5 [5], oF 7 34 3 0 [], oL 8 3 7 [7], xo 9 (.binOp .eql 3 (xt 6) (xt 8) 3) [6,8], oM 10 9 [9], gF 11 34 2 1 10 true [], gL 12 29 11 10 true [11], gF 13 34 3 1 10 true [], gL 14 29 13 10 true [13], xg 15 (xc 37 [12,14] [29,29]) 10 true [12,14], xo 16 (.pick (xt 10) (xt 15) xF) [10,15], oM 17 16 [16], gF 18 34 2 2 17 true [], gL 19 30 18 17 true [18], gF 20 34 3 2 17 true [], gL 21 30 20 17 true [20], xg 22 (xc 38 [19,21] [30,30]) 17 true [19,21], xo 23 (.pick (xt 17) (xt 22) xF) [17,22], oM 24 23 [23], gF 25 34 2 3 24 true [], gL 26 31 25 24 true [25], gF 27 34 3 3 24 true [], gL 28 31 27 24 true [27], xg 29 (xc 39 [26,28] [31,31]) 24 true [26,28], xo 30 (.pick (xt 24) (xt 29) xF) [24,29], oM 31 30 [30], gF 32 34 2 4 31 true [], gL 33 32 32 31 true [32], gF 34 34 3 4 31 true [], gL 35 32 34 31 true [34], xg 36 (xc 40 [33,35] [32,32]) 31 true [33,35], xo 37 (.pick (xt 31) (xt 36) xF) [31,36], oM 38 37 [37], gF 39 34 2 5 38 true [], gL 40 3 39 38 true [39], gF 41 34 3 5 38 true [], gL 42 3 41 38 true [41], xg 43 (.binOp .eql 3 (xt 40) (xt 42) 3) 38 true [40,42], xo 44 (.pick (xt 38) (xt 43) xF) [38,43], oM 45 44 [44], gF 46 34 2 6 45 true [], gL 47 4 46 45 true [46], gF 48 34 3 6 45 true [], gL 49 4 48 45 true [48], xg 50 (.binOp .eql 4 (xt 47) (xt 49) 4) 45 true [47,49], xo 51 (.pick (xt 45) (xt 50) xF) [45,50], oM 52 51 [51], gF 53 34 2 7 52 true [], gL 54 4 53 52 true [53], gF 55 34 3 7 52 true [], gL 56 4 55 52 true [55], xg 57 (.binOp .eql 4 (xt 54) (xt 56) 4) 52 true [54,56], xo 58 (.pick (xt 52) (xt 57) xF) [52,57], oM 59 58 [58], gF 60 34 2 8 59 true [], gL 61 27 60 59 true [60], gF 62 34 3 8 59 true [], gL 63 27 62 59 true [62], xg 64 (xc 41 [61,63] [27,27]) 59 true [61,63], xo 65 (.pick (xt 59) (xt 64) xF) [59,64], oM 66 65 [65], gF 67 34 2 9 66 true [], gL 68 9 67 66 true [67], gF 69 34 3 9 66 true [], gL 70 9 69 66 true [69], xg 71 (.binOp .eql 9 (xt 68) (xt 70) 9) 66 true [68,70], xo 72 (.pick (xt 66) (xt 71) xF) [66,71], oM 73 72 [72], gF 74 34 2 10 73 true [], gL 75 4 74 73 true [74], gF 76 34 3 10 73 true [], gL 77 4 76 73 true [76], xg 78 (.binOp .eql 4 (xt 75) (xt 77) 4) 73 true [75,77], xo 79 (.pick (xt 73) (xt 78) xF) [73,78], oM 80 79 [79], gF 81 34 2 11 80 true [], gL 82 32 81 80 true [81], gF 83 34 3 11 80 true [], gL 84 32 83 80 true [83], xg 85 (xc 40 [82,84] [32,32]) 80 true [82,84], xo 86 (.pick (xt 80) (xt 85) xF) [80,85], oM 87 86 [86], gF 88 34 2 12 87 true [], gL 89 4 88 87 true [88], gF 90 34 3 12 87 true [], gL 91 4 90 87 true [90], xg 92 (.binOp .eql 4 (xt 89) (xt 91) 4) 87 true [89,91], xo 93 (.pick (xt 87) (xt 92) xF) [87,92], oM 94 93 [93], gF 95 34 2 13 94 true [], gL 96 4 95 94 true [95], gF 97 34 3 13 94 true [], gL 98 4 97 94 true [97], xg 99 (.binOp .eql 4 (xt 96) (xt 98) 4) 94 true [96,98], xo 100 (.pick (xt 94) (xt 99) xF) [94,99], oA 4 100 []])
 (.ret))
theorem X6 : Try.f12.body.map (strip (tab.ann 12)) = some ad6 := by kernel_rfl
noncomputable def ad7 : XC := (Try.f13.body.map (strip (tab.ann 13))).getD .skip
theorem X7 : Try.f13.body.map (strip (tab.ann 13)) = some ad7 := by kernel_rfl
noncomputable def ad8 : XC := (Try.f14.body.map (strip (tab.ann 14))).getD .skip
theorem X8 : Try.f14.body.map (strip (tab.ann 14)) = some ad8 := by kernel_rfl
def abV : XC :=
 .region [xo 3 (.alloc 34) [], xn (.store 34 (xt 3) (xt 9))]
def abW : XC :=
 .block 1 (.xU [oL 10 32 2 [], oL 11 34 3 [], xk 12 (xc 31 [11] [34]) [], xo 13 (xb .len [10] [32]) [], xk 14 (.buildSlice 32 1 #[(0, (.const (.agg #[(.int .i64 0), (.string { data := #[] }), (.int .u8 0), (.string { data := #[] }), (.int .u8 0), (.int .i64 0), (.string { data := #[] }), (.slice none 0 0), (.slice none 0 0), (.int .u8 0), (.string { data := #[] }), (.bool false), (.slice none 0 0), (.slice none 0 0), (.slice none 0 0), (.int .i64 0), (.bool false), (.bool false), (.int .u8 0), (.int .i64 0), (.string { data := #[] }), (.slice none 0 0), (.slice none 0 0), (.int .u8 0), (.string { data := #[] }), (.bool false), (.string { data := #[] }), (.bool false), (.slice none 0 0), (.bool false), (.bool false)])))]) [], xo 15 (xb .append [10,14] [32,32]) []] (.both (.step (oI 16 32 15 13 []) (.both (.step (xn (.store 34 (xt 16) (xt 12))) (.step (xn (.store 32 (xt 2) (xt 15))) (.done))) (.step (xn (.store 32 (xt 2) (xt 15))) (.step (xn (.store 34 (xt 16) (xt 12))) (.done))))) (.step (xn (.store 32 (xt 2) (xt 15))) (.step (oI 16 32 15 13 []) (.step (xn (.store 34 (xt 16) (xt 12))) (.done))))))
theorem Uh : (bY.site 150).map (fun q => (q.own, q.ps, strip (tab.ann q.own) q.BS, strip (tab.ann q.own) q.body)) = some (15, [9], abV, abW) := by kernel_rfl
noncomputable def ad9 : XC := (Try.f25.body.map (strip (tab.ann 25))).getD .skip
theorem X9 : Try.f25.body.map (strip (tab.ann 25)) = some ad9 := by kernel_rfl
def abX : XC :=
 .seq (.region [oB 1 34 0 [0], xo 2 (.assign xF) []])
 (.seq (.region [oF 5 34 1 1 [], oF 6 29 5 1 [5], oL 7 22 6 [6], xo 3 (.alloc 22) [], xn (.store 22 (xt 3) (xt 7))])
 (.seq (.region [xo 8 (.makeFunc (.func 57) #[] #[(xt 3)]) [], oA 4 8 []])
 (.seq (.xS [[oF 9 34 1 0 [], oL 10 3 9 [9], xo 11 (.binOp .gtr 3 (xt 10) (xi .i64 0) 3) [10], oM 12 11 [11], gL 13 22 3 12 true [], xg 14 (.binOp .geq 22 (xt 13) (xi .u8 1) 22) 12 true [13], xo 15 (.pick (xt 12) (xt 14) xF) [12,14]], [oM 16 15 [15], gL 17 22 3 16 true [], xg 18 (.binOp .leq 22 (xt 17) (xi .u8 9) 22) 16 true [17], xo 19 (.pick (xt 16) (xt 18) xF) [16,18]], [oM 20 19 [19], gF 21 34 1 5 20 true [], gL 22 3 21 20 true [21], xg 23 (.binOp .geq 3 (xt 22) (xi .i64 0) 3) 20 true [22], xo 24 (.pick (xt 20) (xt 23) xF) [20,23]], [oM 25 24 [24], gF 26 34 1 4 25 true [], gL 27 32 26 25 true [26], xg 28 (xc 59 [27] [32]) 25 true [27], xo 29 (.pick (xt 25) (xt 28) xF) [25,28]], [oM 30 29 [29], gF 31 34 1 11 30 true [], gL 32 32 31 30 true [31], xg 33 (xc 59 [32] [32]) 30 true [32], xo 34 (.pick (xt 30) (xt 33) xF) [30,33]], [oM 35 34 [34], gF 36 34 1 2 35 true [], gL 37 30 36 35 true [36], xg 38 (xb .len [37] [30]) 35 true [37], xg 39 (.binOp .eql 3 (xt 38) (xi .i64 0) 3) 35 true [38], gM 40 39 35 true [39], gM 41 4 40 false [], xg 42 (.buildSlice 82 2 #[(0, (xi .u8 2)), (1, (xi .u8 3))]) 40 false [], xg 43 (.call { callee := (.value (xt 41)), args := #[(xt 42)], argTypes := #[82] }) 40 false [41,42], xg 44 (.pick (xt 40) xT (xt 43)) 35 true [40,43], xo 45 (.pick (xt 35) (xt 44) xF) [35,44]], [oM 46 45 [45], gF 47 34 1 5 46 true [], gL 48 3 47 46 true [47], xg 49 (.binOp .eql 3 (xt 48) (xi .i64 0) 3) 46 true [48], gM 50 49 46 true [49], gM 51 4 50 false [], xg 52 (.buildSlice 82 2 #[(0, (xi .u8 1)), (1, (xi .u8 9))]) 50 false [], xg 53 (.call { callee := (.value (xt 51)), args := #[(xt 52)], argTypes := #[82] }) 50 false [51,52], xg 54 (.pick (xt 50) xT (xt 53)) 46 true [50,53], xo 55 (.pick (xt 46) (xt 54) xF) [46,54]], [oM 56 55 [55], gF 57 34 1 6 56 true [], gL 58 4 57 56 true [57], xg 59 (.unOp .not 4 (xt 58)) 56 true [58], gM 60 59 56 true [59], gF 61 34 1 7 60 true [], gL 62 4 61 60 true [61], xg 63 (.unOp .not 4 (xt 62)) 60 true [62], xg 64 (.pick (xt 60) (xt 63) xF) 56 true [60,63], gM 65 64 56 true [64], gF 66 34 1 8 65 true [], gL 67 27 66 65 true [66], xg 68 (.build 27 #[]) 65 true [], xg 69 (xc 60 [67,68] [27,27]) 65 true [67,68], xg 70 (.pick (xt 65) (xt 69) xF) 56 true [65,69], gM 71 70 56 true [70], gM 72 4 71 false [], xg 73 (.buildSlice 82 1 #[(0, (xi .u8 7))]) 71 false [], xg 74 (.call { callee := (.value (xt 72)), args := #[(xt 73)], argTypes := #[82] }) 71 false [72,73], xg 75 (.pick (xt 71) xT (xt 74)) 56 true [71,74], xo 76 (.pick (xt 56) (xt 75) xF) [56,75]], [oM 77 76 [76], gF 78 34 1 9 77 true [], gL 79 9 78 77 true [78], xg 80 (.binOp .eql 9 (xt 79) (.const (.string { data := #[] })) 9) 77 true [79], gM 81 80 77 true [80], gF 82 34 1 10 81 true [], gL 83 4 82 81 true [82], xg 84 (.unOp .not 4 (xt 83)) 81 true [83], xg 85 (.pick (xt 81) (xt 84) xF) 77 true [81,84], gM 86 85 77 true [85], gM 87 4 86 false [], xg 88 (.buildSlice 82 1 #[(0, (xi .u8 8))]) 86 false [], xg 89 (.call { callee := (.value (xt 87)), args := #[(xt 88)], argTypes := #[82] }) 86 false [87,88], xg 90 (.pick (xt 86) xT (xt 89)) 77 true [86,89], xo 91 (.pick (xt 77) (xt 90) xF) [77,90]], [oM 92 91 [91], gF 93 34 1 11 92 true [], gL 94 32 93 92 true [93], xg 95 (xb .len [94] [32]) 92 true [94], xg 96 (.binOp .eql 3 (xt 95) (xi .i64 0) 3) 92 true [95], gM 97 96 92 true [96], gL 98 34 1 97 false [], xg 99 (xc 36 [98] [34]) 97 false [98], xg 100 (.pick (xt 97) xT (xt 99)) 92 true [97,99], xo 101 (.pick (xt 92) (xt 100) xF) [92,100]], [oM 102 101 [101], gF 103 34 1 4 102 true [], gL 104 32 103 102 true [103], xg 105 (xb .len [104] [32]) 102 true [104], xg 106 (.binOp .eql 3 (xt 105) (xi .i64 0) 3) 102 true [105], gM 107 106 102 true [106], gM 108 4 107 false [], xg 109 (.buildSlice 82 1 #[(0, (xi .u8 9))]) 107 false [], xg 110 (.call { callee := (.value (xt 108)), args := #[(xt 109)], argTypes := #[82] }) 107 false [108,109], xg 111 (.unOp .not 4 (xt 110)) 107 false [110], xg 112 (.pick (xt 107) xT (xt 111)) 102 true [107,111], xo 113 (.pick (xt 102) (xt 112) xF) [102,112]], [oA 2 113 []]])
 (.ret))))
theorem PU : Try.f26.body.map (strip (tab.ann 26)) = some abX := by kernel_rfl
noncomputable def aea : XC := (Try.f27.body.map (strip (tab.ann 27))).getD .skip
theorem Ya : Try.f27.body.map (strip (tab.ann 27)) = some aea := by kernel_rfl
noncomputable def aeb : XC := (Try.f28.body.map (strip (tab.ann 28))).getD .skip
theorem Yb : Try.f28.body.map (strip (tab.ann 28)) = some aeb := by kernel_rfl
def Ui : XC :=
 .region [xo 6 (.alloc 34) [], xn (.store 34 (xt 6) (xt 15))]
def Uj : XC :=
 .block 1 (.region [oL 16 34 6 [], oL 17 59 4 [], oL 18 59 5 [], xo 19 (xc 29 [16,17,18] [34,59,59]) []])
theorem Ll : (bY.site 155).map (fun q => (q.own, q.ps, strip (tab.ann q.own) q.BS, strip (tab.ann q.own) q.body)) = some (29, [15], Ui, Uj) := by kernel_rfl
noncomputable def aec : XC := (Try.f29.body.map (strip (tab.ann 29))).getD .skip
theorem Yc : Try.f29.body.map (strip (tab.ann 29)) = some aec := by kernel_rfl
noncomputable def aed : XC := (Try.f30.body.map (strip (tab.ann 30))).getD .skip
theorem Yd : Try.f30.body.map (strip (tab.ann 30)) = some aed := by kernel_rfl
def abY : XC :=
 .seq (.region [oB 1 34 0 [0], xo 2 (.alloc 34) []])
 (.seq (.region [oF 3 34 1 1 [], oL 4 29 3 [], xk 5 (xc 62 [4] [29]) [], oF 6 34 1 2 [], oL 7 30 6 [], xk 8 (xc 63 [7] [30]) [], oF 9 34 1 3 [], oL 10 31 9 [], xk 11 (xc 64 [10] [31]) [], oF 12 34 1 8 [], oL 13 27 12 [], xk 14 (xc 65 [13] [27]) [], oF 15 34 1 1 [], xn (.store 29 (xt 15) (xt 5)), oF 16 34 1 2 [], xn (.store 30 (xt 16) (xt 8)), oF 17 34 1 3 [], xn (.store 31 (xt 17) (xt 11)), oF 18 34 1 8 [], xn (.store 27 (xt 18) (xt 14))])
 (.seq (.region [oF 19 34 1 4 [], oL 20 32 19 [], xk 21 (xc 42 [20] [32]) [], oF 22 34 1 11 [], oL 23 32 22 [], xk 24 (xc 42 [23] [32]) [], oF 25 34 1 4 [], xn (.store 32 (xt 25) (xt 21)), oF 26 34 1 11 [], xn (.store 32 (xt 26) (xt 24))])
 (.seq (.region [oL 27 34 1 [], xn (.store 34 (xt 2) (xt 27))])
 (.ret))))
theorem PW : Try.f31.body.map (strip (tab.ann 31)) = some abY := by kernel_rfl
noncomputable def aee : XC := (Try.f32.body.map (strip (tab.ann 32))).getD .skip
theorem Ye : Try.f32.body.map (strip (tab.ann 32)) = some aee := by kernel_rfl
noncomputable def aef : XC := (Try.f34.body.map (strip (tab.ann 34))).getD .skip
theorem Yf : Try.f34.body.map (strip (tab.ann 34)) = some aef := by kernel_rfl
noncomputable def aeg : XC := (Try.f36.body.map (strip (tab.ann 36))).getD .skip
theorem Yg : Try.f36.body.map (strip (tab.ann 36)) = some aeg := by kernel_rfl
def aeh : XC :=
 .seq (.region [oB 2 29 0 [0], oB 3 29 1 [1], xo 4 (.assign xF) []])
 (.seq (.iR [oF 5 29 2 0 [], oL 6 9 5 [5], oF 7 29 3 0 [], oL 8 9 7 [7], xo 9 (.binOp .eql 9 (xt 6) (xt 8) 9) [6,8], oM 10 9 [9], gF 11 29 2 1 10 true [], gL 12 22 11 10 true [11], gF 13 29 3 1 10 true [], gL 14 22 13 10 true [13], xg 15 (.binOp .eql 22 (xt 12) (xt 14) 22) 10 true [12,14], xo 16 (.pick (xt 10) (xt 15) xF) [10,15], oM 17 16 [16], gF 18 29 2 2 17 true [], gL 19 9 18 17 true [18], gF 20 29 3 2 17 true [], gL 21 9 20 17 true [20], xg 22 (.binOp .eql 9 (xt 19) (xt 21) 9) 17 true [19,21], xo 23 (.pick (xt 17) (xt 22) xF) [17,22], oM 24 23 [23], gF 25 29 2 3 24 true [], gL 26 27 25 24 true [25], gF 27 29 3 3 24 true [], gL 28 27 27 24 true [27], xg 29 (xc 41 [26,28] [27,27]) 24 true [26,28], xo 30 (.pick (xt 24) (xt 29) xF) [24,29], oA 4 30 []])
 (.ret))
theorem Yh : Try.f37.body.map (strip (tab.ann 37)) = some aeh := by kernel_rfl
def aei : XC :=
 .seq (.region [oB 2 27 0 [0], oB 3 27 1 [1], xo 4 (.assign xF) []])
 (.seq (.iR [oF 5 27 2 0 [], oL 6 23 5 [5], oF 7 27 3 0 [], oL 8 23 7 [7], xo 9 (.binOp .eql 23 (xt 6) (xt 8) 23) [6,8], oM 10 9 [9], gF 11 27 2 1 10 true [], gL 12 2 11 10 true [11], gF 13 27 3 1 10 true [], gL 14 2 13 10 true [13], xg 15 (.binOp .eql 2 (xt 12) (xt 14) 2) 10 true [12,14], xo 16 (.pick (xt 10) (xt 15) xF) [10,15], oM 17 16 [16], gF 18 27 2 2 17 true [], gL 19 9 18 17 true [18], gF 20 27 3 2 17 true [], gL 21 9 20 17 true [20], xg 22 (.binOp .eql 9 (xt 19) (xt 21) 9) 17 true [19,21], xo 23 (.pick (xt 17) (xt 22) xF) [17,22], oM 24 23 [23], gF 25 27 2 3 24 true [], gL 26 24 25 24 true [25], gF 27 27 3 3 24 true [], gL 28 24 27 24 true [27], xg 29 (xc 67 [26,28] [24,24]) 24 true [26,28], xo 30 (.pick (xt 24) (xt 29) xF) [24,29], oM 31 30 [30], gF 32 27 2 4 31 true [], gL 33 25 32 31 true [32], gF 34 27 3 4 31 true [], gL 35 25 34 31 true [34], xg 36 (xc 68 [33,35] [25,25]) 31 true [33,35], xo 37 (.pick (xt 31) (xt 36) xF) [31,36], oM 38 37 [37], gF 39 27 2 5 38 true [], gL 40 22 39 38 true [39], gF 41 27 3 5 38 true [], gL 42 22 41 38 true [41], xg 43 (.binOp .eql 22 (xt 40) (xt 42) 22) 38 true [40,42], xo 44 (.pick (xt 38) (xt 43) xF) [38,43], oM 45 44 [44], gF 46 27 2 6 45 true [], gL 47 9 46 45 true [46], gF 48 27 3 6 45 true [], gL 49 9 48 45 true [48], xg 50 (.binOp .eql 9 (xt 47) (xt 49) 9) 45 true [47,49], xo 51 (.pick (xt 45) (xt 50) xF) [45,50], oM 52 51 [51], gF 53 27 2 7 52 true [], gL 54 4 53 52 true [53], gF 55 27 3 7 52 true [], gL 56 4 55 52 true [55], xg 57 (.binOp .eql 4 (xt 54) (xt 56) 4) 52 true [54,56], xo 58 (.pick (xt 52) (xt 57) xF) [52,57], oA 4 58 []])
 (.ret))
theorem Yi : Try.f41.body.map (strip (tab.ann 41)) = some aei := by kernel_rfl
noncomputable def aej : XC := (Try.f42.body.map (strip (tab.ann 42))).getD .skip
theorem Yj : Try.f42.body.map (strip (tab.ann 42)) = some aej := by kernel_rfl
def Uk : XC :=
 .region [xo 5 (.alloc 34) [], xn (.store 34 (xt 5) (xt 18))]
def Ul : XC :=
 .block 1 (.seq (.region [oL 19 34 5 [], oL 20 3 3 [], xo 21 (xc 43 [19,20] [34,3]) [19,20], oA 6 21 []])
 (.seq (.region [oM 22 6 [], xo 23 (xb .len [22] [32]) [22], xo 24 (.binOp .gtr 3 (xt 23) (xi .i64 0) 3) []])
 (.cond 24 (.seq (.iR [oL 25 34 2 [], xo 26 (.buildSlice 32 1 #[(0, (xt 25))]) [25], oM 27 6 [], xo 28 (xb .append [26,27] [32,32]) [26,27], xn (.store 32 (xt 4) (xt 28))])
 (.ret)) (.skip))))
theorem Lm : (bY.site 156).map (fun q => (q.own, q.ps, strip (tab.ann q.own) q.BS, strip (tab.ann q.own) q.body)) = some (43, [18], Uk, Ul) := by kernel_rfl
noncomputable def aek : XC := (Try.f43.body.map (strip (tab.ann 43))).getD .skip
theorem Yk : Try.f43.body.map (strip (tab.ann 43)) = some aek := by kernel_rfl
noncomputable def ael : XC := (Try.f44.body.map (strip (tab.ann 44))).getD .skip
theorem Yl : Try.f44.body.map (strip (tab.ann 44)) = some ael := by kernel_rfl
noncomputable def aem : XC := (Try.f57.body.map (strip (tab.ann 57))).getD .skip
theorem Ym : Try.f57.body.map (strip (tab.ann 57)) = some aem := by kernel_rfl
noncomputable def aen : XC := (Try.f58.body.map (strip (tab.ann 58))).getD .skip
theorem Yn : Try.f58.body.map (strip (tab.ann 58)) = some aen := by kernel_rfl
noncomputable def aeo : XC := (Try.f59.body.map (strip (tab.ann 59))).getD .skip
theorem Yo : Try.f59.body.map (strip (tab.ann 59)) = some aeo := by kernel_rfl
def abZ : XC :=
 .seq (.region [oB 2 27 0 [0], oB 3 27 1 [1], xo 4 (.assign xF) []])
 (.seq (.iR [oF 5 27 2 0 [], oL 6 23 5 [5], oF 7 27 3 0 [], oL 8 23 7 [7], xo 9 (.binOp .eql 23 (xt 6) (xt 8) 23) [6,8], oM 10 9 [9], gF 11 27 2 1 10 true [], gL 12 2 11 10 true [11], gF 13 27 3 1 10 true [], gL 14 2 13 10 true [13], xg 15 (.binOp .eql 2 (xt 12) (xt 14) 2) 10 true [12,14], xo 16 (.pick (xt 10) (xt 15) xF) [10,15], oM 17 16 [16], gF 18 27 2 2 17 true [], gL 19 9 18 17 true [18], gF 20 27 3 2 17 true [], gL 21 9 20 17 true [20], xg 22 (.binOp .eql 9 (xt 19) (xt 21) 9) 17 true [19,21], xo 23 (.pick (xt 17) (xt 22) xF) [17,22], oM 24 23 [23], gF 25 27 2 5 24 true [], gL 26 22 25 24 true [25], gF 27 27 3 5 24 true [], gL 28 22 27 24 true [27], xg 29 (.binOp .eql 22 (xt 26) (xt 28) 22) 24 true [26,28], xo 30 (.pick (xt 24) (xt 29) xF) [24,29], oM 31 30 [30], gF 32 27 2 6 31 true [], gL 33 9 32 31 true [32], gF 34 27 3 6 31 true [], gL 35 9 34 31 true [34], xg 36 (.binOp .eql 9 (xt 33) (xt 35) 9) 31 true [33,35], xo 37 (.pick (xt 31) (xt 36) xF) [31,36], oM 38 37 [37], gF 39 27 2 7 38 true [], gL 40 4 39 38 true [39], gF 41 27 3 7 38 true [], gL 42 4 41 38 true [41], xg 43 (.binOp .eql 4 (xt 40) (xt 42) 4) 38 true [40,42], xo 44 (.pick (xt 38) (xt 43) xF) [38,43], oM 45 44 [44], gF 46 27 2 3 45 true [], gL 47 24 46 45 true [46], gF 48 27 3 3 45 true [], gL 49 24 48 45 true [48], xg 50 (.call { callee := (.value (.func 83)), args := #[(xt 47), (xt 49), (.func 60)], argTypes := #[24, 24, 65] }) 45 true [47,49], xo 51 (.pick (xt 45) (xt 50) xF) [45,50], oM 52 51 [51], gF 53 27 2 4 52 true [], gL 54 25 53 52 true [53], gF 55 27 3 4 52 true [], gL 56 25 55 52 true [55], xg 57 (xc 84 [54,56] [25,25]) 52 true [54,56], xo 58 (.pick (xt 52) (xt 57) xF) [52,57], oA 4 58 []])
 (.ret))
theorem PX : Try.f60.body.map (strip (tab.ann 60)) = some abZ := by kernel_rfl
noncomputable def aep : XC := (Try.f61.body.map (strip (tab.ann 61))).getD .skip
theorem Yp : Try.f61.body.map (strip (tab.ann 61)) = some aep := by kernel_rfl
noncomputable def aer : XC := (Try.f62.body.map (strip (tab.ann 62))).getD .skip
theorem Yq : Try.f62.body.map (strip (tab.ann 62)) = some aer := by kernel_rfl
noncomputable def aes : XC := (Try.f63.body.map (strip (tab.ann 63))).getD .skip
theorem Yr : Try.f63.body.map (strip (tab.ann 63)) = some aes := by kernel_rfl
noncomputable def aeu : XC := (Try.f64.body.map (strip (tab.ann 64))).getD .skip
theorem Yt : Try.f64.body.map (strip (tab.ann 64)) = some aeu := by kernel_rfl
noncomputable def aev : XC := (Try.f65.body.map (strip (tab.ann 65))).getD .skip
theorem Yu : Try.f65.body.map (strip (tab.ann 65)) = some aev := by kernel_rfl
def aew : XC :=
 .seq (.region [oB 2 78 0 [0], oB 3 78 1 [1], xo 4 (.assign xF) []])
 (.seq (.iR [oF 5 78 2 0 [], oL 6 75 5 [5], oF 7 78 3 0 [], oL 8 75 7 [7], xo 9 (.binOp .eql 75 (xt 6) (xt 8) 75) [6,8], oM 10 9 [9], gF 11 78 2 1 10 true [], gL 12 9 11 10 true [11], gF 13 78 3 1 10 true [], gL 14 9 13 10 true [13], xg 15 (.binOp .eql 9 (xt 12) (xt 14) 9) 10 true [12,14], xo 16 (.pick (xt 10) (xt 15) xF) [10,15], oM 17 16 [16], gF 18 78 2 2 17 true [], gL 19 27 18 17 true [18], gF 20 78 3 2 17 true [], gL 21 27 20 17 true [20], xg 22 (xc 41 [19,21] [27,27]) 17 true [19,21], xo 23 (.pick (xt 17) (xt 22) xF) [17,22], oM 24 23 [23], gF 25 78 2 3 24 true [], gL 26 27 25 24 true [25], gF 27 78 3 3 24 true [], gL 28 27 27 24 true [27], xg 29 (xc 41 [26,28] [27,27]) 24 true [26,28], xo 30 (.pick (xt 24) (xt 29) xF) [24,29], oM 31 30 [30], gF 32 78 2 4 31 true [], gL 33 24 32 31 true [32], gF 34 78 3 4 31 true [], gL 35 24 34 31 true [34], xg 36 (xc 67 [33,35] [24,24]) 31 true [33,35], xo 37 (.pick (xt 31) (xt 36) xF) [31,36], oM 38 37 [37], gF 39 78 2 5 38 true [], gL 40 76 39 38 true [39], gF 41 78 3 5 38 true [], gL 42 76 41 38 true [41], xg 43 (xc 90 [40,42] [76,76]) 38 true [40,42], xo 44 (.pick (xt 38) (xt 43) xF) [38,43], oM 45 44 [44], gF 46 78 2 6 45 true [], gL 47 76 46 45 true [46], gF 48 78 3 6 45 true [], gL 49 76 48 45 true [48], xg 50 (xc 90 [47,49] [76,76]) 45 true [47,49], xo 51 (.pick (xt 45) (xt 50) xF) [45,50], oM 52 51 [51], gF 53 78 2 7 52 true [], gL 54 25 53 52 true [53], gF 55 78 3 7 52 true [], gL 56 25 55 52 true [55], xg 57 (xc 68 [54,56] [25,25]) 52 true [54,56], xo 58 (.pick (xt 52) (xt 57) xF) [52,57], oM 59 58 [58], gF 60 78 2 8 59 true [], gL 61 4 60 59 true [60], gF 62 78 3 8 59 true [], gL 63 4 62 59 true [62], xg 64 (.binOp .eql 4 (xt 61) (xt 63) 4) 59 true [61,63], xo 65 (.pick (xt 59) (xt 64) xF) [59,64], oM 66 65 [65], gF 67 78 2 9 66 true [], gL 68 4 67 66 true [67], gF 69 78 3 9 66 true [], gL 70 4 69 66 true [69], xg 71 (.binOp .eql 4 (xt 68) (xt 70) 4) 66 true [68,70], xo 72 (.pick (xt 66) (xt 71) xF) [66,71], oM 73 72 [72], gF 74 78 2 10 73 true [], gL 75 76 74 73 true [74], gF 76 78 3 10 73 true [], gL 77 76 76 73 true [76], xg 78 (xc 90 [75,77] [76,76]) 73 true [75,77], xo 79 (.pick (xt 73) (xt 78) xF) [73,78], oM 80 79 [79], gF 81 78 2 11 80 true [], gL 82 25 81 80 true [81], gF 83 78 3 11 80 true [], gL 84 25 83 80 true [83], xg 85 (xc 68 [82,84] [25,25]) 80 true [82,84], xo 86 (.pick (xt 80) (xt 85) xF) [80,85], oA 4 86 []])
 (.ret))
theorem Yv : Try.f66.body.map (strip (tab.ann 66)) = some aew := by kernel_rfl
noncomputable def aex : XC := (Try.f69.body.map (strip (tab.ann 69))).getD .skip
theorem Yw : Try.f69.body.map (strip (tab.ann 69)) = some aex := by kernel_rfl
noncomputable def aey : XC := (Try.f70.body.map (strip (tab.ann 70))).getD .skip
theorem Yx : Try.f70.body.map (strip (tab.ann 70)) = some aey := by kernel_rfl
noncomputable def aez : XC := (Try.f82.body.map (strip (tab.ann 82))).getD .skip
theorem Yy : Try.f82.body.map (strip (tab.ann 82)) = some aez := by kernel_rfl
noncomputable def aeA : XC := (Try.f83.body.map (strip (tab.ann 83))).getD .skip
theorem Yz : Try.f83.body.map (strip (tab.ann 83)) = some aeA := by kernel_rfl
noncomputable def aeB : XC := (Try.f84.body.map (strip (tab.ann 84))).getD .skip
theorem YA : Try.f84.body.map (strip (tab.ann 84)) = some aeB := by kernel_rfl
noncomputable def aeC : XC := (Try.f85.body.map (strip (tab.ann 85))).getD .skip
theorem YB : Try.f85.body.map (strip (tab.ann 85)) = some aeC := by kernel_rfl
noncomputable def aeD : XC := (Try.f86.body.map (strip (tab.ann 86))).getD .skip
theorem YC : Try.f86.body.map (strip (tab.ann 86)) = some aeD := by kernel_rfl
noncomputable def aeE : XC := (Try.f87.body.map (strip (tab.ann 87))).getD .skip
theorem YD : Try.f87.body.map (strip (tab.ann 87)) = some aeE := by kernel_rfl
noncomputable def aeF : XC := (Try.f88.body.map (strip (tab.ann 88))).getD .skip
theorem YE : Try.f88.body.map (strip (tab.ann 88)) = some aeF := by kernel_rfl
noncomputable def aeG : XC := (Try.f89.body.map (strip (tab.ann 89))).getD .skip
theorem YF : Try.f89.body.map (strip (tab.ann 89)) = some aeG := by kernel_rfl
noncomputable def aeH : XC := (Try.f94.body.map (strip (tab.ann 94))).getD .skip
theorem YG : Try.f94.body.map (strip (tab.ann 94)) = some aeH := by kernel_rfl
noncomputable def aeI : XC := (Try.f97.body.map (strip (tab.ann 97))).getD .skip
theorem YH : Try.f97.body.map (strip (tab.ann 97)) = some aeI := by kernel_rfl
noncomputable def aaN : XC := (Try.f102.body.map (strip (tab.ann 102))).getD .skip
theorem Um : Try.f102.body.map (strip (tab.ann 102)) = some aaN := by kernel_rfl
noncomputable def aaO : XC := (Try.f103.body.map (strip (tab.ann 103))).getD .skip
theorem Un : Try.f103.body.map (strip (tab.ann 103)) = some aaO := by kernel_rfl
noncomputable def aaP : XC := (Try.f104.body.map (strip (tab.ann 104))).getD .skip
theorem Uo : Try.f104.body.map (strip (tab.ann 104)) = some aaP := by kernel_rfl
noncomputable def aaQ : XC := (Try.f105.body.map (strip (tab.ann 105))).getD .skip
theorem Uq : Try.f105.body.map (strip (tab.ann 105)) = some aaQ := by kernel_rfl
noncomputable def aaR : XC := (Try.f106.body.map (strip (tab.ann 106))).getD .skip
theorem Ur : Try.f106.body.map (strip (tab.ann 106)) = some aaR := by kernel_rfl
noncomputable def aaS : XC := (Try.f107.body.map (strip (tab.ann 107))).getD .skip
theorem Us : Try.f107.body.map (strip (tab.ann 107)) = some aaS := by kernel_rfl
def aaT : XC :=
 .seq (.region [oB 2 128 0 [0], oB 3 128 1 [1], xo 4 (.assign xF) []])
 (.seq (.iR [oF 5 128 2 0 [], oL 6 121 5 [5], oF 7 128 3 0 [], oL 8 121 7 [7], xo 9 (.binOp .eql 121 (xt 6) (xt 8) 121) [6,8], oM 10 9 [9], gF 11 128 2 1 10 true [], gL 12 9 11 10 true [11], gF 13 128 3 1 10 true [], gL 14 9 13 10 true [13], xg 15 (.binOp .eql 9 (xt 12) (xt 14) 9) 10 true [12,14], xo 16 (.pick (xt 10) (xt 15) xF) [10,15], oM 17 16 [16], gF 18 128 2 2 17 true [], gL 19 126 18 17 true [18], gF 20 128 3 2 17 true [], gL 21 126 20 17 true [20], xg 22 (xc 118 [19,21] [126,126]) 17 true [19,21], xo 23 (.pick (xt 17) (xt 22) xF) [17,22], oA 4 23 []])
 (.ret))
theorem Ut : Try.f108.body.map (strip (tab.ann 108)) = some aaT := by kernel_rfl
noncomputable def aaU : XC := (Try.f111.body.map (strip (tab.ann 111))).getD .skip
theorem Uu : Try.f111.body.map (strip (tab.ann 111)) = some aaU := by kernel_rfl
noncomputable def aaV : XC := (Try.f113.body.map (strip (tab.ann 113))).getD .skip
theorem Uv : Try.f113.body.map (strip (tab.ann 113)) = some aaV := by kernel_rfl
noncomputable def aaW : XC := (Try.f115.body.map (strip (tab.ann 115))).getD .skip
theorem Uw : Try.f115.body.map (strip (tab.ann 115)) = some aaW := by kernel_rfl
noncomputable def aaX : XC := (Try.f116.body.map (strip (tab.ann 116))).getD .skip
theorem Ux : Try.f116.body.map (strip (tab.ann 116)) = some aaX := by kernel_rfl
def Uy : XC :=
 .seq (.region [oB 1 126 0 [0], xo 2 (.alloc 126) []])
 (.seq (.region [oF 3 126 1 3 [], oL 4 123 3 [], xk 5 (xc 123 [4] [123]) [], oF 6 126 1 5 [], oL 7 123 6 [], xk 8 (xc 123 [7] [123]) [], oF 9 126 1 7 [], oL 10 123 9 [], xk 11 (xc 123 [10] [123]) [], oF 12 126 1 4 [], oL 13 124 12 [], xk 14 (xc 124 [13] [124]) [], oF 15 126 1 8 [], oL 16 76 15 [], xk 17 (xc 104 [16] [76]) [], oF 18 126 1 3 [], xn (.store 123 (xt 18) (xt 5)), oF 19 126 1 5 [], xn (.store 123 (xt 19) (xt 8)), oF 20 126 1 7 [], xn (.store 123 (xt 20) (xt 11)), oF 21 126 1 4 [], xn (.store 124 (xt 21) (xt 14)), oF 22 126 1 8 [], xn (.store 76 (xt 22) (xt 17))])
 (.seq (.region [oL 23 126 1 [], xn (.store 126 (xt 2) (xt 23))])
 (.ret)))
theorem Lp : Try.f117.body.map (strip (tab.ann 117)) = some Uy := by kernel_rfl
def aaY : XC :=
 .seq (.region [oB 2 126 0 [0], oB 3 126 1 [1], xo 4 (.assign xF) []])
 (.seq (.iR [oF 5 126 2 0 [], oL 6 122 5 [5], oF 7 126 3 0 [], oL 8 122 7 [7], xo 9 (.binOp .eql 122 (xt 6) (xt 8) 122) [6,8], oM 10 9 [9], gF 11 126 2 1 10 true [], gL 12 2 11 10 true [11], gF 13 126 3 1 10 true [], gL 14 2 13 10 true [13], xg 15 (.binOp .eql 2 (xt 12) (xt 14) 2) 10 true [12,14], xo 16 (.pick (xt 10) (xt 15) xF) [10,15], oM 17 16 [16], gF 18 126 2 2 17 true [], gL 19 9 18 17 true [18], gF 20 126 3 2 17 true [], gL 21 9 20 17 true [20], xg 22 (.binOp .eql 9 (xt 19) (xt 21) 9) 17 true [19,21], xo 23 (.pick (xt 17) (xt 22) xF) [17,22], oM 24 23 [23], gF 25 126 2 3 24 true [], gL 26 123 25 24 true [25], gF 27 126 3 3 24 true [], gL 28 123 27 24 true [27], xg 29 (xc 125 [26,28] [123,123]) 24 true [26,28], xo 30 (.pick (xt 24) (xt 29) xF) [24,29], oM 31 30 [30], gF 32 126 2 4 31 true [], gL 33 124 32 31 true [32], gF 34 126 3 4 31 true [], gL 35 124 34 31 true [34], xg 36 (xc 126 [33,35] [124,124]) 31 true [33,35], xo 37 (.pick (xt 31) (xt 36) xF) [31,36], oM 38 37 [37], gF 39 126 2 5 38 true [], gL 40 123 39 38 true [39], gF 41 126 3 5 38 true [], gL 42 123 41 38 true [41], xg 43 (xc 125 [40,42] [123,123]) 38 true [40,42], xo 44 (.pick (xt 38) (xt 43) xF) [38,43], oM 45 44 [44], gF 46 126 2 6 45 true [], gL 47 22 46 45 true [46], gF 48 126 3 6 45 true [], gL 49 22 48 45 true [48], xg 50 (.binOp .eql 22 (xt 47) (xt 49) 22) 45 true [47,49], xo 51 (.pick (xt 45) (xt 50) xF) [45,50], oM 52 51 [51], gF 53 126 2 7 52 true [], gL 54 123 53 52 true [53], gF 55 126 3 7 52 true [], gL 56 123 55 52 true [55], xg 57 (xc 125 [54,56] [123,123]) 52 true [54,56], xo 58 (.pick (xt 52) (xt 57) xF) [52,57], oM 59 58 [58], gF 60 126 2 8 59 true [], gL 61 76 60 59 true [60], gF 62 126 3 8 59 true [], gL 63 76 62 59 true [62], xg 64 (xc 90 [61,63] [76,76]) 59 true [61,63], xo 65 (.pick (xt 59) (xt 64) xF) [59,64], oM 66 65 [65], gF 67 126 2 9 66 true [], gL 68 9 67 66 true [67], gF 69 126 3 9 66 true [], gL 70 9 69 66 true [69], xg 71 (.binOp .eql 9 (xt 68) (xt 70) 9) 66 true [68,70], xo 72 (.pick (xt 66) (xt 71) xF) [66,71], oA 4 72 []])
 (.ret))
theorem Uz : Try.f118.body.map (strip (tab.ann 118)) = some aaY := by kernel_rfl
noncomputable def aaZ : XC := (Try.f120.body.map (strip (tab.ann 120))).getD .skip
theorem UA : Try.f120.body.map (strip (tab.ann 120)) = some aaZ := by kernel_rfl
noncomputable def aa0 : XC := (Try.f123.body.map (strip (tab.ann 123))).getD .skip
theorem UC : Try.f123.body.map (strip (tab.ann 123)) = some aa0 := by kernel_rfl
noncomputable def aa1 : XC := (Try.f124.body.map (strip (tab.ann 124))).getD .skip
theorem UD : Try.f124.body.map (strip (tab.ann 124)) = some aa1 := by kernel_rfl
noncomputable def aa2 : XC := (Try.f131.body.map (strip (tab.ann 131))).getD .skip
theorem UE : Try.f131.body.map (strip (tab.ann 131)) = some aa2 := by kernel_rfl
noncomputable def aa3 : XC := (Try.f132.body.map (strip (tab.ann 132))).getD .skip
theorem UF : Try.f132.body.map (strip (tab.ann 132)) = some aa3 := by kernel_rfl
end Go.Proofs.Ytedfkehkcaaplaa
