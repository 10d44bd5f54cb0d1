/- The code of the functions, as little of it as is needed: printed by a small program, held against the loaded program by evaluation. -/
import Derived.Test.YtipkggkbldgmjaaXTabWG
namespace Go.Proofs.Ytipkggkbldgmjaa
open Go Go.X
set_option linter.unusedVariables false
set_option linter.unusedSimpArgs false
set_option maxRecDepth 100000
def c3 : XC :=
  .seq (.region [⟨some 6, (Op.assign (Operand.const (Value.bool false))), none, false, []⟩])
 (.seq (.region [⟨some 9, (Op.build 27 #[(0, (Operand.const (Value.int IntKind.u8 3))), (2, (Operand.const (Value.string { data := #[110, 101, 119] })))]), none, false, []⟩, ⟨some 7, (Op.alloc 27), none, false, []⟩, ⟨none, (Op.store 27 (Operand.tmp 7) (Operand.tmp 9)), none, false, []⟩])
 (.seq (.region [⟨some 10, (Op.move (Operand.tmp 0)), none, false, []⟩, ⟨some 11, (Op.move (Operand.tmp 1)), none, false, []⟩, ⟨some 12, (Op.load 27 (Operand.tmp 7)), none, false, []⟩, ⟨some 13, (Op.call { callee := (Callee.value (Operand.func 7)), args := #[(Operand.tmp 10), (Operand.tmp 11), (Operand.tmp 12)], argTypes := #[22, 9, 27] }), none, false, [10, 11, 12]⟩, ⟨some 8, (Op.assign (Operand.tmp 13)), none, false, []⟩])
 (.seq (.seq (.region [⟨some 14, (Op.move (Operand.tmp 8)), none, false, []⟩, ⟨some 15, (Op.move (Operand.tmp 1)), none, false, []⟩, ⟨some 16, (Op.call { callee := (Callee.value (Operand.func 9)), args := #[(Operand.tmp 14), (Operand.tmp 15)], argTypes := #[22, 9] }), none, true, []⟩, ⟨some 17, (Op.load 27 (Operand.tmp 7)), none, false, []⟩, ⟨some 18, (Op.call { callee := (Callee.value (Operand.func 8)), args := #[(Operand.tmp 16), (Operand.tmp 17)], argTypes := #[27, 27] }), none, true, []⟩, ⟨some 19, (Op.unOp UnOp.not 4 (Operand.tmp 18)), none, false, []⟩])
 (.cond 19 (.seq (.region [⟨some 6, (Op.assign (Operand.const (Value.bool false))), none, false, []⟩])
 (.ret)) (.skip)))
 (.seq (.regionG [⟨some 20, (Op.move (Operand.tmp 2)), none, false, []⟩, ⟨some 21, (Op.move (Operand.tmp 1)), none, false, []⟩, ⟨some 22, (Op.binOp BinOp.eql 9 (Operand.tmp 20) (Operand.tmp 21) 9), none, false, [20, 21]⟩, ⟨some 23, (Op.move (Operand.tmp 22)), none, false, [22]⟩, ⟨some 24, (Op.move (Operand.tmp 8)), (some (23, false)), false, []⟩, ⟨some 25, (Op.move (Operand.tmp 2)), (some (23, false)), false, []⟩, ⟨some 26, (Op.call { callee := (Callee.value (Operand.func 9)), args := #[(Operand.tmp 24), (Operand.tmp 25)], argTypes := #[22, 9] }), (some (23, false)), false, [24, 25]⟩, ⟨some 27, (Op.move (Operand.tmp 0)), (some (23, false)), false, []⟩, ⟨some 28, (Op.move (Operand.tmp 2)), (some (23, false)), false, []⟩, ⟨some 29, (Op.call { callee := (Callee.value (Operand.func 9)), args := #[(Operand.tmp 27), (Operand.tmp 28)], argTypes := #[22, 9] }), (some (23, false)), false, [27, 28]⟩, ⟨some 30, (Op.call { callee := (Callee.value (Operand.func 8)), args := #[(Operand.tmp 26), (Operand.tmp 29)], argTypes := #[27, 27] }), (some (23, false)), false, [26, 29]⟩, ⟨some 31, (Op.pick (Operand.tmp 23) (Operand.const (Value.bool true)) (Operand.tmp 30)), none, false, [23, 30]⟩, ⟨some 32, (Op.move (Operand.tmp 31)), none, false, [31]⟩, ⟨some 33, (Op.call { callee := (Callee.value (Operand.func 10)), args := #[], argTypes := #[] }), (some (32, true)), false, []⟩, ⟨some 34, (Op.pick (Operand.tmp 32) (Operand.tmp 33) (Operand.const (Value.bool false))), none, false, [32, 33]⟩, ⟨some 6, (Op.assign (Operand.tmp 34)), none, false, []⟩])
 (.ret)))))
theorem c3_ok : Try.f3.body.map (strip (tab.ann 3)) = some c3 := by kernel_rfl
def c7 : XC :=
  .seq (.region [⟨some 4, (Op.box 9 (Operand.tmp 1)), none, false, []⟩, ⟨some 5, (Op.box 27 (Operand.tmp 2)), none, false, []⟩, ⟨some 6, (Op.assign (Operand.const (Value.slice none 0 0))), none, false, []⟩])
 (.seq (.region [⟨some 8, (Op.move (Operand.tmp 0)), none, false, []⟩, ⟨some 9, (Op.call { callee := (Callee.value (Operand.func 24)), args := #[(Operand.tmp 8)], argTypes := #[22] }), none, false, [8]⟩, ⟨some 10, (Op.makeFunc (Fn.func 25) #[] #[(Operand.tmp 4)]), none, false, []⟩, ⟨some 11, (Op.call { callee := (Callee.value (Operand.func 23)), args := #[(Operand.tmp 9), (Operand.tmp 10)], argTypes := #[22, 51] }), none, false, [9, 10]⟩, ⟨some 7, (Op.assign (Operand.tmp 11)), none, false, []⟩])
 (.seq (.regionG [⟨some 12, (Op.move (Operand.tmp 7)), none, false, []⟩, ⟨some 13, (Op.load 9 (Operand.tmp 4)), none, false, []⟩, ⟨some 14, (Op.load 27 (Operand.tmp 5)), none, false, []⟩, ⟨some 15, (Op.call { callee := (Callee.value (Operand.func 26)), args := #[(Operand.tmp 14)], argTypes := #[27] }), none, true, []⟩, ⟨some 16, (Op.build 49 #[(0, (Operand.tmp 13)), (1, (Operand.tmp 15))]), none, true, []⟩, ⟨some 17, (Op.buildSlice 22 1 #[(0, (Operand.tmp 16))]), none, true, []⟩, ⟨some 18, (Op.call { callee := (Callee.builtin Builtin.append), args := #[(Operand.tmp 12), (Operand.tmp 17)], argTypes := #[22, 22] }), none, false, []⟩, ⟨some 6, (Op.assign (Operand.tmp 18)), none, false, []⟩])
 (.ret)))
theorem c7_ok : Try.f7.body.map (strip (tab.ann 7)) = some c7 := by kernel_rfl
def c8 : XC :=
  .seq (.region [⟨some 2, (Op.box 27 (Operand.tmp 0)), none, false, []⟩, ⟨some 3, (Op.box 27 (Operand.tmp 1)), none, false, []⟩, ⟨some 4, (Op.assign (Operand.const (Value.bool false))), none, false, []⟩])
 (.seq (.regionG [⟨some 5, (Op.fieldAddr 27 (Operand.tmp 2) 0), none, false, []⟩, ⟨some 6, (Op.load 23 (Operand.tmp 5)), none, false, [5]⟩, ⟨some 7, (Op.fieldAddr 27 (Operand.tmp 3) 0), none, false, []⟩, ⟨some 8, (Op.load 23 (Operand.tmp 7)), none, false, [7]⟩, ⟨some 9, (Op.binOp BinOp.eql 23 (Operand.tmp 6) (Operand.tmp 8) 23), none, false, [6, 8]⟩, ⟨some 10, (Op.move (Operand.tmp 9)), none, false, [9]⟩, ⟨some 11, (Op.fieldAddr 27 (Operand.tmp 2) 1), (some (10, true)), false, []⟩, ⟨some 12, (Op.load 2 (Operand.tmp 11)), (some (10, true)), false, [11]⟩, ⟨some 13, (Op.fieldAddr 27 (Operand.tmp 3) 1), (some (10, true)), false, []⟩, ⟨some 14, (Op.load 2 (Operand.tmp 13)), (some (10, true)), false, [13]⟩, ⟨some 15, (Op.binOp BinOp.eql 2 (Operand.tmp 12) (Operand.tmp 14) 2), (some (10, true)), false, [12, 14]⟩, ⟨some 16, (Op.pick (Operand.tmp 10) (Operand.tmp 15) (Operand.const (Value.bool false))), none, false, [10, 15]⟩, ⟨some 17, (Op.move (Operand.tmp 16)), none, false, [16]⟩, ⟨some 18, (Op.fieldAddr 27 (Operand.tmp 2) 2), (some (17, true)), false, []⟩, ⟨some 19, (Op.load 9 (Operand.tmp 18)), (some (17, true)), false, [18]⟩, ⟨some 20, (Op.fieldAddr 27 (Operand.tmp 3) 2), (some (17, true)), false, []⟩, ⟨some 21, (Op.load 9 (Operand.tmp 20)), (some (17, true)), false, [20]⟩, ⟨some 22, (Op.binOp BinOp.eql 9 (Operand.tmp 19) (Operand.tmp 21) 9), (some (17, true)), false, [19, 21]⟩, ⟨some 23, (Op.pick (Operand.tmp 17) (Operand.tmp 22) (Operand.const (Value.bool false))), none, false, [17, 22]⟩, ⟨some 24, (Op.move (Operand.tmp 23)), none, false, [23]⟩, ⟨some 25, (Op.fieldAddr 27 (Operand.tmp 2) 3), (some (24, true)), false, []⟩, ⟨some 26, (Op.load 24 (Operand.tmp 25)), (some (24, true)), false, [25]⟩, ⟨some 27, (Op.fieldAddr 27 (Operand.tmp 3) 3), (some (24, true)), false, []⟩, ⟨some 28, (Op.load 24 (Operand.tmp 27)), (some (24, true)), false, [27]⟩, ⟨some 29, (Op.call { callee := (Callee.value (Operand.func 27)), args := #[(Operand.tmp 26), (Operand.tmp 28)], argTypes := #[24, 24] }), (some (24, true)), false, [26, 28]⟩, ⟨some 30, (Op.pick (Operand.tmp 24) (Operand.tmp 29) (Operand.const (Value.bool false))), none, false, [24, 29]⟩, ⟨some 31, (Op.move (Operand.tmp 30)), none, false, [30]⟩, ⟨some 32, (Op.fieldAddr 27 (Operand.tmp 2) 4), (some (31, true)), false, []⟩, ⟨some 33, (Op.load 22 (Operand.tmp 32)), (some (31, true)), false, [32]⟩, ⟨some 34, (Op.fieldAddr 27 (Operand.tmp 3) 4), (some (31, true)), false, []⟩, ⟨some 35, (Op.load 22 (Operand.tmp 34)), (some (31, true)), false, [34]⟩, ⟨some 36, (Op.call { callee := (Callee.value (Operand.func 28)), args := #[(Operand.tmp 33), (Operand.tmp 35)], argTypes := #[22, 22] }), (some (31, true)), false, [33, 35]⟩, ⟨some 37, (Op.pick (Operand.tmp 31) (Operand.tmp 36) (Operand.const (Value.bool false))), none, false, [31, 36]⟩, ⟨some 38, (Op.move (Operand.tmp 37)), none, false, [37]⟩, ⟨some 39, (Op.fieldAddr 27 (Operand.tmp 2) 5), (some (38, true)), false, []⟩, ⟨some 40, (Op.load 25 (Operand.tmp 39)), (some (38, true)), false, [39]⟩, ⟨some 41, (Op.fieldAddr 27 (Operand.tmp 3) 5), (some (38, true)), false, []⟩, ⟨some 42, (Op.load 25 (Operand.tmp 41)), (some (38, true)), false, [41]⟩, ⟨some 43, (Op.binOp BinOp.eql 25 (Operand.tmp 40) (Operand.tmp 42) 25), (some (38, true)), false, [40, 42]⟩, ⟨some 44, (Op.pick (Operand.tmp 38) (Operand.tmp 43) (Operand.const (Value.bool false))), none, false, [38, 43]⟩, ⟨some 45, (Op.move (Operand.tmp 44)), none, false, [44]⟩, ⟨some 46, (Op.fieldAddr 27 (Operand.tmp 2) 6), (some (45, true)), false, []⟩, ⟨some 47, (Op.load 9 (Operand.tmp 46)), (some (45, true)), false, [46]⟩, ⟨some 48, (Op.fieldAddr 27 (Operand.tmp 3) 6), (some (45, true)), false, []⟩, ⟨some 49, (Op.load 9 (Operand.tmp 48)), (some (45, true)), false, [48]⟩, ⟨some 50, (Op.binOp BinOp.eql 9 (Operand.tmp 47) (Operand.tmp 49) 9), (some (45, true)), false, [47, 49]⟩, ⟨some 51, (Op.pick (Operand.tmp 45) (Operand.tmp 50) (Operand.const (Value.bool false))), none, false, [45, 50]⟩, ⟨some 52, (Op.move (Operand.tmp 51)), none, false, [51]⟩, ⟨some 53, (Op.fieldAddr 27 (Operand.tmp 2) 7), (some (52, true)), false, []⟩, ⟨some 54, (Op.load 4 (Operand.tmp 53)), (some (52, true)), false, [53]⟩, ⟨some 55, (Op.fieldAddr 27 (Operand.tmp 3) 7), (some (52, true)), false, []⟩, ⟨some 56, (Op.load 4 (Operand.tmp 55)), (some (52, true)), false, [55]⟩, ⟨some 57, (Op.binOp BinOp.eql 4 (Operand.tmp 54) (Operand.tmp 56) 4), (some (52, true)), false, [54, 56]⟩, ⟨some 58, (Op.pick (Operand.tmp 52) (Operand.tmp 57) (Operand.const (Value.bool false))), none, false, [52, 57]⟩, ⟨some 4, (Op.assign (Operand.tmp 58)), none, false, []⟩])
 (.ret))
theorem c8_ok : Try.f8.body.map (strip (tab.ann 8)) = some c8 := by kernel_rfl
def cs117a : XC :=
  .region [⟨some 5, (Op.alloc 27), none, false, []⟩, ⟨none, (Op.store 27 (Operand.tmp 5) (Operand.tmp 9)), none, false, []⟩]
def cs117b : XC :=
  .block 1 (.seq (.region [⟨some 10, (Op.load 27 (Operand.tmp 5)), none, false, []⟩, ⟨some 11, (Op.call { callee := (Callee.value (Operand.func 26)), args := #[(Operand.tmp 10)], argTypes := #[27] }), none, false, [10]⟩, ⟨none, (Op.store 27 (Operand.tmp 4) (Operand.tmp 11)), none, false, []⟩])
 (.ret))
theorem cs117_ok : (Sites.site 117).map (fun q => (q.own, q.ps, strip (tab.ann q.own) q.asg, strip (tab.ann q.own) q.body)) = some (9, [9], cs117a, cs117b) := by kernel_rfl
def c9 : XC :=
  .seq (.region [⟨some 4, (Op.alloc 27), none, false, []⟩])
 (.seq (.seq (.region [⟨some 6, (Op.move (Operand.tmp 0)), none, false, []⟩, ⟨some 7, (Op.move (Operand.tmp 1)), none, false, []⟩, ⟨some 8, (Op.call { callee := (Callee.value (Operand.func 29)), args := #[(Operand.tmp 6), (Operand.tmp 7)], argTypes := #[22, 9] }), none, false, []⟩])
 (.block 0 (.rng 8)))
 (.seq (.region [⟨some 12, (Op.build 27 #[]), none, false, []⟩, ⟨none, (Op.store 27 (Operand.tmp 4) (Operand.tmp 12)), none, false, []⟩])
 (.ret)))
theorem c9_ok : Try.f9.body.map (strip (tab.ann 9)) = some c9 := by kernel_rfl
def c23 : XC :=
  .seq (.region [⟨some 4, (Op.assign (Operand.const (Value.slice none 0 0))), none, false, []⟩])
 (.seq (.region [⟨some 8, (Op.move (Operand.tmp 0)), none, false, []⟩, ⟨some 9, (Op.move (Operand.tmp 1)), none, false, []⟩, ⟨some 10, (Op.call { callee := (Callee.value (Operand.func 47)), args := #[(Operand.tmp 8), (Operand.tmp 9)], argTypes := #[22, 51] }), none, false, [8, 9]⟩, ⟨some 5, (Op.assign (Operand.tmp 10)), none, false, []⟩])
 (.seq (.seq (.region [⟨some 11, (Op.move (Operand.tmp 5)), none, false, []⟩, ⟨some 12, (Op.binOp BinOp.eql 3 (Operand.tmp 11) (Operand.const (Value.int IntKind.i64 (-1))) 3), none, false, []⟩])
 (.cond 12 (.seq (.region [⟨some 13, (Op.move (Operand.tmp 0)), none, false, []⟩, ⟨some 4, (Op.assign (Operand.tmp 13)), none, false, []⟩])
 (.ret)) (.skip)))
 (.seq (.seq (.region [⟨some 14, (Op.move (Operand.tmp 5)), none, false, []⟩, ⟨some 15, (Op.binOp BinOp.add 3 (Operand.tmp 14) (Operand.const (Value.int IntKind.i64 1)) 3), none, false, [14]⟩, ⟨some 6, (Op.assign (Operand.tmp 15)), none, false, []⟩])
 (.block 0 (.loop (.seq (.seq (.region [⟨some 16, (Op.move (Operand.tmp 6)), none, false, []⟩, ⟨some 17, (Op.move (Operand.tmp 0)), none, false, []⟩, ⟨some 18, (Op.call { callee := (Callee.builtin Builtin.len), args := #[(Operand.tmp 17)], argTypes := #[22] }), none, false, [17]⟩, ⟨some 19, (Op.binOp BinOp.lss 3 (Operand.tmp 16) (Operand.tmp 18) 3), none, false, []⟩])
 (.cond 19 (.skip) (.exit 0)))
 (.seq (.block 1 (.seq (.region [⟨some 22, (Op.move (Operand.tmp 0)), none, false, []⟩, ⟨some 23, (Op.move (Operand.tmp 6)), none, false, []⟩, ⟨some 24, (Op.indexAddr 22 (Operand.tmp 22) (Operand.tmp 23)), none, false, [22, 23]⟩, ⟨some 25, (Op.load 49 (Operand.tmp 24)), none, false, [24]⟩, ⟨some 7, (Op.alloc 49), none, false, []⟩, ⟨none, (Op.store 49 (Operand.tmp 7) (Operand.tmp 25)), none, false, []⟩])
 (.seq (.region [⟨some 26, (Op.move (Operand.tmp 1)), none, false, []⟩, ⟨some 27, (Op.load 49 (Operand.tmp 7)), none, false, []⟩, ⟨some 28, (Op.call { callee := (Callee.value (Operand.tmp 26)), args := #[(Operand.tmp 27)], argTypes := #[49] }), none, false, [26, 27]⟩, ⟨some 29, (Op.unOp UnOp.not 4 (Operand.tmp 28)), none, false, []⟩])
 (.cond 29 (.seq (.region [⟨some 30, (Op.move (Operand.tmp 0)), none, false, []⟩, ⟨some 31, (Op.move (Operand.tmp 5)), none, false, []⟩, ⟨some 32, (Op.load 49 (Operand.tmp 7)), none, false, []⟩, ⟨some 33, (Op.indexAddr 22 (Operand.tmp 30) (Operand.tmp 31)), none, false, [30, 31]⟩, ⟨none, (Op.store 49 (Operand.tmp 33) (Operand.tmp 32)), none, false, []⟩])
 (.region [⟨some 34, (Op.move (Operand.tmp 5)), none, false, []⟩, ⟨some 35, (Op.binOp BinOp.add 3 (Operand.tmp 34) (Operand.const (Value.int IntKind.i64 1)) 3), none, false, [34]⟩, ⟨some 5, (Op.assign (Operand.tmp 35)), none, false, []⟩])) (.skip)))))
 (.region [⟨some 20, (Op.move (Operand.tmp 6)), none, false, []⟩, ⟨some 21, (Op.binOp BinOp.add 3 (Operand.tmp 20) (Operand.const (Value.int IntKind.i64 1)) 3), none, false, [20]⟩, ⟨some 6, (Op.assign (Operand.tmp 21)), none, false, []⟩]))))))
 (.seq (.region [⟨some 36, (Op.move (Operand.tmp 0)), none, false, []⟩, ⟨some 37, (Op.move (Operand.tmp 5)), none, false, []⟩, ⟨some 38, (Op.slice 22 (Operand.tmp 36) (some (Operand.tmp 37)) none none), none, false, [36, 37]⟩, ⟨none, (Op.call { callee := (Callee.builtin Builtin.clear), args := #[(Operand.tmp 38)], argTypes := #[22] }), none, false, []⟩])
 (.seq (.region [⟨some 39, (Op.move (Operand.tmp 0)), none, false, []⟩, ⟨some 40, (Op.move (Operand.tmp 5)), none, false, []⟩, ⟨some 41, (Op.slice 22 (Operand.tmp 39) none (some (Operand.tmp 40)) none), none, false, [39, 40]⟩, ⟨some 4, (Op.assign (Operand.tmp 41)), none, false, []⟩])
 (.ret))))))
theorem c23_ok : Try.f23.body.map (strip (tab.ann 23)) = some c23 := by kernel_rfl
def c24 : XC :=
  .seq (.region [⟨some 2, (Op.assign (Operand.const (Value.slice none 0 0))), none, false, []⟩])
 (.seq (.region [⟨some 5, (Op.move (Operand.tmp 0)), none, false, []⟩, ⟨some 6, (Op.call { callee := (Callee.value (Operand.func 48)), args := #[(Operand.tmp 5)], argTypes := #[22] }), none, false, [5]⟩, ⟨some 3, (Op.assign (Operand.tmp 6)), none, false, []⟩])
 (.seq (.seq (.region [⟨some 7, (Op.move (Operand.tmp 3)), none, false, []⟩, ⟨some 8, (Op.call { callee := (Callee.builtin Builtin.len), args := #[(Operand.tmp 7)], argTypes := #[22] }), none, false, [7]⟩, ⟨some 9, (Op.move (Operand.const (Value.int IntKind.i64 0))), none, false, []⟩])
 (.block 0 (.loop (.seq (.region [⟨some 10, (Op.binOp BinOp.lss 3 (Operand.tmp 9) (Operand.tmp 8) 3), none, false, []⟩])
 (.seq (.cond 10 (.skip) (.exit 0))
 (.seq (.block 1 (.seq (.region [⟨some 11, (Op.move (Operand.tmp 9)), none, false, []⟩, ⟨some 4, (Op.assign (Operand.tmp 11)), none, false, []⟩])
 (.region [⟨some 12, (Op.move (Operand.tmp 3)), none, false, []⟩, ⟨some 13, (Op.move (Operand.tmp 4)), none, false, []⟩, ⟨some 14, (Op.move (Operand.tmp 3)), none, false, []⟩, ⟨some 15, (Op.move (Operand.tmp 4)), none, false, []⟩, ⟨some 16, (Op.indexAddr 22 (Operand.tmp 14) (Operand.tmp 15)), none, false, [14, 15]⟩, ⟨some 17, (Op.fieldAddr 49 (Operand.tmp 16) 1), none, false, [16]⟩, ⟨some 18, (Op.load 27 (Operand.tmp 17)), none, false, [17]⟩, ⟨some 19, (Op.call { callee := (Callee.value (Operand.func 26)), args := #[(Operand.tmp 18)], argTypes := #[27] }), none, false, [18]⟩, ⟨some 20, (Op.indexAddr 22 (Operand.tmp 12) (Operand.tmp 13)), none, false, [12, 13]⟩, ⟨some 21, (Op.fieldAddr 49 (Operand.tmp 20) 1), none, false, [20]⟩, ⟨none, (Op.store 27 (Operand.tmp 21) (Operand.tmp 19)), none, false, []⟩])))
 (.region [⟨some 22, (Op.binOp BinOp.add 3 (Operand.tmp 9) (Operand.const (Value.int IntKind.i64 1)) 3), none, false, []⟩, ⟨some 9, (Op.move (Operand.tmp 22)), none, false, []⟩])))))))
 (.seq (.region [⟨some 23, (Op.move (Operand.tmp 3)), none, false, []⟩, ⟨some 24, (Op.call { callee := (Callee.value (Operand.func 49)), args := #[(Operand.tmp 23)], argTypes := #[22] }), none, false, [23]⟩, ⟨some 2, (Op.assign (Operand.tmp 24)), none, false, []⟩])
 (.ret))))
theorem c24_ok : Try.f24.body.map (strip (tab.ann 24)) = some c24 := by kernel_rfl
def c25 : XC :=
  .seq (.region [⟨some 2, (Op.box 49 (Operand.tmp 0)), none, false, []⟩, ⟨some 3, (Op.assign (Operand.const (Value.bool false))), none, false, []⟩])
 (.seq (.region [⟨some 4, (Op.fieldAddr 49 (Operand.tmp 2) 0), none, false, []⟩, ⟨some 5, (Op.load 9 (Operand.tmp 4)), none, false, [4]⟩, ⟨some 6, (Op.load 9 (Operand.tmp 1)), none, false, []⟩, ⟨some 7, (Op.binOp BinOp.eql 9 (Operand.tmp 5) (Operand.tmp 6) 9), none, false, [5, 6]⟩, ⟨some 3, (Op.assign (Operand.tmp 7)), none, false, []⟩])
 (.ret))
theorem c25_ok : Try.f25.body.map (strip (tab.ann 25)) = some c25 := by kernel_rfl
def c26 : XC :=
  .seq (.region [⟨some 1, (Op.box 27 (Operand.tmp 0)), none, false, []⟩, ⟨some 2, (Op.alloc 27), none, false, []⟩])
 (.seq (.region [⟨some 3, (Op.fieldAddr 27 (Operand.tmp 1) 3), none, false, []⟩, ⟨some 4, (Op.load 24 (Operand.tmp 3)), none, false, []⟩, ⟨some 5, (Op.call { callee := (Callee.value (Operand.func 50)), args := #[(Operand.tmp 4)], argTypes := #[24] }), none, true, []⟩, ⟨some 6, (Op.fieldAddr 27 (Operand.tmp 1) 4), none, false, []⟩, ⟨some 7, (Op.load 22 (Operand.tmp 6)), none, false, []⟩, ⟨some 8, (Op.call { callee := (Callee.value (Operand.func 24)), args := #[(Operand.tmp 7)], argTypes := #[22] }), none, true, []⟩, ⟨some 9, (Op.fieldAddr 27 (Operand.tmp 1) 3), none, false, []⟩, ⟨none, (Op.store 24 (Operand.tmp 9) (Operand.tmp 5)), none, false, []⟩, ⟨some 10, (Op.fieldAddr 27 (Operand.tmp 1) 4), none, false, []⟩, ⟨none, (Op.store 22 (Operand.tmp 10) (Operand.tmp 8)), none, false, []⟩])
 (.seq (.region [⟨some 11, (Op.load 27 (Operand.tmp 1)), none, false, []⟩, ⟨none, (Op.store 27 (Operand.tmp 2) (Operand.tmp 11)), none, false, []⟩])
 (.ret)))
theorem c26_ok : Try.f26.body.map (strip (tab.ann 26)) = some c26 := by kernel_rfl
def c27 : XC :=
  .seq (.region [⟨some 4, (Op.assign (Operand.const (Value.bool false))), none, false, []⟩])
 (.seq (.seq (.region [⟨some 6, (Op.move (Operand.tmp 0)), none, false, []⟩, ⟨some 7, (Op.call { callee := (Callee.builtin Builtin.len), args := #[(Operand.tmp 6)], argTypes := #[24] }), none, false, [6]⟩, ⟨some 8, (Op.move (Operand.tmp 1)), none, false, []⟩, ⟨some 9, (Op.call { callee := (Callee.builtin Builtin.len), args := #[(Operand.tmp 8)], argTypes := #[24] }), none, false, [8]⟩, ⟨some 10, (Op.binOp BinOp.neq 3 (Operand.tmp 7) (Operand.tmp 9) 3), none, false, []⟩])
 (.cond 10 (.seq (.region [⟨some 4, (Op.assign (Operand.const (Value.bool false))), none, false, []⟩])
 (.ret)) (.skip)))
 (.seq (.seq (.region [⟨some 5, (Op.assign (Operand.const (Value.int IntKind.i64 0))), none, false, []⟩])
 (.block 0 (.loop (.seq (.seq (.region [⟨some 11, (Op.move (Operand.tmp 5)), none, false, []⟩, ⟨some 12, (Op.move (Operand.tmp 0)), none, false, []⟩, ⟨some 13, (Op.call { callee := (Callee.builtin Builtin.len), args := #[(Operand.tmp 12)], argTypes := #[24] }), none, false, [12]⟩, ⟨some 14, (Op.binOp BinOp.lss 3 (Operand.tmp 11) (Operand.tmp 13) 3), none, false, []⟩])
 (.cond 14 (.skip) (.exit 0)))
 (.seq (.block 1 (.seq (.region [⟨some 17, (Op.move (Operand.tmp 0)), none, false, []⟩, ⟨some 18, (Op.move (Operand.tmp 5)), none, false, []⟩, ⟨some 19, (Op.indexAddr 24 (Operand.tmp 17) (Operand.tmp 18)), none, false, []⟩, ⟨some 20, (Op.load 27 (Operand.tmp 19)), none, false, []⟩, ⟨some 21, (Op.move (Operand.tmp 1)), none, false, []⟩, ⟨some 22, (Op.move (Operand.tmp 5)), none, false, []⟩, ⟨some 23, (Op.indexAddr 24 (Operand.tmp 21) (Operand.tmp 22)), none, false, []⟩, ⟨some 24, (Op.load 27 (Operand.tmp 23)), none, false, []⟩, ⟨some 25, (Op.call { callee := (Callee.value (Operand.func 8)), args := #[(Operand.tmp 20), (Operand.tmp 24)], argTypes := #[27, 27] }), none, true, []⟩, ⟨some 26, (Op.unOp UnOp.not 4 (Operand.tmp 25)), none, false, []⟩])
 (.cond 26 (.seq (.region [⟨some 4, (Op.assign (Operand.const (Value.bool false))), none, false, []⟩])
 (.ret)) (.skip))))
 (.region [⟨some 15, (Op.move (Operand.tmp 5)), none, false, []⟩, ⟨some 16, (Op.binOp BinOp.add 3 (Operand.tmp 15) (Operand.const (Value.int IntKind.i64 1)) 3), none, false, [15]⟩, ⟨some 5, (Op.assign (Operand.tmp 16)), none, false, []⟩]))))))
 (.seq (.region [⟨some 4, (Op.assign (Operand.const (Value.bool true))), none, false, []⟩])
 (.ret))))
theorem c27_ok : Try.f27.body.map (strip (tab.ann 27)) = some c27 := by kernel_rfl
def c28 : XC :=
  .seq (.region [⟨some 4, (Op.assign (Operand.const (Value.bool false))), none, false, []⟩])
 (.seq (.seq (.region [⟨some 6, (Op.move (Operand.tmp 0)), none, false, []⟩, ⟨some 7, (Op.call { callee := (Callee.builtin Builtin.len), args := #[(Operand.tmp 6)], argTypes := #[22] }), none, false, [6]⟩, ⟨some 8, (Op.move (Operand.tmp 1)), none, false, []⟩, ⟨some 9, (Op.call { callee := (Callee.builtin Builtin.len), args := #[(Operand.tmp 8)], argTypes := #[22] }), none, false, [8]⟩, ⟨some 10, (Op.binOp BinOp.neq 3 (Operand.tmp 7) (Operand.tmp 9) 3), none, false, []⟩])
 (.cond 10 (.seq (.region [⟨some 4, (Op.assign (Operand.const (Value.bool false))), none, false, []⟩])
 (.ret)) (.skip)))
 (.seq (.seq (.region [⟨some 5, (Op.assign (Operand.const (Value.int IntKind.i64 0))), none, false, []⟩])
 (.block 0 (.loop (.seq (.seq (.region [⟨some 11, (Op.move (Operand.tmp 5)), none, false, []⟩, ⟨some 12, (Op.move (Operand.tmp 0)), none, false, []⟩, ⟨some 13, (Op.call { callee := (Callee.builtin Builtin.len), args := #[(Operand.tmp 12)], argTypes := #[22] }), none, false, [12]⟩, ⟨some 14, (Op.binOp BinOp.lss 3 (Operand.tmp 11) (Operand.tmp 13) 3), none, false, []⟩])
 (.cond 14 (.skip) (.exit 0)))
 (.seq (.block 1 (.seq (.region [⟨some 17, (Op.move (Operand.tmp 0)), none, false, []⟩, ⟨some 18, (Op.move (Operand.tmp 5)), none, false, []⟩, ⟨some 19, (Op.indexAddr 22 (Operand.tmp 17) (Operand.tmp 18)), none, false, []⟩, ⟨some 20, (Op.load 49 (Operand.tmp 19)), none, false, []⟩, ⟨some 21, (Op.move (Operand.tmp 1)), none, false, []⟩, ⟨some 22, (Op.move (Operand.tmp 5)), none, false, []⟩, ⟨some 23, (Op.indexAddr 22 (Operand.tmp 21) (Operand.tmp 22)), none, false, []⟩, ⟨some 24, (Op.load 49 (Operand.tmp 23)), none, false, []⟩, ⟨some 25, (Op.call { callee := (Callee.value (Operand.func 51)), args := #[(Operand.tmp 20), (Operand.tmp 24)], argTypes := #[49, 49] }), none, true, []⟩, ⟨some 26, (Op.unOp UnOp.not 4 (Operand.tmp 25)), none, false, []⟩])
 (.cond 26 (.seq (.region [⟨some 4, (Op.assign (Operand.const (Value.bool false))), none, false, []⟩])
 (.ret)) (.skip))))
 (.region [⟨some 15, (Op.move (Operand.tmp 5)), none, false, []⟩, ⟨some 16, (Op.binOp BinOp.add 3 (Operand.tmp 15) (Operand.const (Value.int IntKind.i64 1)) 3), none, false, [15]⟩, ⟨some 5, (Op.assign (Operand.tmp 16)), none, false, []⟩]))))))
 (.seq (.region [⟨some 4, (Op.assign (Operand.const (Value.bool true))), none, false, []⟩])
 (.ret))))
theorem c28_ok : Try.f28.body.map (strip (tab.ann 28)) = some c28 := by kernel_rfl
def c29 : XC :=
  .seq (.region [⟨some 2, (Op.box 22 (Operand.tmp 0)), none, false, []⟩, ⟨some 3, (Op.box 9 (Operand.tmp 1)), none, false, []⟩, ⟨some 4, (Op.assign (Operand.const Value.nilFunc)), none, false, []⟩])
 (.seq (.region [⟨some 5, (Op.makeFunc (Fn.func 52) #[] #[(Operand.tmp 2), (Operand.tmp 3)]), none, false, []⟩, ⟨some 4, (Op.assign (Operand.tmp 5)), none, false, []⟩])
 (.ret))
theorem c29_ok : Try.f29.body.map (strip (tab.ann 29)) = some c29 := by kernel_rfl
def c47 : XC :=
  .seq (.region [⟨some 4, (Op.assign (Operand.const (Value.int IntKind.i64 0))), none, false, []⟩])
 (.seq (.seq (.region [⟨some 6, (Op.move (Operand.tmp 0)), none, false, []⟩, ⟨some 7, (Op.call { callee := (Callee.builtin Builtin.len), args := #[(Operand.tmp 6)], argTypes := #[22] }), none, false, [6]⟩, ⟨some 8, (Op.move (Operand.const (Value.int IntKind.i64 0))), none, false, []⟩])
 (.block 0 (.loop (.seq (.region [⟨some 9, (Op.binOp BinOp.lss 3 (Operand.tmp 8) (Operand.tmp 7) 3), none, false, []⟩])
 (.seq (.cond 9 (.skip) (.exit 0))
 (.seq (.block 1 (.seq (.region [⟨some 10, (Op.move (Operand.tmp 8)), none, false, []⟩, ⟨some 5, (Op.assign (Operand.tmp 10)), none, false, []⟩])
 (.seq (.region [⟨some 11, (Op.move (Operand.tmp 1)), none, false, []⟩, ⟨some 12, (Op.move (Operand.tmp 0)), none, false, []⟩, ⟨some 13, (Op.move (Operand.tmp 5)), none, false, []⟩, ⟨some 14, (Op.indexAddr 22 (Operand.tmp 12) (Operand.tmp 13)), none, false, [12, 13]⟩, ⟨some 15, (Op.load 49 (Operand.tmp 14)), none, false, [14]⟩, ⟨some 16, (Op.call { callee := (Callee.value (Operand.tmp 11)), args := #[(Operand.tmp 15)], argTypes := #[49] }), none, false, []⟩])
 (.cond 16 (.seq (.region [⟨some 17, (Op.move (Operand.tmp 5)), none, false, []⟩, ⟨some 4, (Op.assign (Operand.tmp 17)), none, false, []⟩])
 (.ret)) (.skip)))))
 (.region [⟨some 18, (Op.binOp BinOp.add 3 (Operand.tmp 8) (Operand.const (Value.int IntKind.i64 1)) 3), none, false, []⟩, ⟨some 8, (Op.move (Operand.tmp 18)), none, false, []⟩])))))))
 (.seq (.region [⟨some 4, (Op.assign (Operand.const (Value.int IntKind.i64 (-1)))), none, false, []⟩])
 (.ret)))
theorem c47_ok : Try.f47.body.map (strip (tab.ann 47)) = some c47 := by kernel_rfl
def c48 : XC :=
  .seq (.region [⟨some 2, (Op.assign (Operand.const (Value.slice none 0 0))), none, false, []⟩])
 (.seq (.seq (.regionG [⟨some 3, (Op.move (Operand.tmp 0)), none, false, []⟩, ⟨some 4, (Op.binOp BinOp.eql 22 (Operand.tmp 3) (Operand.const (Value.slice none 0 0)) 22), none, false, []⟩])
 (.cond 4 (.seq (.region [⟨some 2, (Op.assign (Operand.const (Value.slice none 0 0))), none, false, []⟩])
 (.ret)) (.skip)))
 (.seq (.regionG [⟨some 5, (Op.buildSlice 22 0 #[]), none, false, []⟩, ⟨some 6, (Op.move (Operand.tmp 0)), none, false, []⟩, ⟨some 7, (Op.call { callee := (Callee.builtin Builtin.append), args := #[(Operand.tmp 5), (Operand.tmp 6)], argTypes := #[22, 22] }), none, false, [5, 6]⟩, ⟨some 2, (Op.assign (Operand.tmp 7)), none, false, []⟩])
 (.ret)))
theorem c48_ok : Try.f48.body.map (strip (tab.ann 48)) = some c48 := by kernel_rfl
def c49 : XC :=
  .seq (.region [⟨some 2, (Op.assign (Operand.const (Value.slice none 0 0))), none, false, []⟩])
 (.seq (.region [⟨some 3, (Op.move (Operand.tmp 0)), none, false, []⟩, ⟨some 4, (Op.move (Operand.tmp 0)), none, false, []⟩, ⟨some 5, (Op.call { callee := (Callee.builtin Builtin.len), args := #[(Operand.tmp 4)], argTypes := #[22] }), none, false, [4]⟩, ⟨some 6, (Op.move (Operand.tmp 0)), none, false, []⟩, ⟨some 7, (Op.call { callee := (Callee.builtin Builtin.len), args := #[(Operand.tmp 6)], argTypes := #[22] }), none, false, [6]⟩, ⟨some 8, (Op.slice 22 (Operand.tmp 3) none (some (Operand.tmp 5)) (some (Operand.tmp 7))), none, false, [3, 5, 7]⟩, ⟨some 2, (Op.assign (Operand.tmp 8)), none, false, []⟩])
 (.ret))
theorem c49_ok : Try.f49.body.map (strip (tab.ann 49)) = some c49 := by kernel_rfl
def c50 : XC :=
  .seq (.region [⟨some 2, (Op.assign (Operand.const (Value.slice none 0 0))), none, false, []⟩])
 (.seq (.region [⟨some 5, (Op.move (Operand.tmp 0)), none, false, []⟩, ⟨some 6, (Op.call { callee := (Callee.value (Operand.func 69)), args := #[(Operand.tmp 5)], argTypes := #[24] }), none, false, [5]⟩, ⟨some 3, (Op.assign (Operand.tmp 6)), none, false, []⟩])
 (.seq (.seq (.region [⟨some 7, (Op.move (Operand.tmp 3)), none, false, []⟩, ⟨some 8, (Op.call { callee := (Callee.builtin Builtin.len), args := #[(Operand.tmp 7)], argTypes := #[24] }), none, false, [7]⟩, ⟨some 9, (Op.move (Operand.const (Value.int IntKind.i64 0))), none, false, []⟩])
 (.block 0 (.loop (.seq (.region [⟨some 10, (Op.binOp BinOp.lss 3 (Operand.tmp 9) (Operand.tmp 8) 3), none, false, []⟩])
 (.seq (.cond 10 (.skip) (.exit 0))
 (.seq (.block 1 (.seq (.region [⟨some 11, (Op.move (Operand.tmp 9)), none, false, []⟩, ⟨some 4, (Op.assign (Operand.tmp 11)), none, false, []⟩])
 (.region [⟨some 12, (Op.move (Operand.tmp 3)), none, false, []⟩, ⟨some 13, (Op.move (Operand.tmp 4)), none, false, []⟩, ⟨some 14, (Op.move (Operand.tmp 3)), none, false, []⟩, ⟨some 15, (Op.move (Operand.tmp 4)), none, false, []⟩, ⟨some 16, (Op.indexAddr 24 (Operand.tmp 14) (Operand.tmp 15)), none, false, [14, 15]⟩, ⟨some 17, (Op.load 27 (Operand.tmp 16)), none, false, [16]⟩, ⟨some 18, (Op.call { callee := (Callee.value (Operand.func 26)), args := #[(Operand.tmp 17)], argTypes := #[27] }), none, false, [17]⟩, ⟨some 19, (Op.indexAddr 24 (Operand.tmp 12) (Operand.tmp 13)), none, false, [12, 13]⟩, ⟨none, (Op.store 27 (Operand.tmp 19) (Operand.tmp 18)), none, false, []⟩])))
 (.region [⟨some 20, (Op.binOp BinOp.add 3 (Operand.tmp 9) (Operand.const (Value.int IntKind.i64 1)) 3), none, false, []⟩, ⟨some 9, (Op.move (Operand.tmp 20)), none, false, []⟩])))))))
 (.seq (.region [⟨some 21, (Op.move (Operand.tmp 3)), none, false, []⟩, ⟨some 22, (Op.call { callee := (Callee.value (Operand.func 70)), args := #[(Operand.tmp 21)], argTypes := #[24] }), none, false, [21]⟩, ⟨some 2, (Op.assign (Operand.tmp 22)), none, false, []⟩])
 (.ret))))
theorem c50_ok : Try.f50.body.map (strip (tab.ann 50)) = some c50 := by kernel_rfl
def c51 : XC :=
  .seq (.region [⟨some 2, (Op.box 49 (Operand.tmp 0)), none, false, []⟩, ⟨some 3, (Op.box 49 (Operand.tmp 1)), none, false, []⟩, ⟨some 4, (Op.assign (Operand.const (Value.bool false))), none, false, []⟩])
 (.seq (.regionG [⟨some 5, (Op.fieldAddr 49 (Operand.tmp 2) 0), none, false, []⟩, ⟨some 6, (Op.load 9 (Operand.tmp 5)), none, false, [5]⟩, ⟨some 7, (Op.fieldAddr 49 (Operand.tmp 3) 0), none, false, []⟩, ⟨some 8, (Op.load 9 (Operand.tmp 7)), none, false, [7]⟩, ⟨some 9, (Op.binOp BinOp.eql 9 (Operand.tmp 6) (Operand.tmp 8) 9), none, false, [6, 8]⟩, ⟨some 10, (Op.move (Operand.tmp 9)), none, false, [9]⟩, ⟨some 11, (Op.fieldAddr 49 (Operand.tmp 2) 1), (some (10, true)), false, []⟩, ⟨some 12, (Op.load 27 (Operand.tmp 11)), (some (10, true)), false, [11]⟩, ⟨some 13, (Op.fieldAddr 49 (Operand.tmp 3) 1), (some (10, true)), false, []⟩, ⟨some 14, (Op.load 27 (Operand.tmp 13)), (some (10, true)), false, [13]⟩, ⟨some 15, (Op.call { callee := (Callee.value (Operand.func 8)), args := #[(Operand.tmp 12), (Operand.tmp 14)], argTypes := #[27, 27] }), (some (10, true)), false, [12, 14]⟩, ⟨some 16, (Op.pick (Operand.tmp 10) (Operand.tmp 15) (Operand.const (Value.bool false))), none, false, [10, 15]⟩, ⟨some 4, (Op.assign (Operand.tmp 16)), none, false, []⟩])
 (.ret))
theorem c51_ok : Try.f51.body.map (strip (tab.ann 51)) = some c51 := by kernel_rfl
def cs118a : XC :=
  .region [⟨some 5, (Op.alloc 49), none, false, []⟩, ⟨none, (Op.store 49 (Operand.tmp 5) (Operand.tmp 9)), none, false, []⟩]
def cs118b : XC :=
  .block 1 (.seq (.regionG [⟨some 10, (Op.fieldAddr 49 (Operand.tmp 5) 0), none, false, []⟩, ⟨some 11, (Op.load 9 (Operand.tmp 10)), none, false, [10]⟩, ⟨some 12, (Op.load 9 (Operand.tmp 2)), none, false, []⟩, ⟨some 13, (Op.binOp BinOp.eql 9 (Operand.tmp 11) (Operand.tmp 12) 9), none, false, [11, 12]⟩, ⟨some 14, (Op.move (Operand.tmp 13)), none, false, [13]⟩, ⟨some 15, (Op.load 66 (Operand.tmp 3)), (some (14, true)), false, []⟩, ⟨some 16, (Op.fieldAddr 49 (Operand.tmp 5) 1), (some (14, true)), false, []⟩, ⟨some 17, (Op.load 27 (Operand.tmp 16)), (some (14, true)), false, [16]⟩, ⟨some 18, (Op.call { callee := (Callee.value (Operand.tmp 15)), args := #[(Operand.tmp 17)], argTypes := #[27] }), (some (14, true)), false, [15, 17]⟩, ⟨some 19, (Op.unOp UnOp.not 4 (Operand.tmp 18)), (some (14, true)), false, [18]⟩, ⟨some 20, (Op.pick (Operand.tmp 14) (Operand.tmp 19) (Operand.const (Value.bool false))), none, false, []⟩])
 (.cond 20 (.ret) (.skip)))
theorem cs118_ok : (Sites.site 118).map (fun q => (q.own, q.ps, strip (tab.ann q.own) q.asg, strip (tab.ann q.own) q.body)) = some (52, [8, 9], cs118a, cs118b) := by kernel_rfl
def c52 : XC :=
  .seq (.region [⟨some 3, (Op.box 66 (Operand.tmp 0)), none, false, []⟩])
 (.seq (.region [⟨some 6, (Op.load 22 (Operand.tmp 1)), none, false, []⟩, ⟨some 7, (Op.call { callee := (Callee.value (Operand.func 53)), args := #[(Operand.tmp 6)], argTypes := #[22] }), none, false, []⟩])
 (.block 0 (.rng 7)))
theorem c52_ok : Try.f52.body.map (strip (tab.ann 52)) = some c52 := by kernel_rfl
def c53 : XC :=
  .seq (.region [⟨some 1, (Op.box 22 (Operand.tmp 0)), none, false, []⟩, ⟨some 2, (Op.assign (Operand.const Value.nilFunc)), none, false, []⟩])
 (.seq (.region [⟨some 3, (Op.makeFunc (Fn.func 71) #[] #[(Operand.tmp 1)]), none, false, []⟩, ⟨some 2, (Op.assign (Operand.tmp 3)), none, false, []⟩])
 (.ret))
theorem c53_ok : Try.f53.body.map (strip (tab.ann 53)) = some c53 := by kernel_rfl
def c69 : XC :=
  .seq (.region [⟨some 2, (Op.assign (Operand.const (Value.slice none 0 0))), none, false, []⟩])
 (.seq (.seq (.regionG [⟨some 3, (Op.move (Operand.tmp 0)), none, false, []⟩, ⟨some 4, (Op.binOp BinOp.eql 24 (Operand.tmp 3) (Operand.const (Value.slice none 0 0)) 24), none, false, []⟩])
 (.cond 4 (.seq (.region [⟨some 2, (Op.assign (Operand.const (Value.slice none 0 0))), none, false, []⟩])
 (.ret)) (.skip)))
 (.seq (.regionG [⟨some 5, (Op.buildSlice 24 0 #[]), none, false, []⟩, ⟨some 6, (Op.move (Operand.tmp 0)), none, false, []⟩, ⟨some 7, (Op.call { callee := (Callee.builtin Builtin.append), args := #[(Operand.tmp 5), (Operand.tmp 6)], argTypes := #[24, 24] }), none, false, [5, 6]⟩, ⟨some 2, (Op.assign (Operand.tmp 7)), none, false, []⟩])
 (.ret)))
theorem c69_ok : Try.f69.body.map (strip (tab.ann 69)) = some c69 := by kernel_rfl
def c70 : XC :=
  .seq (.region [⟨some 2, (Op.assign (Operand.const (Value.slice none 0 0))), none, false, []⟩])
 (.seq (.region [⟨some 3, (Op.move (Operand.tmp 0)), none, false, []⟩, ⟨some 4, (Op.move (Operand.tmp 0)), none, false, []⟩, ⟨some 5, (Op.call { callee := (Callee.builtin Builtin.len), args := #[(Operand.tmp 4)], argTypes := #[24] }), none, false, [4]⟩, ⟨some 6, (Op.move (Operand.tmp 0)), none, false, []⟩, ⟨some 7, (Op.call { callee := (Callee.builtin Builtin.len), args := #[(Operand.tmp 6)], argTypes := #[24] }), none, false, [6]⟩, ⟨some 8, (Op.slice 24 (Operand.tmp 3) none (some (Operand.tmp 5)) (some (Operand.tmp 7))), none, false, [3, 5, 7]⟩, ⟨some 2, (Op.assign (Operand.tmp 8)), none, false, []⟩])
 (.ret))
theorem c70_ok : Try.f70.body.map (strip (tab.ann 70)) = some c70 := by kernel_rfl
def c71 : XC :=
  .seq (.region [⟨some 4, (Op.load 22 (Operand.tmp 1)), none, false, []⟩, ⟨some 5, (Op.call { callee := (Callee.builtin Builtin.len), args := #[(Operand.tmp 4)], argTypes := #[22] }), none, false, [4]⟩, ⟨some 6, (Op.binOp BinOp.sub 3 (Operand.tmp 5) (Operand.const (Value.int IntKind.i64 1)) 3), none, false, [5]⟩, ⟨some 3, (Op.assign (Operand.tmp 6)), none, false, []⟩])
 (.block 0 (.loop (.seq (.seq (.region [⟨some 7, (Op.move (Operand.tmp 3)), none, false, []⟩, ⟨some 8, (Op.binOp BinOp.geq 3 (Operand.tmp 7) (Operand.const (Value.int IntKind.i64 0)) 3), none, false, []⟩])
 (.cond 8 (.skip) (.exit 0)))
 (.seq (.block 1 (.seq (.region [⟨some 11, (Op.move (Operand.tmp 0)), none, false, []⟩, ⟨some 12, (Op.move (Operand.tmp 3)), none, false, []⟩, ⟨some 13, (Op.load 22 (Operand.tmp 1)), none, false, []⟩, ⟨some 14, (Op.move (Operand.tmp 3)), none, false, []⟩, ⟨some 15, (Op.indexAddr 22 (Operand.tmp 13) (Operand.tmp 14)), none, false, [13, 14]⟩, ⟨some 16, (Op.load 49 (Operand.tmp 15)), none, false, [15]⟩, ⟨some 17, (Op.call { callee := (Callee.value (Operand.tmp 11)), args := #[(Operand.tmp 12), (Operand.tmp 16)], argTypes := #[3, 49] }), none, false, [11, 12, 16]⟩, ⟨some 18, (Op.unOp UnOp.not 4 (Operand.tmp 17)), none, false, []⟩])
 (.cond 18 (.ret) (.skip))))
 (.region [⟨some 9, (Op.move (Operand.tmp 3)), none, false, []⟩, ⟨some 10, (Op.binOp BinOp.sub 3 (Operand.tmp 9) (Operand.const (Value.int IntKind.i64 1)) 3), none, false, [9]⟩, ⟨some 3, (Op.assign (Operand.tmp 10)), none, false, []⟩])))))
theorem c71_ok : Try.f71.body.map (strip (tab.ann 71)) = some c71 := by kernel_rfl
end Go.Proofs.Ytipkggkbldgmjaa
