/- Calls without arguments, worked out. -/
import Derived.Test.YtipkggkbldgmjaaXTabWG
import Derived.Test.YtipkggkbldgmjaaXEval
import Derived.ProofKit
namespace Go.Proofs.Ytipkggkbldgmjaa
open Go Go.X
set_option linter.unusedVariables false
set_option linter.unusedSimpArgs false
set_option maxRecDepth 100000
def tabAnn0 (t : Nat) : Ann := (bif Nat.blt t 47 then (bif Nat.blt t 24 then (bif Nat.blt t 10 then (bif Nat.beq t 7 then { keep := [0, 1, 2, 4, 5, 6, 7], dead := fun s => (bif Nat.beq s 9 then [8] else bif Nat.beq s 11 then [9, 10] else []), hold := fun s => bif Nat.beq s 11 then [0] else [] } else bif Nat.beq t 9 then { keep := [0, 1, 4, 5, 8, 9], dead := fun s => (bif Nat.beq s 11 then [10] else []), site := fun s => bif Nat.beq s 8 then 117 else 0, cap := fun s => bif Nat.beq s 8 then [4, 5] else [] } else { keep := [] }) else (bif Nat.beq t 10 then { keep := [0, 1], dead := fun s => (bif Nat.blt s 17 then (bif Nat.blt s 11 then (bif Nat.blt s 7 then (bif Nat.beq s 3 then [2] else bif Nat.beq s 5 then [3, 4] else []) else (bif Nat.blt s 9 then (bif Nat.beq s 7 then [5, 6] else []) else (bif Nat.beq s 9 then [8] else bif Nat.beq s 10 then [9] else []))) else (bif Nat.blt s 14 then (bif Nat.beq s 11 then [10] else bif Nat.beq s 13 then [12] else []) else (bif Nat.blt s 15 then (bif Nat.beq s 14 then [13] else []) else (bif Nat.beq s 15 then [14] else bif Nat.beq s 16 then [15] else [])))) else (bif Nat.blt s 23 then (bif Nat.blt s 20 then (bif Nat.beq s 17 then [11, 16] else bif Nat.beq s 18 then [17] else []) else (bif Nat.blt s 21 then (bif Nat.beq s 20 then [19] else []) else (bif Nat.beq s 21 then [20] else bif Nat.beq s 22 then [21] else []))) else (bif Nat.blt s 27 then (bif Nat.blt s 24 then (bif Nat.beq s 23 then [18, 22] else []) else (bif Nat.beq s 24 then [23] else bif Nat.beq s 26 then [25] else [])) else (bif Nat.blt s 28 then (bif Nat.beq s 27 then [26] else []) else (bif Nat.beq s 28 then [27] else bif Nat.beq s 29 then [24, 28] else []))))) } else bif Nat.beq t 23 then { keep := [0, 1, 4, 5, 6, 7, 12, 19, 29], dead := fun s => (bif Nat.blt s 25 then (bif Nat.blt s 18 then (bif Nat.beq s 10 then [8, 9] else bif Nat.beq s 15 then [14] else []) else (bif Nat.blt s 21 then (bif Nat.beq s 18 then [17] else []) else (bif Nat.beq s 21 then [20] else bif Nat.beq s 24 then [22, 23] else []))) else (bif Nat.blt s 35 then (bif Nat.blt s 28 then (bif Nat.beq s 25 then [24] else []) else (bif Nat.beq s 28 then [26, 27] else bif Nat.beq s 33 then [30, 31] else [])) else (bif Nat.blt s 38 then (bif Nat.beq s 35 then [34] else []) else (bif Nat.beq s 38 then [36, 37] else bif Nat.beq s 41 then [39, 40] else [])))), own := fun s => bif Nat.beq s 4 then some 22 else bif Nat.beq s 38 then some 22 else bif Nat.beq s 41 then some 22 else none, mt := fun s => bif Nat.beq s 4 then true else bif Nat.beq s 38 then true else bif Nat.beq s 41 then true else false, give := true, take := [0], hold := fun s => bif Nat.beq s 10 then [0] else [] } else { keep := [] })) else (bif Nat.blt t 26 then (bif Nat.beq t 24 then { keep := [0, 2, 3, 4, 8, 9, 10], dead := fun s => (bif Nat.blt s 18 then (bif Nat.blt s 16 then (bif Nat.beq s 6 then [5] else bif Nat.beq s 8 then [7] else []) else (bif Nat.beq s 16 then [14, 15] else bif Nat.beq s 17 then [16] else [])) else (bif Nat.blt s 20 then (bif Nat.beq s 18 then [17] else bif Nat.beq s 19 then [18] else []) else (bif Nat.blt s 21 then (bif Nat.beq s 20 then [12, 13] else []) else (bif Nat.beq s 21 then [20] else bif Nat.beq s 24 then [23] else [])))), own := fun s => bif Nat.beq s 2 then some 22 else none, mt := fun s => bif Nat.beq s 2 then true else false, give := true, hold := fun s => bif Nat.beq s 24 then [0] else [] } else bif Nat.beq t 25 then { keep := [0, 1, 2, 3], dead := fun s => (bif Nat.beq s 5 then [4] else bif Nat.beq s 7 then [5, 6] else []) } else { keep := [] }) else (bif Nat.beq t 26 then { keep := [0, 1, 2], cold := fun s => bif Nat.beq s 8 then true else false, wipe := fun s => bif Nat.beq s 8 then true else false } else bif Nat.beq t 29 then { keep := [0, 1, 2, 3, 4], cold := fun s => bif Nat.beq s 2 then true else bif Nat.beq s 3 then true else false } else { keep := [] }))) else (bif Nat.blt t 52 then (bif Nat.blt t 49 then (bif Nat.beq t 47 then { keep := [0, 1, 4, 5, 7, 8, 9, 16], dead := fun s => (bif Nat.blt s 14 then (bif Nat.beq s 7 then [6] else []) else (bif Nat.beq s 14 then [12, 13] else bif Nat.beq s 15 then [14] else [])) } else bif Nat.beq t 48 then { keep := [0, 2, 4], dead := fun s => (bif Nat.beq s 7 then [5, 6] else []), own := fun s => bif Nat.beq s 2 then some 22 else bif Nat.beq s 7 then some 22 else none, mt := fun s => bif Nat.beq s 2 then true else bif Nat.beq s 7 then true else false, give := true } else { keep := [] }) else (bif Nat.beq t 49 then { keep := [0, 2], dead := fun s => (bif Nat.blt s 7 then (bif Nat.beq s 5 then [4] else []) else (bif Nat.beq s 7 then [6] else bif Nat.beq s 8 then [3, 5, 7] else [])), own := fun s => bif Nat.beq s 2 then some 22 else bif Nat.beq s 8 then some 22 else none, mt := fun s => bif Nat.beq s 2 then true else bif Nat.beq s 8 then true else false, give := true, take := [0] } else bif Nat.beq t 50 then { keep := [0, 2, 3, 4, 8, 9, 10], dead := fun s => (bif Nat.blt s 17 then (bif Nat.blt s 8 then (bif Nat.beq s 6 then [5] else []) else (bif Nat.beq s 8 then [7] else bif Nat.beq s 16 then [14, 15] else [])) else (bif Nat.blt s 19 then (bif Nat.beq s 17 then [16] else bif Nat.beq s 18 then [17] else []) else (bif Nat.beq s 19 then [12, 13] else bif Nat.beq s 22 then [21] else []))) } else { keep := [] })) else (bif Nat.blt t 69 then (bif Nat.beq t 52 then { keep := [0, 1, 2, 3, 5, 7, 8, 9, 20], dead := fun s => (bif Nat.blt s 17 then (bif Nat.blt s 13 then (bif Nat.beq s 11 then [10] else []) else (bif Nat.beq s 13 then [11, 12] else bif Nat.beq s 14 then [13] else [])) else (bif Nat.blt s 18 then (bif Nat.beq s 17 then [16] else []) else (bif Nat.beq s 18 then [15, 17] else bif Nat.beq s 19 then [18] else []))), site := fun s => bif Nat.beq s 7 then 118 else 0, cap := fun s => bif Nat.beq s 7 then [2, 3, 5, 20] else [] } else bif Nat.beq t 53 then { keep := [0, 1, 2], cold := fun s => bif Nat.beq s 1 then true else false } else { keep := [] }) else (bif Nat.blt t 70 then (bif Nat.beq t 69 then { keep := [0, 2, 4], dead := fun s => (bif Nat.beq s 7 then [5, 6] else []), own := fun s => bif Nat.beq s 2 then some 24 else bif Nat.beq s 7 then some 24 else none, mt := fun s => bif Nat.beq s 2 then true else bif Nat.beq s 7 then true else false, give := true } else { keep := [] }) else (bif Nat.beq t 70 then { keep := [0, 2], dead := fun s => (bif Nat.blt s 7 then (bif Nat.beq s 5 then [4] else []) else (bif Nat.beq s 7 then [6] else bif Nat.beq s 8 then [3, 5, 7] else [])) } else bif Nat.beq t 71 then { keep := [0, 1, 3, 8, 18], dead := fun s => (bif Nat.blt s 15 then (bif Nat.blt s 6 then (bif Nat.beq s 5 then [4] else []) else (bif Nat.beq s 6 then [5] else bif Nat.beq s 10 then [9] else [])) else (bif Nat.blt s 16 then (bif Nat.beq s 15 then [13, 14] else []) else (bif Nat.beq s 16 then [15] else bif Nat.beq s 17 then [11, 12, 16] else []))) } else { keep := [] })))))
def tab0 : Tab := { ty := tabTy, zero := tabZero, ann := tabAnn0, eqs := tabEqs }
theorem tab0_is_ok : TabOK Try.prog tab0 := ⟨tab_is_ok.ty, tab_is_ok.zero, tab_is_ok.eq, tab_is_ok.unit⟩
def k7 : XC :=
  .seq (.region [⟨some 4, (Op.box 9 (Operand.tmp 1)), none, false, []⟩, ⟨some 5, (Op.box 27 (Operand.tmp 2)), none, false, []⟩, ⟨some 6, (Op.assign (Operand.const (Value.slice none 0 0))), none, false, []⟩])
 (.seq (.region [⟨some 8, (Op.move (Operand.tmp 0)), none, false, []⟩, ⟨some 9, (Op.call { callee := (Callee.value (Operand.func 24)), args := #[(Operand.tmp 8)], argTypes := #[22] }), none, false, [8]⟩, ⟨some 10, (Op.makeFunc (Fn.func 25) #[] #[(Operand.tmp 4)]), none, false, []⟩, ⟨some 11, (Op.call { callee := (Callee.value (Operand.func 23)), args := #[(Operand.tmp 9), (Operand.tmp 10)], argTypes := #[22, 51] }), none, false, [9, 10]⟩, ⟨some 7, (Op.assign (Operand.tmp 11)), none, false, []⟩])
 (.seq (.regionG [⟨some 12, (Op.move (Operand.tmp 7)), none, false, []⟩, ⟨some 13, (Op.load 9 (Operand.tmp 4)), none, false, []⟩, ⟨some 14, (Op.load 27 (Operand.tmp 5)), none, false, []⟩, ⟨some 15, (Op.call { callee := (Callee.value (Operand.func 26)), args := #[(Operand.tmp 14)], argTypes := #[27] }), none, true, []⟩, ⟨some 16, (Op.build 49 #[(0, (Operand.tmp 13)), (1, (Operand.tmp 15))]), none, true, []⟩, ⟨some 17, (Op.buildSlice 22 1 #[(0, (Operand.tmp 16))]), none, true, []⟩, ⟨some 18, (Op.call { callee := (Callee.builtin Builtin.append), args := #[(Operand.tmp 12), (Operand.tmp 17)], argTypes := #[22, 22] }), none, false, []⟩, ⟨some 6, (Op.assign (Operand.tmp 18)), none, false, []⟩])
 (.ret)))
theorem k7_ok : Try.f7.body.map (strip (tab0.ann 7)) = some k7 := by kernel_rfl
def ks117a : XC :=
  .region [⟨some 5, (Op.alloc 27), none, false, []⟩, ⟨none, (Op.store 27 (Operand.tmp 5) (Operand.tmp 9)), none, false, []⟩]
def ks117b : XC :=
  .block 1 (.seq (.region [⟨some 10, (Op.load 27 (Operand.tmp 5)), none, false, []⟩, ⟨some 11, (Op.call { callee := (Callee.value (Operand.func 26)), args := #[(Operand.tmp 10)], argTypes := #[27] }), none, false, [10]⟩, ⟨none, (Op.store 27 (Operand.tmp 4) (Operand.tmp 11)), none, false, []⟩])
 (.ret))
theorem ks117_ok : (Sites.site 117).map (fun q => (q.own, q.ps, strip (tab0.ann q.own) q.asg, strip (tab0.ann q.own) q.body)) = some (9, [9], ks117a, ks117b) := by kernel_rfl
def k9 : XC :=
  .seq (.region [⟨some 4, (Op.alloc 27), none, false, []⟩])
 (.seq (.seq (.region [⟨some 6, (Op.move (Operand.tmp 0)), none, false, []⟩, ⟨some 7, (Op.move (Operand.tmp 1)), none, false, []⟩, ⟨some 8, (Op.call { callee := (Callee.value (Operand.func 29)), args := #[(Operand.tmp 6), (Operand.tmp 7)], argTypes := #[22, 9] }), none, false, []⟩])
 (.block 0 (.rng 8)))
 (.seq (.region [⟨some 12, (Op.build 27 #[]), none, false, []⟩, ⟨none, (Op.store 27 (Operand.tmp 4) (Operand.tmp 12)), none, false, []⟩])
 (.ret)))
theorem k9_ok : Try.f9.body.map (strip (tab0.ann 9)) = some k9 := by kernel_rfl
def k10 : XC :=
  .seq (.region [⟨some 0, (Op.assign (Operand.const (Value.bool false))), none, false, []⟩])
 (.seq (.region [⟨some 2, (Op.build 27 #[(0, (Operand.const (Value.int IntKind.u8 1))), (1, (Operand.const (Value.int IntKind.i64 1)))]), none, false, []⟩, ⟨some 3, (Op.build 49 #[(0, (Operand.const (Value.string { data := #[97] }))), (1, (Operand.tmp 2))]), none, false, [2]⟩, ⟨some 4, (Op.build 49 #[(0, (Operand.const (Value.string { data := #[98] })))]), none, false, []⟩, ⟨some 5, (Op.buildSlice 22 2 #[(0, (Operand.tmp 3)), (1, (Operand.tmp 4))]), none, false, [3, 4]⟩, ⟨some 6, (Op.build 27 #[(0, (Operand.const (Value.int IntKind.u8 1))), (1, (Operand.const (Value.int IntKind.i64 3)))]), none, false, []⟩, ⟨some 7, (Op.call { callee := (Callee.value (Operand.func 7)), args := #[(Operand.tmp 5), (Operand.const (Value.string { data := #[97] })), (Operand.tmp 6)], argTypes := #[22, 9, 27] }), none, false, [5, 6]⟩, ⟨some 1, (Op.assign (Operand.tmp 7)), none, false, []⟩])
 (.seq (.regionG [⟨some 8, (Op.move (Operand.tmp 1)), none, false, []⟩, ⟨some 9, (Op.call { callee := (Callee.builtin Builtin.len), args := #[(Operand.tmp 8)], argTypes := #[22] }), none, false, [8]⟩, ⟨some 10, (Op.binOp BinOp.eql 3 (Operand.tmp 9) (Operand.const (Value.int IntKind.i64 2)) 3), none, false, [9]⟩, ⟨some 11, (Op.move (Operand.tmp 10)), none, false, [10]⟩, ⟨some 12, (Op.move (Operand.tmp 1)), (some (11, true)), false, []⟩, ⟨some 13, (Op.indexAddr 22 (Operand.tmp 12) (Operand.const (Value.int IntKind.i64 0))), (some (11, true)), false, [12]⟩, ⟨some 14, (Op.fieldAddr 49 (Operand.tmp 13) 0), (some (11, true)), false, [13]⟩, ⟨some 15, (Op.load 9 (Operand.tmp 14)), (some (11, true)), false, [14]⟩, ⟨some 16, (Op.binOp BinOp.eql 9 (Operand.tmp 15) (Operand.const (Value.string { data := #[98] })) 9), (some (11, true)), false, [15]⟩, ⟨some 17, (Op.pick (Operand.tmp 11) (Operand.tmp 16) (Operand.const (Value.bool false))), none, false, [11, 16]⟩, ⟨some 18, (Op.move (Operand.tmp 17)), none, false, [17]⟩, ⟨some 19, (Op.move (Operand.tmp 1)), (some (18, true)), false, []⟩, ⟨some 20, (Op.call { callee := (Callee.value (Operand.func 9)), args := #[(Operand.tmp 19), (Operand.const (Value.string { data := #[97] }))], argTypes := #[22, 9] }), (some (18, true)), false, [19]⟩, ⟨some 21, (Op.field 27 (Operand.tmp 20) 1), (some (18, true)), false, [20]⟩, ⟨some 22, (Op.binOp BinOp.eql 2 (Operand.tmp 21) (Operand.const (Value.int IntKind.i64 3)) 2), (some (18, true)), false, [21]⟩, ⟨some 23, (Op.pick (Operand.tmp 18) (Operand.tmp 22) (Operand.const (Value.bool false))), none, false, [18, 22]⟩, ⟨some 24, (Op.move (Operand.tmp 23)), none, false, [23]⟩, ⟨some 25, (Op.move (Operand.tmp 1)), (some (24, true)), false, []⟩, ⟨some 26, (Op.call { callee := (Callee.value (Operand.func 9)), args := #[(Operand.tmp 25), (Operand.const (Value.string { data := #[99] }))], argTypes := #[22, 9] }), (some (24, true)), false, [25]⟩, ⟨some 27, (Op.field 27 (Operand.tmp 26) 0), (some (24, true)), false, [26]⟩, ⟨some 28, (Op.binOp BinOp.eql 23 (Operand.tmp 27) (Operand.const (Value.int IntKind.u8 0)) 23), (some (24, true)), false, [27]⟩, ⟨some 29, (Op.pick (Operand.tmp 24) (Operand.tmp 28) (Operand.const (Value.bool false))), none, false, [24, 28]⟩, ⟨some 0, (Op.assign (Operand.tmp 29)), none, false, []⟩])
 (.ret)))
theorem k10_ok : Try.f10.body.map (strip (tab0.ann 10)) = some k10 := by kernel_rfl
def k23 : XC :=
  .seq (.region [⟨some 4, (Op.assign (Operand.const (Value.slice none 0 0))), none, false, []⟩])
 (.seq (.region [⟨some 8, (Op.move (Operand.tmp 0)), none, false, []⟩, ⟨some 9, (Op.move (Operand.tmp 1)), none, false, []⟩, ⟨some 10, (Op.call { callee := (Callee.value (Operand.func 47)), args := #[(Operand.tmp 8), (Operand.tmp 9)], argTypes := #[22, 51] }), none, false, [8, 9]⟩, ⟨some 5, (Op.assign (Operand.tmp 10)), none, false, []⟩])
 (.seq (.seq (.region [⟨some 11, (Op.move (Operand.tmp 5)), none, false, []⟩, ⟨some 12, (Op.binOp BinOp.eql 3 (Operand.tmp 11) (Operand.const (Value.int IntKind.i64 (-1))) 3), none, false, []⟩])
 (.cond 12 (.seq (.region [⟨some 13, (Op.move (Operand.tmp 0)), none, false, []⟩, ⟨some 4, (Op.assign (Operand.tmp 13)), none, false, []⟩])
 (.ret)) (.skip)))
 (.seq (.seq (.region [⟨some 14, (Op.move (Operand.tmp 5)), none, false, []⟩, ⟨some 15, (Op.binOp BinOp.add 3 (Operand.tmp 14) (Operand.const (Value.int IntKind.i64 1)) 3), none, false, [14]⟩, ⟨some 6, (Op.assign (Operand.tmp 15)), none, false, []⟩])
 (.block 0 (.loop (.seq (.seq (.region [⟨some 16, (Op.move (Operand.tmp 6)), none, false, []⟩, ⟨some 17, (Op.move (Operand.tmp 0)), none, false, []⟩, ⟨some 18, (Op.call { callee := (Callee.builtin Builtin.len), args := #[(Operand.tmp 17)], argTypes := #[22] }), none, false, [17]⟩, ⟨some 19, (Op.binOp BinOp.lss 3 (Operand.tmp 16) (Operand.tmp 18) 3), none, false, []⟩])
 (.cond 19 (.skip) (.exit 0)))
 (.seq (.block 1 (.seq (.region [⟨some 22, (Op.move (Operand.tmp 0)), none, false, []⟩, ⟨some 23, (Op.move (Operand.tmp 6)), none, false, []⟩, ⟨some 24, (Op.indexAddr 22 (Operand.tmp 22) (Operand.tmp 23)), none, false, [22, 23]⟩, ⟨some 25, (Op.load 49 (Operand.tmp 24)), none, false, [24]⟩, ⟨some 7, (Op.alloc 49), none, false, []⟩, ⟨none, (Op.store 49 (Operand.tmp 7) (Operand.tmp 25)), none, false, []⟩])
 (.seq (.region [⟨some 26, (Op.move (Operand.tmp 1)), none, false, []⟩, ⟨some 27, (Op.load 49 (Operand.tmp 7)), none, false, []⟩, ⟨some 28, (Op.call { callee := (Callee.value (Operand.tmp 26)), args := #[(Operand.tmp 27)], argTypes := #[49] }), none, false, [26, 27]⟩, ⟨some 29, (Op.unOp UnOp.not 4 (Operand.tmp 28)), none, false, []⟩])
 (.cond 29 (.seq (.region [⟨some 30, (Op.move (Operand.tmp 0)), none, false, []⟩, ⟨some 31, (Op.move (Operand.tmp 5)), none, false, []⟩, ⟨some 32, (Op.load 49 (Operand.tmp 7)), none, false, []⟩, ⟨some 33, (Op.indexAddr 22 (Operand.tmp 30) (Operand.tmp 31)), none, false, [30, 31]⟩, ⟨none, (Op.store 49 (Operand.tmp 33) (Operand.tmp 32)), none, false, []⟩])
 (.region [⟨some 34, (Op.move (Operand.tmp 5)), none, false, []⟩, ⟨some 35, (Op.binOp BinOp.add 3 (Operand.tmp 34) (Operand.const (Value.int IntKind.i64 1)) 3), none, false, [34]⟩, ⟨some 5, (Op.assign (Operand.tmp 35)), none, false, []⟩])) (.skip)))))
 (.region [⟨some 20, (Op.move (Operand.tmp 6)), none, false, []⟩, ⟨some 21, (Op.binOp BinOp.add 3 (Operand.tmp 20) (Operand.const (Value.int IntKind.i64 1)) 3), none, false, [20]⟩, ⟨some 6, (Op.assign (Operand.tmp 21)), none, false, []⟩]))))))
 (.seq (.region [⟨some 36, (Op.move (Operand.tmp 0)), none, false, []⟩, ⟨some 37, (Op.move (Operand.tmp 5)), none, false, []⟩, ⟨some 38, (Op.slice 22 (Operand.tmp 36) (some (Operand.tmp 37)) none none), none, false, [36, 37]⟩, ⟨none, (Op.call { callee := (Callee.builtin Builtin.clear), args := #[(Operand.tmp 38)], argTypes := #[22] }), none, false, []⟩])
 (.seq (.region [⟨some 39, (Op.move (Operand.tmp 0)), none, false, []⟩, ⟨some 40, (Op.move (Operand.tmp 5)), none, false, []⟩, ⟨some 41, (Op.slice 22 (Operand.tmp 39) none (some (Operand.tmp 40)) none), none, false, [39, 40]⟩, ⟨some 4, (Op.assign (Operand.tmp 41)), none, false, []⟩])
 (.ret))))))
theorem k23_ok : Try.f23.body.map (strip (tab0.ann 23)) = some k23 := by kernel_rfl
def k24 : XC :=
  .seq (.region [⟨some 2, (Op.assign (Operand.const (Value.slice none 0 0))), none, false, []⟩])
 (.seq (.region [⟨some 5, (Op.move (Operand.tmp 0)), none, false, []⟩, ⟨some 6, (Op.call { callee := (Callee.value (Operand.func 48)), args := #[(Operand.tmp 5)], argTypes := #[22] }), none, false, [5]⟩, ⟨some 3, (Op.assign (Operand.tmp 6)), none, false, []⟩])
 (.seq (.seq (.region [⟨some 7, (Op.move (Operand.tmp 3)), none, false, []⟩, ⟨some 8, (Op.call { callee := (Callee.builtin Builtin.len), args := #[(Operand.tmp 7)], argTypes := #[22] }), none, false, [7]⟩, ⟨some 9, (Op.move (Operand.const (Value.int IntKind.i64 0))), none, false, []⟩])
 (.block 0 (.loop (.seq (.region [⟨some 10, (Op.binOp BinOp.lss 3 (Operand.tmp 9) (Operand.tmp 8) 3), none, false, []⟩])
 (.seq (.cond 10 (.skip) (.exit 0))
 (.seq (.block 1 (.seq (.region [⟨some 11, (Op.move (Operand.tmp 9)), none, false, []⟩, ⟨some 4, (Op.assign (Operand.tmp 11)), none, false, []⟩])
 (.region [⟨some 12, (Op.move (Operand.tmp 3)), none, false, []⟩, ⟨some 13, (Op.move (Operand.tmp 4)), none, false, []⟩, ⟨some 14, (Op.move (Operand.tmp 3)), none, false, []⟩, ⟨some 15, (Op.move (Operand.tmp 4)), none, false, []⟩, ⟨some 16, (Op.indexAddr 22 (Operand.tmp 14) (Operand.tmp 15)), none, false, [14, 15]⟩, ⟨some 17, (Op.fieldAddr 49 (Operand.tmp 16) 1), none, false, [16]⟩, ⟨some 18, (Op.load 27 (Operand.tmp 17)), none, false, [17]⟩, ⟨some 19, (Op.call { callee := (Callee.value (Operand.func 26)), args := #[(Operand.tmp 18)], argTypes := #[27] }), none, false, [18]⟩, ⟨some 20, (Op.indexAddr 22 (Operand.tmp 12) (Operand.tmp 13)), none, false, [12, 13]⟩, ⟨some 21, (Op.fieldAddr 49 (Operand.tmp 20) 1), none, false, [20]⟩, ⟨none, (Op.store 27 (Operand.tmp 21) (Operand.tmp 19)), none, false, []⟩])))
 (.region [⟨some 22, (Op.binOp BinOp.add 3 (Operand.tmp 9) (Operand.const (Value.int IntKind.i64 1)) 3), none, false, []⟩, ⟨some 9, (Op.move (Operand.tmp 22)), none, false, []⟩])))))))
 (.seq (.region [⟨some 23, (Op.move (Operand.tmp 3)), none, false, []⟩, ⟨some 24, (Op.call { callee := (Callee.value (Operand.func 49)), args := #[(Operand.tmp 23)], argTypes := #[22] }), none, false, [23]⟩, ⟨some 2, (Op.assign (Operand.tmp 24)), none, false, []⟩])
 (.ret))))
theorem k24_ok : Try.f24.body.map (strip (tab0.ann 24)) = some k24 := by kernel_rfl
def k25 : XC :=
  .seq (.region [⟨some 2, (Op.box 49 (Operand.tmp 0)), none, false, []⟩, ⟨some 3, (Op.assign (Operand.const (Value.bool false))), none, false, []⟩])
 (.seq (.region [⟨some 4, (Op.fieldAddr 49 (Operand.tmp 2) 0), none, false, []⟩, ⟨some 5, (Op.load 9 (Operand.tmp 4)), none, false, [4]⟩, ⟨some 6, (Op.load 9 (Operand.tmp 1)), none, false, []⟩, ⟨some 7, (Op.binOp BinOp.eql 9 (Operand.tmp 5) (Operand.tmp 6) 9), none, false, [5, 6]⟩, ⟨some 3, (Op.assign (Operand.tmp 7)), none, false, []⟩])
 (.ret))
theorem k25_ok : Try.f25.body.map (strip (tab0.ann 25)) = some k25 := by kernel_rfl
def k26 : XC :=
  .seq (.region [⟨some 1, (Op.box 27 (Operand.tmp 0)), none, false, []⟩, ⟨some 2, (Op.alloc 27), none, false, []⟩])
 (.seq (.region [⟨some 3, (Op.fieldAddr 27 (Operand.tmp 1) 3), none, false, []⟩, ⟨some 4, (Op.load 24 (Operand.tmp 3)), none, false, []⟩, ⟨some 5, (Op.call { callee := (Callee.value (Operand.func 50)), args := #[(Operand.tmp 4)], argTypes := #[24] }), none, true, []⟩, ⟨some 6, (Op.fieldAddr 27 (Operand.tmp 1) 4), none, false, []⟩, ⟨some 7, (Op.load 22 (Operand.tmp 6)), none, false, []⟩, ⟨some 8, (Op.call { callee := (Callee.value (Operand.func 24)), args := #[(Operand.tmp 7)], argTypes := #[22] }), none, true, []⟩, ⟨some 9, (Op.fieldAddr 27 (Operand.tmp 1) 3), none, false, []⟩, ⟨none, (Op.store 24 (Operand.tmp 9) (Operand.tmp 5)), none, false, []⟩, ⟨some 10, (Op.fieldAddr 27 (Operand.tmp 1) 4), none, false, []⟩, ⟨none, (Op.store 22 (Operand.tmp 10) (Operand.tmp 8)), none, false, []⟩])
 (.seq (.region [⟨some 11, (Op.load 27 (Operand.tmp 1)), none, false, []⟩, ⟨none, (Op.store 27 (Operand.tmp 2) (Operand.tmp 11)), none, false, []⟩])
 (.ret)))
theorem k26_ok : Try.f26.body.map (strip (tab0.ann 26)) = some k26 := by kernel_rfl
def k29 : XC :=
  .seq (.region [⟨some 2, (Op.box 22 (Operand.tmp 0)), none, false, []⟩, ⟨some 3, (Op.box 9 (Operand.tmp 1)), none, false, []⟩, ⟨some 4, (Op.assign (Operand.const Value.nilFunc)), none, false, []⟩])
 (.seq (.region [⟨some 5, (Op.makeFunc (Fn.func 52) #[] #[(Operand.tmp 2), (Operand.tmp 3)]), none, false, []⟩, ⟨some 4, (Op.assign (Operand.tmp 5)), none, false, []⟩])
 (.ret))
theorem k29_ok : Try.f29.body.map (strip (tab0.ann 29)) = some k29 := by kernel_rfl
def k47 : XC :=
  .seq (.region [⟨some 4, (Op.assign (Operand.const (Value.int IntKind.i64 0))), none, false, []⟩])
 (.seq (.seq (.region [⟨some 6, (Op.move (Operand.tmp 0)), none, false, []⟩, ⟨some 7, (Op.call { callee := (Callee.builtin Builtin.len), args := #[(Operand.tmp 6)], argTypes := #[22] }), none, false, [6]⟩, ⟨some 8, (Op.move (Operand.const (Value.int IntKind.i64 0))), none, false, []⟩])
 (.block 0 (.loop (.seq (.region [⟨some 9, (Op.binOp BinOp.lss 3 (Operand.tmp 8) (Operand.tmp 7) 3), none, false, []⟩])
 (.seq (.cond 9 (.skip) (.exit 0))
 (.seq (.block 1 (.seq (.region [⟨some 10, (Op.move (Operand.tmp 8)), none, false, []⟩, ⟨some 5, (Op.assign (Operand.tmp 10)), none, false, []⟩])
 (.seq (.region [⟨some 11, (Op.move (Operand.tmp 1)), none, false, []⟩, ⟨some 12, (Op.move (Operand.tmp 0)), none, false, []⟩, ⟨some 13, (Op.move (Operand.tmp 5)), none, false, []⟩, ⟨some 14, (Op.indexAddr 22 (Operand.tmp 12) (Operand.tmp 13)), none, false, [12, 13]⟩, ⟨some 15, (Op.load 49 (Operand.tmp 14)), none, false, [14]⟩, ⟨some 16, (Op.call { callee := (Callee.value (Operand.tmp 11)), args := #[(Operand.tmp 15)], argTypes := #[49] }), none, false, []⟩])
 (.cond 16 (.seq (.region [⟨some 17, (Op.move (Operand.tmp 5)), none, false, []⟩, ⟨some 4, (Op.assign (Operand.tmp 17)), none, false, []⟩])
 (.ret)) (.skip)))))
 (.region [⟨some 18, (Op.binOp BinOp.add 3 (Operand.tmp 8) (Operand.const (Value.int IntKind.i64 1)) 3), none, false, []⟩, ⟨some 8, (Op.move (Operand.tmp 18)), none, false, []⟩])))))))
 (.seq (.region [⟨some 4, (Op.assign (Operand.const (Value.int IntKind.i64 (-1)))), none, false, []⟩])
 (.ret)))
theorem k47_ok : Try.f47.body.map (strip (tab0.ann 47)) = some k47 := by kernel_rfl
def k48 : XC :=
  .seq (.region [⟨some 2, (Op.assign (Operand.const (Value.slice none 0 0))), none, false, []⟩])
 (.seq (.seq (.regionG [⟨some 3, (Op.move (Operand.tmp 0)), none, false, []⟩, ⟨some 4, (Op.binOp BinOp.eql 22 (Operand.tmp 3) (Operand.const (Value.slice none 0 0)) 22), none, false, []⟩])
 (.cond 4 (.seq (.region [⟨some 2, (Op.assign (Operand.const (Value.slice none 0 0))), none, false, []⟩])
 (.ret)) (.skip)))
 (.seq (.regionG [⟨some 5, (Op.buildSlice 22 0 #[]), none, false, []⟩, ⟨some 6, (Op.move (Operand.tmp 0)), none, false, []⟩, ⟨some 7, (Op.call { callee := (Callee.builtin Builtin.append), args := #[(Operand.tmp 5), (Operand.tmp 6)], argTypes := #[22, 22] }), none, false, [5, 6]⟩, ⟨some 2, (Op.assign (Operand.tmp 7)), none, false, []⟩])
 (.ret)))
theorem k48_ok : Try.f48.body.map (strip (tab0.ann 48)) = some k48 := by kernel_rfl
def k49 : XC :=
  .seq (.region [⟨some 2, (Op.assign (Operand.const (Value.slice none 0 0))), none, false, []⟩])
 (.seq (.region [⟨some 3, (Op.move (Operand.tmp 0)), none, false, []⟩, ⟨some 4, (Op.move (Operand.tmp 0)), none, false, []⟩, ⟨some 5, (Op.call { callee := (Callee.builtin Builtin.len), args := #[(Operand.tmp 4)], argTypes := #[22] }), none, false, [4]⟩, ⟨some 6, (Op.move (Operand.tmp 0)), none, false, []⟩, ⟨some 7, (Op.call { callee := (Callee.builtin Builtin.len), args := #[(Operand.tmp 6)], argTypes := #[22] }), none, false, [6]⟩, ⟨some 8, (Op.slice 22 (Operand.tmp 3) none (some (Operand.tmp 5)) (some (Operand.tmp 7))), none, false, [3, 5, 7]⟩, ⟨some 2, (Op.assign (Operand.tmp 8)), none, false, []⟩])
 (.ret))
theorem k49_ok : Try.f49.body.map (strip (tab0.ann 49)) = some k49 := by kernel_rfl
def k50 : XC :=
  .seq (.region [⟨some 2, (Op.assign (Operand.const (Value.slice none 0 0))), none, false, []⟩])
 (.seq (.region [⟨some 5, (Op.move (Operand.tmp 0)), none, false, []⟩, ⟨some 6, (Op.call { callee := (Callee.value (Operand.func 69)), args := #[(Operand.tmp 5)], argTypes := #[24] }), none, false, [5]⟩, ⟨some 3, (Op.assign (Operand.tmp 6)), none, false, []⟩])
 (.seq (.seq (.region [⟨some 7, (Op.move (Operand.tmp 3)), none, false, []⟩, ⟨some 8, (Op.call { callee := (Callee.builtin Builtin.len), args := #[(Operand.tmp 7)], argTypes := #[24] }), none, false, [7]⟩, ⟨some 9, (Op.move (Operand.const (Value.int IntKind.i64 0))), none, false, []⟩])
 (.block 0 (.loop (.seq (.region [⟨some 10, (Op.binOp BinOp.lss 3 (Operand.tmp 9) (Operand.tmp 8) 3), none, false, []⟩])
 (.seq (.cond 10 (.skip) (.exit 0))
 (.seq (.block 1 (.seq (.region [⟨some 11, (Op.move (Operand.tmp 9)), none, false, []⟩, ⟨some 4, (Op.assign (Operand.tmp 11)), none, false, []⟩])
 (.region [⟨some 12, (Op.move (Operand.tmp 3)), none, false, []⟩, ⟨some 13, (Op.move (Operand.tmp 4)), none, false, []⟩, ⟨some 14, (Op.move (Operand.tmp 3)), none, false, []⟩, ⟨some 15, (Op.move (Operand.tmp 4)), none, false, []⟩, ⟨some 16, (Op.indexAddr 24 (Operand.tmp 14) (Operand.tmp 15)), none, false, [14, 15]⟩, ⟨some 17, (Op.load 27 (Operand.tmp 16)), none, false, [16]⟩, ⟨some 18, (Op.call { callee := (Callee.value (Operand.func 26)), args := #[(Operand.tmp 17)], argTypes := #[27] }), none, false, [17]⟩, ⟨some 19, (Op.indexAddr 24 (Operand.tmp 12) (Operand.tmp 13)), none, false, [12, 13]⟩, ⟨none, (Op.store 27 (Operand.tmp 19) (Operand.tmp 18)), none, false, []⟩])))
 (.region [⟨some 20, (Op.binOp BinOp.add 3 (Operand.tmp 9) (Operand.const (Value.int IntKind.i64 1)) 3), none, false, []⟩, ⟨some 9, (Op.move (Operand.tmp 20)), none, false, []⟩])))))))
 (.seq (.region [⟨some 21, (Op.move (Operand.tmp 3)), none, false, []⟩, ⟨some 22, (Op.call { callee := (Callee.value (Operand.func 70)), args := #[(Operand.tmp 21)], argTypes := #[24] }), none, false, [21]⟩, ⟨some 2, (Op.assign (Operand.tmp 22)), none, false, []⟩])
 (.ret))))
theorem k50_ok : Try.f50.body.map (strip (tab0.ann 50)) = some k50 := by kernel_rfl
def ks118a : XC :=
  .region [⟨some 5, (Op.alloc 49), none, false, []⟩, ⟨none, (Op.store 49 (Operand.tmp 5) (Operand.tmp 9)), none, false, []⟩]
def ks118b : XC :=
  .block 1 (.seq (.regionG [⟨some 10, (Op.fieldAddr 49 (Operand.tmp 5) 0), none, false, []⟩, ⟨some 11, (Op.load 9 (Operand.tmp 10)), none, false, [10]⟩, ⟨some 12, (Op.load 9 (Operand.tmp 2)), none, false, []⟩, ⟨some 13, (Op.binOp BinOp.eql 9 (Operand.tmp 11) (Operand.tmp 12) 9), none, false, [11, 12]⟩, ⟨some 14, (Op.move (Operand.tmp 13)), none, false, [13]⟩, ⟨some 15, (Op.load 66 (Operand.tmp 3)), (some (14, true)), false, []⟩, ⟨some 16, (Op.fieldAddr 49 (Operand.tmp 5) 1), (some (14, true)), false, []⟩, ⟨some 17, (Op.load 27 (Operand.tmp 16)), (some (14, true)), false, [16]⟩, ⟨some 18, (Op.call { callee := (Callee.value (Operand.tmp 15)), args := #[(Operand.tmp 17)], argTypes := #[27] }), (some (14, true)), false, [15, 17]⟩, ⟨some 19, (Op.unOp UnOp.not 4 (Operand.tmp 18)), (some (14, true)), false, [18]⟩, ⟨some 20, (Op.pick (Operand.tmp 14) (Operand.tmp 19) (Operand.const (Value.bool false))), none, false, []⟩])
 (.cond 20 (.ret) (.skip)))
theorem ks118_ok : (Sites.site 118).map (fun q => (q.own, q.ps, strip (tab0.ann q.own) q.asg, strip (tab0.ann q.own) q.body)) = some (52, [8, 9], ks118a, ks118b) := by kernel_rfl
def k52 : XC :=
  .seq (.region [⟨some 3, (Op.box 66 (Operand.tmp 0)), none, false, []⟩])
 (.seq (.region [⟨some 6, (Op.load 22 (Operand.tmp 1)), none, false, []⟩, ⟨some 7, (Op.call { callee := (Callee.value (Operand.func 53)), args := #[(Operand.tmp 6)], argTypes := #[22] }), none, false, []⟩])
 (.block 0 (.rng 7)))
theorem k52_ok : Try.f52.body.map (strip (tab0.ann 52)) = some k52 := by kernel_rfl
def k53 : XC :=
  .seq (.region [⟨some 1, (Op.box 22 (Operand.tmp 0)), none, false, []⟩, ⟨some 2, (Op.assign (Operand.const Value.nilFunc)), none, false, []⟩])
 (.seq (.region [⟨some 3, (Op.makeFunc (Fn.func 71) #[] #[(Operand.tmp 1)]), none, false, []⟩, ⟨some 2, (Op.assign (Operand.tmp 3)), none, false, []⟩])
 (.ret))
theorem k53_ok : Try.f53.body.map (strip (tab0.ann 53)) = some k53 := by kernel_rfl
def k69 : XC :=
  .seq (.region [⟨some 2, (Op.assign (Operand.const (Value.slice none 0 0))), none, false, []⟩])
 (.seq (.seq (.regionG [⟨some 3, (Op.move (Operand.tmp 0)), none, false, []⟩, ⟨some 4, (Op.binOp BinOp.eql 24 (Operand.tmp 3) (Operand.const (Value.slice none 0 0)) 24), none, false, []⟩])
 (.cond 4 (.seq (.region [⟨some 2, (Op.assign (Operand.const (Value.slice none 0 0))), none, false, []⟩])
 (.ret)) (.skip)))
 (.seq (.regionG [⟨some 5, (Op.buildSlice 24 0 #[]), none, false, []⟩, ⟨some 6, (Op.move (Operand.tmp 0)), none, false, []⟩, ⟨some 7, (Op.call { callee := (Callee.builtin Builtin.append), args := #[(Operand.tmp 5), (Operand.tmp 6)], argTypes := #[24, 24] }), none, false, [5, 6]⟩, ⟨some 2, (Op.assign (Operand.tmp 7)), none, false, []⟩])
 (.ret)))
theorem k69_ok : Try.f69.body.map (strip (tab0.ann 69)) = some k69 := by kernel_rfl
def k70 : XC :=
  .seq (.region [⟨some 2, (Op.assign (Operand.const (Value.slice none 0 0))), none, false, []⟩])
 (.seq (.region [⟨some 3, (Op.move (Operand.tmp 0)), none, false, []⟩, ⟨some 4, (Op.move (Operand.tmp 0)), none, false, []⟩, ⟨some 5, (Op.call { callee := (Callee.builtin Builtin.len), args := #[(Operand.tmp 4)], argTypes := #[24] }), none, false, [4]⟩, ⟨some 6, (Op.move (Operand.tmp 0)), none, false, []⟩, ⟨some 7, (Op.call { callee := (Callee.builtin Builtin.len), args := #[(Operand.tmp 6)], argTypes := #[24] }), none, false, [6]⟩, ⟨some 8, (Op.slice 24 (Operand.tmp 3) none (some (Operand.tmp 5)) (some (Operand.tmp 7))), none, false, [3, 5, 7]⟩, ⟨some 2, (Op.assign (Operand.tmp 8)), none, false, []⟩])
 (.ret))
theorem k70_ok : Try.f70.body.map (strip (tab0.ann 70)) = some k70 := by kernel_rfl
def k71 : XC :=
  .seq (.region [⟨some 4, (Op.load 22 (Operand.tmp 1)), none, false, []⟩, ⟨some 5, (Op.call { callee := (Callee.builtin Builtin.len), args := #[(Operand.tmp 4)], argTypes := #[22] }), none, false, [4]⟩, ⟨some 6, (Op.binOp BinOp.sub 3 (Operand.tmp 5) (Operand.const (Value.int IntKind.i64 1)) 3), none, false, [5]⟩, ⟨some 3, (Op.assign (Operand.tmp 6)), none, false, []⟩])
 (.block 0 (.loop (.seq (.seq (.region [⟨some 7, (Op.move (Operand.tmp 3)), none, false, []⟩, ⟨some 8, (Op.binOp BinOp.geq 3 (Operand.tmp 7) (Operand.const (Value.int IntKind.i64 0)) 3), none, false, []⟩])
 (.cond 8 (.skip) (.exit 0)))
 (.seq (.block 1 (.seq (.region [⟨some 11, (Op.move (Operand.tmp 0)), none, false, []⟩, ⟨some 12, (Op.move (Operand.tmp 3)), none, false, []⟩, ⟨some 13, (Op.load 22 (Operand.tmp 1)), none, false, []⟩, ⟨some 14, (Op.move (Operand.tmp 3)), none, false, []⟩, ⟨some 15, (Op.indexAddr 22 (Operand.tmp 13) (Operand.tmp 14)), none, false, [13, 14]⟩, ⟨some 16, (Op.load 49 (Operand.tmp 15)), none, false, [15]⟩, ⟨some 17, (Op.call { callee := (Callee.value (Operand.tmp 11)), args := #[(Operand.tmp 12), (Operand.tmp 16)], argTypes := #[3, 49] }), none, false, [11, 12, 16]⟩, ⟨some 18, (Op.unOp UnOp.not 4 (Operand.tmp 17)), none, false, []⟩])
 (.cond 18 (.ret) (.skip))))
 (.region [⟨some 9, (Op.move (Operand.tmp 3)), none, false, []⟩, ⟨some 10, (Op.binOp BinOp.sub 3 (Operand.tmp 9) (Operand.const (Value.int IntKind.i64 1)) 3), none, false, [9]⟩, ⟨some 3, (Op.assign (Operand.tmp 10)), none, false, []⟩])))))
theorem k71_ok : Try.f71.body.map (strip (tab0.ann 71)) = some k71 := by kernel_rfl
noncomputable def S0 : X.Sys := { fn := fnOf [(7, Try.f7), (9, Try.f9), (10, Try.f10), (23, Try.f23), (24, Try.f24), (25, Try.f25), (26, Try.f26), (29, Try.f29), (47, Try.f47), (48, Try.f48), (49, Try.f49), (50, Try.f50), (52, Try.f52), (53, Try.f53), (69, Try.f69), (70, Try.f70), (71, Try.f71)], tab := tab0, foreign := fun _ => none }
theorem sys0_ok : SysOK Try.prog S0 where
  tab := tab0_is_ok
  mixed := by kernel_rfl
  fn := fnOf_spec (by
    intro p hp
    simp only [List.mem_cons, List.not_mem_nil, or_false] at hp
    rcases hp with rfl | rfl | rfl | rfl | rfl | rfl | rfl | rfl | rfl | rfl | rfl | rfl | rfl | rfl | rfl | rfl | rfl
    · exact ⟨Try.func7, by kernel_rfl⟩
    · exact ⟨Try.func9, by kernel_rfl⟩
    · exact ⟨Try.func10, by kernel_rfl⟩
    · exact ⟨Try.func23, by kernel_rfl⟩
    · exact ⟨Try.func24, by kernel_rfl⟩
    · exact ⟨Try.func25, by kernel_rfl⟩
    · exact ⟨Try.func26, by kernel_rfl⟩
    · exact ⟨Try.func29, by kernel_rfl⟩
    · exact ⟨Try.func47, by kernel_rfl⟩
    · exact ⟨Try.func48, by kernel_rfl⟩
    · exact ⟨Try.func49, by kernel_rfl⟩
    · exact ⟨Try.func50, by kernel_rfl⟩
    · exact ⟨Try.func52, by kernel_rfl⟩
    · exact ⟨Try.func53, by kernel_rfl⟩
    · exact ⟨Try.func69, by kernel_rfl⟩
    · exact ⟨Try.func70, by kernel_rfl⟩
    · exact ⟨Try.func71, by kernel_rfl⟩)
  sites := sites_spec (fun _ => rfl) (by
    intro p hp
    simp only [List.mem_cons, List.not_mem_nil, or_false] at hp
    rcases hp with rfl | rfl | rfl | rfl | rfl | rfl | rfl | rfl | rfl | rfl | rfl | rfl | rfl | rfl | rfl | rfl | rfl
    · exact .inl (by kernel_rfl)
    · exact .inr ⟨by kernel_rfl, by kernel_rfl⟩
    · exact .inl (by kernel_rfl)
    · exact .inl (by kernel_rfl)
    · exact .inl (by kernel_rfl)
    · exact .inl (by kernel_rfl)
    · exact .inl (by kernel_rfl)
    · exact .inl (by kernel_rfl)
    · exact .inl (by kernel_rfl)
    · exact .inl (by kernel_rfl)
    · exact .inl (by kernel_rfl)
    · exact .inl (by kernel_rfl)
    · exact .inr ⟨by kernel_rfl, by kernel_rfl⟩
    · exact .inl (by kernel_rfl)
    · exact .inl (by kernel_rfl)
    · exact .inl (by kernel_rfl)
    · exact .inl (by kernel_rfl))
  site := fun g q h => site_spec (F := siteF) (L := siteL) (by
    intro p hp
    simp only [siteL, List.mem_cons, List.not_mem_nil, or_false] at hp
    first
    | exact hp.elim
    | (subst hp; exact ⟨by kernel_rfl, by kernel_rfl, by kernel_rfl⟩)
    | (rcases hp with rfl | rfl <;> exact ⟨by kernel_rfl, by kernel_rfl, by kernel_rfl⟩)) g q h
  foreign := fun f g h => by cases h
noncomputable def XFL : List (Nat × (XC × List ResultVar)) := [(7, (k7, [.tmp 6])), (9, (k9, [.cell 4 27])), (10, (k10, [.tmp 0])), (23, (k23, [.tmp 4])), (24, (k24, [.tmp 2])), (25, (k25, [.tmp 3])), (26, (k26, [.cell 2 27])), (29, (k29, [.tmp 4])), (47, (k47, [.tmp 4])), (48, (k48, [.tmp 2])), (49, (k49, [.tmp 2])), (50, (k50, [.tmp 2])), (52, (k52, [])), (53, (k53, [.tmp 2])), (69, (k69, [.tmp 2])), (70, (k70, [.tmp 2])), (71, (k71, []))]
theorem XFL_ok : XFok S0 (pickOf XFL) := xf_ok (by
    intro p hp
    simp only [XFL, List.mem_cons, List.not_mem_nil, or_false] at hp
    rcases hp with rfl | rfl | rfl | rfl | rfl | rfl | rfl | rfl | rfl | rfl | rfl | rfl | rfl | rfl | rfl | rfl | rfl
    · exact ⟨Try.f7, by kernel_rfl, k7_ok, by kernel_rfl⟩
    · exact ⟨Try.f9, by kernel_rfl, k9_ok, by kernel_rfl⟩
    · exact ⟨Try.f10, by kernel_rfl, k10_ok, by kernel_rfl⟩
    · exact ⟨Try.f23, by kernel_rfl, k23_ok, by kernel_rfl⟩
    · exact ⟨Try.f24, by kernel_rfl, k24_ok, by kernel_rfl⟩
    · exact ⟨Try.f25, by kernel_rfl, k25_ok, by kernel_rfl⟩
    · exact ⟨Try.f26, by kernel_rfl, k26_ok, by kernel_rfl⟩
    · exact ⟨Try.f29, by kernel_rfl, k29_ok, by kernel_rfl⟩
    · exact ⟨Try.f47, by kernel_rfl, k47_ok, by kernel_rfl⟩
    · exact ⟨Try.f48, by kernel_rfl, k48_ok, by kernel_rfl⟩
    · exact ⟨Try.f49, by kernel_rfl, k49_ok, by kernel_rfl⟩
    · exact ⟨Try.f50, by kernel_rfl, k50_ok, by kernel_rfl⟩
    · exact ⟨Try.f52, by kernel_rfl, k52_ok, by kernel_rfl⟩
    · exact ⟨Try.f53, by kernel_rfl, k53_ok, by kernel_rfl⟩
    · exact ⟨Try.f69, by kernel_rfl, k69_ok, by kernel_rfl⟩
    · exact ⟨Try.f70, by kernel_rfl, k70_ok, by kernel_rfl⟩
    · exact ⟨Try.f71, by kernel_rfl, k71_ok, by kernel_rfl⟩)
noncomputable def XSL : List (Nat × (Nat × List Nat × XC × XC)) := [(117, (9, [9], ks117a, ks117b)), (118, (52, [8, 9], ks118a, ks118b))]
theorem XSL_ok : XSok S0 (pickOf XSL) := xs_ok (by
    intro p hp
    simp only [XSL, List.mem_cons, List.not_mem_nil, or_false] at hp
    rcases hp with rfl | rfl
    · exact ⟨ks117_ok, by kernel_rfl⟩
    · exact ⟨ks118_ok, by kernel_rfl⟩)
theorem closed10 : callN S0 (pickOf XFL) (pickOf XSL) 5000 100 10 [] [] = some (.d (.bool true), []) := by kernel_rfl
end Go.Proofs.Ytipkggkbldgmjaa
