/- The code of this seat struck bare (printed by program). -/
import Derived.Test.YtkfhdaimememiaaProg
import Derived.Test.YtkfhdaimememiaaV4
import Derived.KernelRfl
set_option linter.unusedVariables false
set_option linter.unusedSimpArgs false
set_option linter.unusedSimpArgs false
set_option maxRecDepth 100000
namespace Go.Proofs.Ytkfhdaimememiaa
open Go Go.Vm
def ir3_l0 : LC := (.seq (.seq (.ops [⟨some 27, Op.move (Operand.tmp 9), none⟩,
    ⟨some 28, Op.move (Operand.tmp 1), none⟩,
    ⟨some 29, Op.call { callee := Callee.builtin Builtin.len, args := #[Operand.tmp 28], argTypes := #[22] }, none⟩,
    ⟨some 30, Op.binOp BinOp.lss 3 (Operand.tmp 27) (Operand.tmp 29) 3, none⟩,
    ⟨some 31, Op.move (Operand.tmp 30), none⟩,
    ⟨some 32, Op.move (Operand.tmp 9), some (31, true)⟩,
    ⟨some 33, Op.binOp BinOp.lss 3 (Operand.tmp 32) (Operand.const (Value.int IntKind.i64 60)) 3, some (31, true)⟩,
    ⟨some 34, Op.pick (Operand.tmp 31) (Operand.tmp 33) (Operand.const (Value.bool false)), none⟩])
  (.cond (Operand.tmp 34)
  .skip
  (.exit 0)))
  (.seq (.block 1 (.seq (.ops [⟨some 37, Op.move (Operand.tmp 1), none⟩,
    ⟨some 38, Op.move (Operand.tmp 9), none⟩,
    ⟨some 39, Op.indexAddr 22 (Operand.tmp 37) (Operand.tmp 38), none⟩,
    ⟨some 40, Op.load 30 (Operand.tmp 39), none⟩,
    ⟨some 10, Op.alloc 30, none⟩,
    ⟨none, Op.store 30 (Operand.tmp 10) (Operand.tmp 40), none⟩])
  (.seq (.ops [⟨some 41, Op.fieldAddr 30 (Operand.tmp 10) 1, none⟩,
    ⟨none, Op.store 3 (Operand.tmp 41) (Operand.const (Value.int IntKind.i64 3)), none⟩])
  (.seq (.seq (.ops [⟨some 42, Op.fieldAddr 30 (Operand.tmp 10) 0, none⟩,
    ⟨some 43, Op.load 3 (Operand.tmp 42), none⟩,
    ⟨some 44, Op.binOp BinOp.eql 3 (Operand.tmp 43) (Operand.const (Value.int IntKind.i64 6)) 3, none⟩,
    ⟨some 45, Op.move (Operand.tmp 44), none⟩,
    ⟨some 46, Op.fieldAddr 30 (Operand.tmp 10) 0, some (45, false)⟩,
    ⟨some 47, Op.load 3 (Operand.tmp 46), some (45, false)⟩,
    ⟨some 48, Op.binOp BinOp.eql 3 (Operand.tmp 47) (Operand.const (Value.int IntKind.i64 8)) 3, some (45, false)⟩,
    ⟨some 49, Op.pick (Operand.tmp 45) (Operand.const (Value.bool true)) (Operand.tmp 48), none⟩])
  (.cond (Operand.tmp 49)
  (.exit 1)
  .skip))
  (.draw [⟨some 50, Op.move (Operand.tmp 5), none⟩,
    ⟨some 51, Op.call { callee := Callee.value (Operand.func 12), args := #[], argTypes := #[] }, none⟩,
    ⟨some 52, Op.load 30 (Operand.tmp 10), none⟩,
    ⟨some 53, Op.call { callee := Callee.value (Operand.func 11), args := #[Operand.tmp 50, Operand.tmp 51, Operand.tmp 52], argTypes := #[23, 24, 30] }, none⟩] [(0, 1), (1, 2)])))))
  (.ops [⟨some 35, Op.move (Operand.tmp 9), none⟩,
    ⟨some 36, Op.binOp BinOp.add 3 (Operand.tmp 35) (Operand.const (Value.int IntKind.i64 1)) 3, none⟩,
    ⟨some 9, Op.assign (Operand.tmp 36), none⟩])))
def ir3_l1 : LC := (.seq (.seq (.ops [⟨some 58, Op.move (Operand.tmp 12), none⟩,
    ⟨some 59, Op.binOp BinOp.lss 3 (Operand.tmp 58) (Operand.const (Value.int IntKind.i64 32)) 3, none⟩,
    ⟨some 60, Op.move (Operand.tmp 59), none⟩,
    ⟨some 61, Op.move (Operand.tmp 11), some (60, true)⟩,
    ⟨some 62, Op.binOp BinOp.neq 3 (Operand.tmp 61) (Operand.const (Value.int IntKind.i64 3)) 3, some (60, true)⟩,
    ⟨some 63, Op.pick (Operand.tmp 60) (Operand.tmp 62) (Operand.const (Value.bool false)), none⟩])
  (.cond (Operand.tmp 63)
  .skip
  (.exit 4)))
  (.seq (.block 5 (.seq (.ops [⟨some 67, Op.move (Operand.tmp 5), none⟩,
    ⟨some 68, Op.move (Operand.tmp 11), none⟩,
    ⟨some 69, Op.move (Operand.tmp 12), none⟩,
    ⟨some 70, Op.call { callee := Callee.value (Operand.func 13), args := #[Operand.tmp 67, Operand.tmp 68, Operand.tmp 69], argTypes := #[23, 3, 3] }, none⟩,
    ⟨some 66, Op.move (Operand.tmp 70), none⟩,
    ⟨some 71, Op.extract (Operand.tmp 66) 0, none⟩,
    ⟨some 72, Op.extract (Operand.tmp 66) 1, none⟩,
    ⟨some 13, Op.alloc 34, none⟩,
    ⟨none, Op.store 34 (Operand.tmp 13) (Operand.tmp 71), none⟩,
    ⟨some 14, Op.assign (Operand.tmp 72), none⟩])
  (.seq (.ops [⟨some 74, Op.move (Operand.tmp 8), none⟩,
    ⟨some 75, Op.move (Operand.tmp 11), none⟩,
    ⟨some 76, Op.move (Operand.tmp 12), none⟩,
    ⟨some 77, Op.call { callee := Callee.value (Operand.func 13), args := #[Operand.tmp 74, Operand.tmp 75, Operand.tmp 76], argTypes := #[23, 3, 3] }, none⟩,
    ⟨some 73, Op.move (Operand.tmp 77), none⟩,
    ⟨some 78, Op.extract (Operand.tmp 73) 0, none⟩,
    ⟨some 79, Op.extract (Operand.tmp 73) 1, none⟩,
    ⟨some 15, Op.alloc 34, none⟩,
    ⟨none, Op.store 34 (Operand.tmp 15) (Operand.tmp 78), none⟩,
    ⟨some 16, Op.assign (Operand.tmp 79), none⟩])
  (.seq (.ops [⟨some 80, Op.load 34 (Operand.tmp 13), none⟩,
    ⟨some 81, Op.load 34 (Operand.tmp 15), none⟩,
    ⟨some 82, Op.binOp BinOp.neq 34 (Operand.tmp 80) (Operand.tmp 81) 34, none⟩,
    ⟨some 83, Op.move (Operand.tmp 82), none⟩,
    ⟨some 84, Op.move (Operand.tmp 14), some (83, false)⟩,
    ⟨some 85, Op.move (Operand.tmp 16), some (83, false)⟩,
    ⟨some 86, Op.binOp BinOp.neq 4 (Operand.tmp 84) (Operand.tmp 85) 4, some (83, false)⟩,
    ⟨some 87, Op.pick (Operand.tmp 83) (Operand.const (Value.bool true)) (Operand.tmp 86), none⟩])
  (.cond (Operand.tmp 87)
  (.seq (.ops [⟨some 4, Op.assign (Operand.const (Value.bool false)), none⟩])
  .ret)
  .skip)))))
  (.ops [⟨some 64, Op.move (Operand.tmp 12), none⟩,
    ⟨some 65, Op.binOp BinOp.add 3 (Operand.tmp 64) (Operand.const (Value.int IntKind.i64 1)) 3, none⟩,
    ⟨some 12, Op.assign (Operand.tmp 65), none⟩])))
def ir3_l2 : LC := (.seq (.seq (.ops [⟨some 54, Op.move (Operand.tmp 11), none⟩,
    ⟨some 55, Op.binOp BinOp.lss 3 (Operand.tmp 54) (Operand.const (Value.int IntKind.i64 16)) 3, none⟩])
  (.cond (Operand.tmp 55)
  .skip
  (.exit 2)))
  (.seq (.block 3 (.seq (.ops [⟨some 12, Op.assign (Operand.const (Value.int IntKind.i64 0)), none⟩])
  (.block 4 (.loop ir3_l1))))
  (.ops [⟨some 56, Op.move (Operand.tmp 11), none⟩,
    ⟨some 57, Op.binOp BinOp.add 3 (Operand.tmp 56) (Operand.const (Value.int IntKind.i64 1)) 3, none⟩,
    ⟨some 11, Op.assign (Operand.tmp 57), none⟩])))
def ir3 : LC := (.seq (.ops [⟨some 4, Op.assign (Operand.const (Value.bool false)), none⟩])
  (.seq (.ops [⟨some 18, Op.move (Operand.tmp 0), none⟩,
    ⟨some 19, Op.call { callee := Callee.value (Operand.func 9), args := #[Operand.tmp 18], argTypes := #[22] }, none⟩,
    ⟨some 17, Op.move (Operand.tmp 19), none⟩,
    ⟨some 20, Op.extract (Operand.tmp 17) 0, none⟩,
    ⟨some 21, Op.extract (Operand.tmp 17) 1, none⟩,
    ⟨some 22, Op.extract (Operand.tmp 17) 2, none⟩,
    ⟨some 5, Op.assign (Operand.tmp 20), none⟩,
    ⟨some 6, Op.assign (Operand.tmp 21), none⟩,
    ⟨some 7, Op.assign (Operand.tmp 22), none⟩])
  (.seq (.seq (.ops [⟨some 23, Op.move (Operand.tmp 7), none⟩,
    ⟨some 24, Op.unOp UnOp.not 4 (Operand.tmp 23), none⟩])
  (.cond (Operand.tmp 24)
  (.seq (.ops [⟨some 4, Op.assign (Operand.const (Value.bool false)), none⟩])
  .ret)
  .skip))
  (.seq (.ops [⟨some 25, Op.move (Operand.tmp 5), none⟩,
    ⟨some 26, Op.call { callee := Callee.value (Operand.func 10), args := #[Operand.tmp 25], argTypes := #[23] }, none⟩,
    ⟨some 8, Op.assign (Operand.tmp 26), none⟩])
  (.seq (.seq (.ops [⟨some 9, Op.assign (Operand.const (Value.int IntKind.i64 0)), none⟩])
  (.block 0 (.loop ir3_l0)))
  (.seq (.seq (.ops [⟨some 11, Op.assign (Operand.const (Value.int IntKind.i64 0)), none⟩])
  (.block 2 (.loop ir3_l2)))
  (.seq (.ops [⟨some 88, Op.call { callee := Callee.value (Operand.func 14), args := #[], argTypes := #[] }, none⟩,
    ⟨some 4, Op.assign (Operand.tmp 88), none⟩])
  .ret)))))))
theorem ir3_eq : (Try.f3.body.map low, Try.f3.ntmps, Try.f3.results.toList) = (some ir3, 89, [.tmp 4]) := by kernel_rfl
def ir7_l0 : LC := (.seq (.seq (.ops [⟨some 18, Op.move (Operand.tmp 8), none⟩,
    ⟨some 19, Op.move (Operand.tmp 1), none⟩,
    ⟨some 20, Op.call { callee := Callee.builtin Builtin.len, args := #[Operand.tmp 19], argTypes := #[22] }, none⟩,
    ⟨some 21, Op.binOp BinOp.lss 3 (Operand.tmp 18) (Operand.tmp 20) 3, none⟩,
    ⟨some 22, Op.move (Operand.tmp 21), none⟩,
    ⟨some 23, Op.move (Operand.tmp 8), some (22, true)⟩,
    ⟨some 24, Op.binOp BinOp.lss 3 (Operand.tmp 23) (Operand.const (Value.int IntKind.i64 100)) 3, some (22, true)⟩,
    ⟨some 25, Op.pick (Operand.tmp 22) (Operand.tmp 24) (Operand.const (Value.bool false)), none⟩])
  (.cond (Operand.tmp 25)
  .skip
  (.exit 0)))
  (.seq (.block 1 (.seq (.ops [⟨some 28, Op.move (Operand.tmp 1), none⟩,
    ⟨some 29, Op.move (Operand.tmp 8), none⟩,
    ⟨some 30, Op.indexAddr 22 (Operand.tmp 28) (Operand.tmp 29), none⟩,
    ⟨some 31, Op.load 30 (Operand.tmp 30), none⟩,
    ⟨some 9, Op.alloc 30, none⟩,
    ⟨none, Op.store 30 (Operand.tmp 9) (Operand.tmp 31), none⟩])
  (.seq (.ops [⟨some 32, Op.fieldAddr 30 (Operand.tmp 9) 0, none⟩,
    ⟨none, Op.store 3 (Operand.tmp 32) (Operand.const (Value.int IntKind.i64 4)), none⟩])
  (.seq (.ops [⟨some 34, Op.move (Operand.tmp 5), none⟩,
    ⟨some 35, Op.move (Operand.tmp 6), none⟩,
    ⟨some 36, Op.load 30 (Operand.tmp 9), none⟩,
    ⟨some 37, Op.call { callee := Callee.value (Operand.func 11), args := #[Operand.tmp 34, Operand.tmp 35, Operand.tmp 36], argTypes := #[23, 24, 30] }, none⟩,
    ⟨some 33, Op.move (Operand.tmp 37), none⟩,
    ⟨some 38, Op.extract (Operand.tmp 33) 0, none⟩,
    ⟨some 39, Op.extract (Operand.tmp 33) 1, none⟩,
    ⟨some 40, Op.extract (Operand.tmp 33) 2, none⟩,
    ⟨some 5, Op.assign (Operand.tmp 38), none⟩,
    ⟨some 6, Op.assign (Operand.tmp 39), none⟩,
    ⟨some 7, Op.assign (Operand.tmp 40), none⟩])
  (.seq (.ops [⟨some 41, Op.move (Operand.tmp 7), none⟩,
    ⟨some 42, Op.unOp UnOp.not 4 (Operand.tmp 41), none⟩])
  (.cond (Operand.tmp 42)
  (.seq (.ops [⟨some 4, Op.assign (Operand.const (Value.bool false)), none⟩])
  .ret)
  .skip))))))
  (.ops [⟨some 26, Op.move (Operand.tmp 8), none⟩,
    ⟨some 27, Op.binOp BinOp.add 3 (Operand.tmp 26) (Operand.const (Value.int IntKind.i64 1)) 3, none⟩,
    ⟨some 8, Op.assign (Operand.tmp 27), none⟩])))
def ir7 : LC := (.seq (.ops [⟨some 4, Op.assign (Operand.const (Value.bool false)), none⟩])
  (.seq (.ops [⟨some 11, Op.move (Operand.tmp 0), none⟩,
    ⟨some 12, Op.call { callee := Callee.value (Operand.func 9), args := #[Operand.tmp 11], argTypes := #[22] }, none⟩,
    ⟨some 10, Op.move (Operand.tmp 12), none⟩,
    ⟨some 13, Op.extract (Operand.tmp 10) 0, none⟩,
    ⟨some 14, Op.extract (Operand.tmp 10) 1, none⟩,
    ⟨some 15, Op.extract (Operand.tmp 10) 2, none⟩,
    ⟨some 5, Op.assign (Operand.tmp 13), none⟩,
    ⟨some 6, Op.assign (Operand.tmp 14), none⟩,
    ⟨some 7, Op.assign (Operand.tmp 15), none⟩])
  (.seq (.seq (.ops [⟨some 16, Op.move (Operand.tmp 7), none⟩,
    ⟨some 17, Op.unOp UnOp.not 4 (Operand.tmp 16), none⟩])
  (.cond (Operand.tmp 17)
  (.seq (.ops [⟨some 4, Op.assign (Operand.const (Value.bool false)), none⟩])
  .ret)
  .skip))
  (.seq (.seq (.ops [⟨some 8, Op.assign (Operand.const (Value.int IntKind.i64 0)), none⟩])
  (.block 0 (.loop ir7_l0)))
  (.seq (.ops [⟨some 43, Op.move (Operand.tmp 5), none⟩,
    ⟨some 44, Op.move (Operand.tmp 6), none⟩,
    ⟨some 45, Op.call { callee := Callee.value (Operand.func 22), args := #[Operand.tmp 43, Operand.tmp 44, Operand.const (Value.int IntKind.i64 0)], argTypes := #[23, 24, 3] }, none⟩,
    ⟨some 46, Op.move (Operand.tmp 45), none⟩,
    ⟨some 47, Op.call { callee := Callee.value (Operand.func 14), args := #[], argTypes := #[] }, some (46, true)⟩,
    ⟨some 48, Op.pick (Operand.tmp 46) (Operand.tmp 47) (Operand.const (Value.bool false)), none⟩,
    ⟨some 4, Op.assign (Operand.tmp 48), none⟩])
  .ret)))))
theorem ir7_eq : (Try.f7.body.map low, Try.f7.ntmps, Try.f7.results.toList) = (some ir7, 49, [.tmp 4]) := by kernel_rfl

end Go.Proofs.Ytkfhdaimememiaa
