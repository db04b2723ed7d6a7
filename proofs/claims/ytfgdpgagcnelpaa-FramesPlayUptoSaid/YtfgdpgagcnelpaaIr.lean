/- The code of this seat struck bare (printed by program). -/
import Derived.Test.YtfgdpgagcnelpaaProg
import Derived.Test.YtfgdpgagcnelpaaV4
import Derived.KernelRfl
set_option linter.unusedVariables false
set_option linter.unusedSimpArgs false
set_option linter.unusedSimpArgs false
set_option maxRecDepth 100000
namespace Go.Proofs.Ytfgdpgagcnelpaa
open Go Go.Vm
def ir7_l0 : LC := (.seq (.seq (.ops [⟨some 55, Op.move (Operand.tmp 14), none⟩,
    ⟨some 56, Op.move (Operand.tmp 2), none⟩,
    ⟨some 57, Op.call { callee := Callee.builtin Builtin.len, args := #[Operand.tmp 56], argTypes := #[34] }, none⟩,
    ⟨some 58, Op.binOp BinOp.lss 3 (Operand.tmp 55) (Operand.tmp 57) 3, none⟩])
  (.cond (Operand.tmp 58)
  .skip
  (.exit 0)))
  (.seq (.block 1 (.seq (.seq (.ops [⟨some 61, Op.move (Operand.tmp 2), none⟩,
    ⟨some 62, Op.move (Operand.tmp 14), none⟩,
    ⟨some 63, Op.indexAddr 34 (Operand.tmp 61) (Operand.tmp 62), none⟩,
    ⟨some 64, Op.fieldAddr 37 (Operand.tmp 63) 0, none⟩,
    ⟨some 65, Op.load 3 (Operand.tmp 64), none⟩,
    ⟨some 66, Op.binOp BinOp.eql 3 (Operand.tmp 65) (Operand.const (Value.int IntKind.i64 7)) 3, none⟩])
  (.cond (Operand.tmp 66)
  (.seq (.ops [⟨some 67, Op.move (Operand.tmp 9), none⟩,
    ⟨some 68, Op.move (Operand.tmp 11), none⟩,
    ⟨some 12, Op.assign (Operand.tmp 67), none⟩,
    ⟨some 13, Op.assign (Operand.tmp 68), none⟩])
  (.ops [⟨some 69, Op.move (Operand.tmp 9), none⟩,
    ⟨some 70, Op.call { callee := Callee.value (Operand.func 25), args := #[Operand.tmp 69], argTypes := #[23] }, none⟩,
    ⟨some 71, Op.move (Operand.tmp 11), none⟩,
    ⟨some 72, Op.call { callee := Callee.value (Operand.func 26), args := #[Operand.tmp 71], argTypes := #[52] }, none⟩,
    ⟨some 9, Op.assign (Operand.tmp 70), none⟩,
    ⟨some 11, Op.assign (Operand.tmp 72), none⟩]))
  .skip))
  (.seq (.ops [⟨some 73, Op.move (Operand.tmp 9), none⟩,
    ⟨some 74, Op.move (Operand.tmp 11), none⟩,
    ⟨some 75, Op.move (Operand.tmp 2), none⟩,
    ⟨some 76, Op.move (Operand.tmp 14), none⟩,
    ⟨some 77, Op.indexAddr 34 (Operand.tmp 75) (Operand.tmp 76), none⟩,
    ⟨some 78, Op.load 37 (Operand.tmp 77), none⟩,
    ⟨some 79, Op.call { callee := Callee.value (Operand.func 27), args := #[Operand.tmp 73, Operand.tmp 74, Operand.tmp 78], argTypes := #[23, 52, 37] }, none⟩,
    ⟨some 80, Op.unOp UnOp.not 4 (Operand.tmp 79), none⟩,
    ⟨some 81, Op.move (Operand.tmp 80), none⟩,
    ⟨some 82, Op.move (Operand.tmp 9), some (81, false)⟩,
    ⟨some 83, Op.move (Operand.tmp 11), some (81, false)⟩,
    ⟨some 84, Op.move (Operand.tmp 3), some (81, false)⟩,
    ⟨some 85, Op.call { callee := Callee.value (Operand.func 24), args := #[Operand.tmp 82, Operand.tmp 83, Operand.tmp 84], argTypes := #[23, 52, 3] }, some (81, false)⟩,
    ⟨some 86, Op.unOp UnOp.not 4 (Operand.tmp 85), some (81, false)⟩,
    ⟨some 87, Op.pick (Operand.tmp 81) (Operand.const (Value.bool true)) (Operand.tmp 86), none⟩])
  (.cond (Operand.tmp 87)
  (.seq (.ops [⟨some 8, Op.assign (Operand.const (Value.bool false)), none⟩])
  .ret)
  .skip))))
  (.ops [⟨some 59, Op.move (Operand.tmp 14), none⟩,
    ⟨some 60, Op.binOp BinOp.add 3 (Operand.tmp 59) (Operand.const (Value.int IntKind.i64 1)) 3, none⟩,
    ⟨some 14, Op.assign (Operand.tmp 60), none⟩])))
def ir7 : LC := (.seq (.ops [⟨some 8, Op.assign (Operand.const (Value.bool false)), none⟩])
  (.seq (.seq (.ops [⟨some 15, Op.move (Operand.tmp 2), none⟩,
    ⟨some 16, Op.call { callee := Callee.builtin Builtin.len, args := #[Operand.tmp 15], argTypes := #[34] }, none⟩,
    ⟨some 17, Op.binOp BinOp.gtr 3 (Operand.tmp 16) (Operand.const (Value.int IntKind.i64 40)) 3, none⟩])
  (.cond (Operand.tmp 17)
  (.seq (.ops [⟨some 18, Op.call { callee := Callee.value (Operand.func 9), args := #[], argTypes := #[] }, none⟩,
    ⟨some 8, Op.assign (Operand.tmp 18), none⟩])
  .ret)
  .skip))
  (.seq (.ops [⟨some 20, Op.move (Operand.tmp 0), none⟩,
    ⟨some 21, Op.move (Operand.tmp 1), none⟩,
    ⟨some 22, Op.call { callee := Callee.value (Operand.func 10), args := #[Operand.tmp 20, Operand.tmp 21], argTypes := #[3, 49] }, none⟩,
    ⟨some 19, Op.move (Operand.tmp 22), none⟩,
    ⟨some 23, Op.extract (Operand.tmp 19) 0, none⟩,
    ⟨some 24, Op.extract (Operand.tmp 19) 1, none⟩,
    ⟨some 9, Op.assign (Operand.tmp 23), none⟩,
    ⟨some 10, Op.assign (Operand.tmp 24), none⟩])
  (.seq (.ops [⟨some 25, Op.move (Operand.tmp 0), none⟩,
    ⟨some 26, Op.move (Operand.tmp 1), none⟩,
    ⟨some 27, Op.call { callee := Callee.value (Operand.func 23), args := #[Operand.tmp 25, Operand.tmp 26], argTypes := #[3, 49] }, none⟩,
    ⟨some 11, Op.assign (Operand.tmp 27), none⟩])
  (.seq (.seq (.ops [⟨some 28, Op.move (Operand.tmp 9), none⟩,
    ⟨some 29, Op.binOp BinOp.eql 23 (Operand.tmp 28) (Operand.const (Value.pointer none)) 23, none⟩,
    ⟨some 30, Op.move (Operand.tmp 11), none⟩,
    ⟨some 31, Op.binOp BinOp.eql 52 (Operand.tmp 30) (Operand.const (Value.pointer none)) 52, none⟩,
    ⟨some 32, Op.binOp BinOp.neq 4 (Operand.tmp 29) (Operand.tmp 31) 4, none⟩,
    ⟨some 33, Op.move (Operand.tmp 32), none⟩,
    ⟨some 34, Op.move (Operand.tmp 10), some (33, false)⟩,
    ⟨some 35, Op.binOp BinOp.eql 24 (Operand.tmp 34) (Operand.const (Value.int IntKind.i64 0)) 24, some (33, false)⟩,
    ⟨some 36, Op.move (Operand.tmp 11), some (33, false)⟩,
    ⟨some 37, Op.binOp BinOp.neq 52 (Operand.tmp 36) (Operand.const (Value.pointer none)) 52, some (33, false)⟩,
    ⟨some 38, Op.binOp BinOp.neq 4 (Operand.tmp 35) (Operand.tmp 37) 4, some (33, false)⟩,
    ⟨some 39, Op.pick (Operand.tmp 33) (Operand.const (Value.bool true)) (Operand.tmp 38), none⟩,
    ⟨some 40, Op.move (Operand.tmp 39), none⟩,
    ⟨some 41, Op.move (Operand.tmp 11), some (40, false)⟩,
    ⟨some 42, Op.binOp BinOp.eql 52 (Operand.tmp 41) (Operand.const (Value.pointer none)) 52, some (40, false)⟩,
    ⟨some 43, Op.move (Operand.tmp 42), some (40, false)⟩,
    ⟨some 44, Op.move (Operand.tmp 10), some (43, true)⟩,
    ⟨some 45, Op.binOp BinOp.neq 24 (Operand.tmp 44) (Operand.const (Value.int IntKind.i64 2)) 24, some (43, true)⟩,
    ⟨some 46, Op.pick (Operand.tmp 43) (Operand.tmp 45) (Operand.const (Value.bool false)), some (40, false)⟩,
    ⟨some 47, Op.pick (Operand.tmp 40) (Operand.const (Value.bool true)) (Operand.tmp 46), none⟩,
    ⟨some 48, Op.move (Operand.tmp 47), none⟩,
    ⟨some 49, Op.move (Operand.tmp 9), some (48, false)⟩,
    ⟨some 50, Op.move (Operand.tmp 11), some (48, false)⟩,
    ⟨some 51, Op.move (Operand.tmp 3), some (48, false)⟩,
    ⟨some 52, Op.call { callee := Callee.value (Operand.func 24), args := #[Operand.tmp 49, Operand.tmp 50, Operand.tmp 51], argTypes := #[23, 52, 3] }, some (48, false)⟩,
    ⟨some 53, Op.unOp UnOp.not 4 (Operand.tmp 52), some (48, false)⟩,
    ⟨some 54, Op.pick (Operand.tmp 48) (Operand.const (Value.bool true)) (Operand.tmp 53), none⟩])
  (.cond (Operand.tmp 54)
  (.seq (.ops [⟨some 8, Op.assign (Operand.const (Value.bool false)), none⟩])
  .ret)
  .skip))
  (.seq (.ops [⟨some 12, Op.assign (Operand.const (Value.pointer none)), none⟩])
  (.seq (.ops [⟨some 13, Op.assign (Operand.const (Value.pointer none)), none⟩])
  (.seq (.seq (.ops [⟨some 14, Op.assign (Operand.const (Value.int IntKind.i64 0)), none⟩])
  (.block 0 (.loop ir7_l0)))
  (.seq (.ops [⟨some 88, Op.move (Operand.tmp 13), none⟩,
    ⟨some 89, Op.binOp BinOp.eql 52 (Operand.tmp 88) (Operand.const (Value.pointer none)) 52, none⟩,
    ⟨some 90, Op.move (Operand.tmp 89), none⟩,
    ⟨some 91, Op.move (Operand.tmp 12), some (90, false)⟩,
    ⟨some 92, Op.move (Operand.tmp 13), some (90, false)⟩,
    ⟨some 93, Op.move (Operand.tmp 3), some (90, false)⟩,
    ⟨some 94, Op.call { callee := Callee.value (Operand.func 24), args := #[Operand.tmp 91, Operand.tmp 92, Operand.tmp 93], argTypes := #[23, 52, 3] }, some (90, false)⟩,
    ⟨some 95, Op.pick (Operand.tmp 90) (Operand.const (Value.bool true)) (Operand.tmp 94), none⟩,
    ⟨some 96, Op.move (Operand.tmp 95), none⟩,
    ⟨some 97, Op.call { callee := Callee.value (Operand.func 9), args := #[], argTypes := #[] }, some (96, true)⟩,
    ⟨some 98, Op.pick (Operand.tmp 96) (Operand.tmp 97) (Operand.const (Value.bool false)), none⟩,
    ⟨some 8, Op.assign (Operand.tmp 98), none⟩])
  .ret)))))))))
theorem ir7_eq : (Try.f7.body.map low, Try.f7.ntmps, Try.f7.results.toList) = (some ir7, 99, [.tmp 8]) := by kernel_rfl
def ir10_l0 : LC := (.seq (.ops [⟨some 29, Op.binOp BinOp.lss 3 (Operand.tmp 28) (Operand.tmp 27) 3, none⟩])
  (.seq (.cond (Operand.tmp 29)
  .skip
  (.exit 0))
  (.seq (.block 1 (.seq (.ops [⟨some 30, Op.indexAddr 49 (Operand.tmp 26) (Operand.tmp 28), none⟩,
    ⟨some 31, Op.load 3 (Operand.tmp 30), none⟩,
    ⟨some 9, Op.assign (Operand.tmp 31), none⟩])
  (.seq (.seq (.ops [⟨some 32, Op.move (Operand.tmp 9), none⟩,
    ⟨some 33, Op.binOp BinOp.lss 3 (Operand.tmp 32) (Operand.const (Value.int IntKind.i64 0)) 3, none⟩,
    ⟨some 34, Op.move (Operand.tmp 33), none⟩,
    ⟨some 35, Op.move (Operand.tmp 9), some (34, false)⟩,
    ⟨some 36, Op.binOp BinOp.gtr 3 (Operand.tmp 35) (Operand.const (Value.int IntKind.i64 256)) 3, some (34, false)⟩,
    ⟨some 37, Op.pick (Operand.tmp 34) (Operand.const (Value.bool true)) (Operand.tmp 36), none⟩])
  (.cond (Operand.tmp 37)
  (.seq (.ops [⟨some 4, Op.assign (Operand.const (Value.pointer none)), none⟩,
    ⟨some 5, Op.assign (Operand.const (Value.int IntKind.i64 2)), none⟩])
  .ret)
  .skip))
  (.ops [⟨some 38, Op.move (Operand.tmp 6), none⟩,
    ⟨some 39, Op.move (Operand.tmp 9), none⟩,
    ⟨some 40, Op.binOp BinOp.add 3 (Operand.tmp 38) (Operand.tmp 39) 3, none⟩,
    ⟨some 6, Op.assign (Operand.tmp 40), none⟩]))))
  (.ops [⟨some 41, Op.binOp BinOp.add 3 (Operand.tmp 28) (Operand.const (Value.int IntKind.i64 1)) 3, none⟩,
    ⟨some 28, Op.move (Operand.tmp 41), none⟩]))))
def ir10 : LC := (.seq (.ops [⟨some 4, Op.assign (Operand.const (Value.pointer none)), none⟩,
    ⟨some 5, Op.assign (Operand.const (Value.int IntKind.i64 0)), none⟩])
  (.seq (.ops [⟨some 6, Op.assign (Operand.const (Value.int IntKind.i64 0)), none⟩])
  (.seq (.ops [⟨some 10, Op.move (Operand.tmp 0), none⟩,
    ⟨some 11, Op.binOp BinOp.lss 3 (Operand.tmp 10) (Operand.const (Value.int IntKind.i64 1)) 3, none⟩,
    ⟨some 12, Op.move (Operand.tmp 11), none⟩,
    ⟨some 13, Op.move (Operand.tmp 0), some (12, false)⟩,
    ⟨some 14, Op.binOp BinOp.gtr 3 (Operand.tmp 13) (Operand.const (Value.int IntKind.i64 256)) 3, some (12, false)⟩,
    ⟨some 15, Op.pick (Operand.tmp 12) (Operand.const (Value.bool true)) (Operand.tmp 14), none⟩,
    ⟨some 16, Op.move (Operand.tmp 15), none⟩,
    ⟨some 17, Op.move (Operand.tmp 1), some (16, false)⟩,
    ⟨some 18, Op.call { callee := Callee.builtin Builtin.len, args := #[Operand.tmp 17], argTypes := #[49] }, some (16, false)⟩,
    ⟨some 19, Op.binOp BinOp.lss 3 (Operand.tmp 18) (Operand.const (Value.int IntKind.i64 1)) 3, some (16, false)⟩,
    ⟨some 20, Op.pick (Operand.tmp 16) (Operand.const (Value.bool true)) (Operand.tmp 19), none⟩,
    ⟨some 21, Op.move (Operand.tmp 20), none⟩,
    ⟨some 22, Op.move (Operand.tmp 1), some (21, false)⟩,
    ⟨some 23, Op.call { callee := Callee.builtin Builtin.len, args := #[Operand.tmp 22], argTypes := #[49] }, some (21, false)⟩,
    ⟨some 24, Op.binOp BinOp.gtr 3 (Operand.tmp 23) (Operand.const (Value.int IntKind.i64 8)) 3, some (21, false)⟩,
    ⟨some 25, Op.pick (Operand.tmp 21) (Operand.const (Value.bool true)) (Operand.tmp 24), none⟩,
    ⟨some 7, Op.assign (Operand.tmp 25), none⟩])
  (.seq (.seq (.ops [⟨some 26, Op.move (Operand.tmp 1), none⟩,
    ⟨some 27, Op.call { callee := Callee.builtin Builtin.len, args := #[Operand.tmp 26], argTypes := #[49] }, none⟩,
    ⟨some 28, Op.move (Operand.const (Value.int IntKind.i64 0)), none⟩])
  (.block 0 (.loop ir10_l0)))
  (.seq (.seq (.ops [⟨some 42, Op.move (Operand.tmp 7), none⟩,
    ⟨some 43, Op.move (Operand.tmp 42), none⟩,
    ⟨some 44, Op.move (Operand.tmp 6), some (43, false)⟩,
    ⟨some 45, Op.move (Operand.tmp 0), some (43, false)⟩,
    ⟨some 46, Op.binOp BinOp.gtr 3 (Operand.tmp 44) (Operand.tmp 45) 3, some (43, false)⟩,
    ⟨some 47, Op.pick (Operand.tmp 43) (Operand.const (Value.bool true)) (Operand.tmp 46), none⟩])
  (.cond (Operand.tmp 47)
  (.seq (.ops [⟨some 4, Op.assign (Operand.const (Value.pointer none)), none⟩,
    ⟨some 5, Op.assign (Operand.const (Value.int IntKind.i64 2)), none⟩])
  .ret)
  .skip))
  (.seq (.draw [⟨some 48, Op.move (Operand.tmp 0), none⟩,
    ⟨some 49, Op.makeSlice 59 (Operand.tmp 48) (Operand.tmp 48), none⟩,
    ⟨some 50, Op.move (Operand.tmp 1), none⟩,
    ⟨some 51, Op.call { callee := Callee.value (Operand.func 29), args := #[Operand.tmp 50], argTypes := #[49] }, none⟩,
    ⟨some 52, Op.move (Operand.tmp 1), none⟩,
    ⟨some 53, Op.call { callee := Callee.builtin Builtin.len, args := #[Operand.tmp 52], argTypes := #[49] }, none⟩,
    ⟨some 54, Op.makeSlice 49 (Operand.tmp 53) (Operand.tmp 53), none⟩,
    ⟨some 55, Op.build 61 #[(0, Operand.tmp 49), (1, Operand.tmp 51), (2, Operand.tmp 54)], none⟩,
    ⟨some 56, Op.box 61 (Operand.tmp 55), none⟩,
    ⟨some 4, Op.assign (Operand.tmp 56), none⟩,
    ⟨some 5, Op.assign (Operand.const (Value.int IntKind.i64 0)), none⟩] [(1, 2), (0, 3), (1, 3), (1, 4), (3, 4), (1, 5), (3, 5), (0, 6), (1, 6), (2, 6), (3, 6)])
  .ret))))))
theorem ir10_eq : (Try.f10.body.map low, Try.f10.ntmps, Try.f10.results.toList) = (some ir10, 57, [.tmp 4, .tmp 5]) := by kernel_rfl
def ir11_l0 : LC := (.seq (.ops [⟨some 39, Op.binOp BinOp.lss 3 (Operand.tmp 38) (Operand.tmp 37) 3, none⟩])
  (.seq (.cond (Operand.tmp 39)
  .skip
  (.exit 1))
  (.seq (.block 2 (.seq (.ops [⟨some 40, Op.move (Operand.tmp 38), none⟩,
    ⟨some 7, Op.assign (Operand.tmp 40), none⟩])
  (.seq (.ops [⟨some 41, Op.move (Operand.tmp 0), none⟩,
    ⟨some 42, Op.nilCheck (Operand.tmp 41), none⟩,
    ⟨some 43, Op.fieldAddr 61 (Operand.tmp 42) 0, none⟩,
    ⟨some 44, Op.load 59 (Operand.tmp 43), none⟩,
    ⟨some 45, Op.move (Operand.tmp 7), none⟩,
    ⟨some 46, Op.indexAddr 59 (Operand.tmp 44) (Operand.tmp 45), none⟩,
    ⟨some 47, Op.fieldAddr 67 (Operand.tmp 46) 1, none⟩,
    ⟨some 48, Op.load 3 (Operand.tmp 47), none⟩,
    ⟨some 49, Op.binOp BinOp.eql 3 (Operand.tmp 48) (Operand.const (Value.int IntKind.i64 0)) 3, none⟩])
  (.cond (Operand.tmp 49)
  (.seq (.ops [⟨some 50, Op.move (Operand.tmp 7), none⟩,
    ⟨some 6, Op.assign (Operand.tmp 50), none⟩])
  (.exit 1))
  .skip))))
  (.ops [⟨some 51, Op.binOp BinOp.add 3 (Operand.tmp 38) (Operand.const (Value.int IntKind.i64 1)) 3, none⟩,
    ⟨some 38, Op.move (Operand.tmp 51), none⟩]))))
def ir11 : LC := (.seq (.ops [⟨some 4, Op.assign (Operand.const (Value.int IntKind.i64 0)), none⟩,
    ⟨some 5, Op.assign (Operand.const (Value.int IntKind.i64 0)), none⟩])
  (.seq (.block 0 (.seq (.ops [⟨some 9, Op.move (Operand.tmp 0), none⟩,
    ⟨some 10, Op.call { callee := Callee.value (Operand.func 30), args := #[Operand.tmp 9], argTypes := #[23] }, none⟩,
    ⟨some 11, Op.unOp UnOp.not 4 (Operand.tmp 10), none⟩,
    ⟨some 8, Op.assign (Operand.tmp 11), none⟩])
  (.cond (Operand.tmp 8)
  (.seq (.ops [⟨some 4, Op.assign (Operand.const (Value.int IntKind.i64 0)), none⟩,
    ⟨some 5, Op.assign (Operand.const (Value.int IntKind.i64 1)), none⟩])
  .ret)
  (.seq (.ops [⟨some 13, Op.move (Operand.tmp 0), none⟩,
    ⟨some 14, Op.move (Operand.tmp 1), none⟩,
    ⟨some 15, Op.call { callee := Callee.value (Operand.func 31), args := #[Operand.tmp 13, Operand.tmp 14], argTypes := #[23, 3] }, none⟩,
    ⟨some 16, Op.unOp UnOp.not 4 (Operand.tmp 15), none⟩,
    ⟨some 12, Op.assign (Operand.tmp 16), none⟩])
  (.cond (Operand.tmp 12)
  (.seq (.ops [⟨some 4, Op.assign (Operand.const (Value.int IntKind.i64 0)), none⟩,
    ⟨some 5, Op.assign (Operand.const (Value.int IntKind.i64 2)), none⟩])
  .ret)
  (.seq (.draw [⟨some 18, Op.move (Operand.tmp 0), none⟩,
    ⟨some 19, Op.nilCheck (Operand.tmp 18), none⟩,
    ⟨some 20, Op.fieldAddr 61 (Operand.tmp 19) 2, none⟩,
    ⟨some 21, Op.load 49 (Operand.tmp 20), none⟩,
    ⟨some 22, Op.move (Operand.tmp 1), none⟩,
    ⟨some 23, Op.indexAddr 49 (Operand.tmp 21) (Operand.tmp 22), none⟩,
    ⟨some 24, Op.load 3 (Operand.tmp 23), none⟩,
    ⟨some 25, Op.move (Operand.tmp 0), none⟩,
    ⟨some 26, Op.nilCheck (Operand.tmp 25), none⟩,
    ⟨some 27, Op.fieldAddr 61 (Operand.tmp 26) 1, none⟩,
    ⟨some 28, Op.load 49 (Operand.tmp 27), none⟩,
    ⟨some 29, Op.move (Operand.tmp 1), none⟩,
    ⟨some 30, Op.indexAddr 49 (Operand.tmp 28) (Operand.tmp 29), none⟩,
    ⟨some 31, Op.load 3 (Operand.tmp 30), none⟩,
    ⟨some 32, Op.binOp BinOp.eql 3 (Operand.tmp 24) (Operand.tmp 31) 3, none⟩,
    ⟨some 17, Op.assign (Operand.tmp 32), none⟩] [])
  (.cond (Operand.tmp 17)
  (.seq (.ops [⟨some 4, Op.assign (Operand.const (Value.int IntKind.i64 0)), none⟩,
    ⟨some 5, Op.assign (Operand.const (Value.int IntKind.i64 5)), none⟩])
  .ret)
  .skip)))))))
  (.seq (.ops [⟨some 6, Op.assign (Operand.const (Value.int IntKind.i64 0)), none⟩])
  (.seq .skip
  (.seq (.seq (.ops [⟨some 33, Op.move (Operand.tmp 0), none⟩,
    ⟨some 34, Op.nilCheck (Operand.tmp 33), none⟩,
    ⟨some 35, Op.fieldAddr 61 (Operand.tmp 34) 0, none⟩,
    ⟨some 36, Op.load 59 (Operand.tmp 35), none⟩,
    ⟨some 37, Op.call { callee := Callee.builtin Builtin.len, args := #[Operand.tmp 36], argTypes := #[59] }, none⟩,
    ⟨some 38, Op.move (Operand.const (Value.int IntKind.i64 0)), none⟩])
  (.block 1 (.loop ir11_l0)))
  (.seq (.ops [⟨some 52, Op.move (Operand.tmp 0), none⟩,
    ⟨some 53, Op.nilCheck (Operand.tmp 52), none⟩,
    ⟨some 54, Op.fieldAddr 61 (Operand.tmp 53) 0, none⟩,
    ⟨some 55, Op.load 59 (Operand.tmp 54), none⟩,
    ⟨some 56, Op.move (Operand.tmp 6), none⟩,
    ⟨some 57, Op.move (Operand.tmp 1), none⟩,
    ⟨some 58, Op.build 67 #[(0, Operand.tmp 57), (1, Operand.const (Value.int IntKind.i64 1))], none⟩,
    ⟨some 59, Op.indexAddr 59 (Operand.tmp 55) (Operand.tmp 56), none⟩,
    ⟨none, Op.store 67 (Operand.tmp 59) (Operand.tmp 58), none⟩])
  (.seq (.ops [⟨some 60, Op.move (Operand.tmp 0), none⟩,
    ⟨some 61, Op.nilCheck (Operand.tmp 60), none⟩,
    ⟨some 62, Op.fieldAddr 61 (Operand.tmp 61) 2, none⟩,
    ⟨some 63, Op.load 49 (Operand.tmp 62), none⟩,
    ⟨some 64, Op.move (Operand.tmp 1), none⟩,
    ⟨some 65, Op.indexAddr 49 (Operand.tmp 63) (Operand.tmp 64), none⟩,
    ⟨some 66, Op.load 3 (Operand.tmp 65), none⟩,
    ⟨some 67, Op.binOp BinOp.add 3 (Operand.tmp 66) (Operand.const (Value.int IntKind.i64 1)) 3, none⟩,
    ⟨some 68, Op.indexAddr 49 (Operand.tmp 63) (Operand.tmp 64), none⟩,
    ⟨none, Op.store 3 (Operand.tmp 68) (Operand.tmp 67), none⟩])
  (.seq (.ops [⟨some 69, Op.move (Operand.tmp 6), none⟩,
    ⟨some 4, Op.assign (Operand.tmp 69), none⟩,
    ⟨some 5, Op.assign (Operand.const (Value.int IntKind.i64 0)), none⟩])
  .ret))))))))
theorem ir11_eq : (Try.f11.body.map low, Try.f11.ntmps, Try.f11.results.toList) = (some ir11, 70, [.tmp 4, .tmp 5]) := by kernel_rfl
def ir12 : LC := (.seq (.ops [⟨some 4, Op.assign (Operand.const (Value.int IntKind.i64 0)), none⟩])
  (.seq (.ops [⟨some 8, Op.move (Operand.tmp 0), none⟩,
    ⟨some 9, Op.move (Operand.tmp 1), none⟩,
    ⟨some 10, Op.call { callee := Callee.value (Operand.func 32), args := #[Operand.tmp 8, Operand.tmp 9], argTypes := #[23, 3] }, none⟩,
    ⟨some 7, Op.move (Operand.tmp 10), none⟩,
    ⟨some 11, Op.extract (Operand.tmp 7) 0, none⟩,
    ⟨some 12, Op.extract (Operand.tmp 7) 1, none⟩,
    ⟨some 5, Op.assign (Operand.tmp 11), none⟩,
    ⟨some 6, Op.assign (Operand.tmp 12), none⟩])
  (.seq (.block 0 (.seq (.ops [⟨some 14, Op.move (Operand.tmp 6), none⟩,
    ⟨some 15, Op.binOp BinOp.neq 24 (Operand.tmp 14) (Operand.const (Value.int IntKind.i64 0)) 24, none⟩,
    ⟨some 13, Op.assign (Operand.tmp 15), none⟩])
  (.cond (Operand.tmp 13)
  (.seq (.ops [⟨some 16, Op.move (Operand.tmp 6), none⟩,
    ⟨some 4, Op.assign (Operand.tmp 16), none⟩])
  .ret)
  (.seq (.ops [⟨some 18, Op.move (Operand.tmp 5), none⟩,
    ⟨some 19, Op.nilCheck (Operand.tmp 18), none⟩,
    ⟨some 20, Op.fieldAddr 67 (Operand.tmp 19) 1, none⟩,
    ⟨some 21, Op.load 3 (Operand.tmp 20), none⟩,
    ⟨some 22, Op.binOp BinOp.eql 3 (Operand.tmp 21) (Operand.const (Value.int IntKind.i64 65535)) 3, none⟩,
    ⟨some 17, Op.assign (Operand.tmp 22), none⟩])
  (.cond (Operand.tmp 17)
  (.seq (.ops [⟨some 4, Op.assign (Operand.const (Value.int IntKind.i64 5)), none⟩])
  .ret)
  .skip)))))
  (.seq (.ops [⟨some 23, Op.move (Operand.tmp 5), none⟩,
    ⟨some 24, Op.nilCheck (Operand.tmp 23), none⟩,
    ⟨some 25, Op.fieldAddr 67 (Operand.tmp 24) 1, none⟩,
    ⟨some 26, Op.load 3 (Operand.tmp 25), none⟩,
    ⟨some 27, Op.binOp BinOp.add 3 (Operand.tmp 26) (Operand.const (Value.int IntKind.i64 1)) 3, none⟩,
    ⟨some 28, Op.nilCheck (Operand.tmp 23), none⟩,
    ⟨some 29, Op.fieldAddr 67 (Operand.tmp 28) 1, none⟩,
    ⟨none, Op.store 3 (Operand.tmp 29) (Operand.tmp 27), none⟩])
  (.seq (.ops [⟨some 4, Op.assign (Operand.const (Value.int IntKind.i64 0)), none⟩])
  .ret)))))
theorem ir12_eq : (Try.f12.body.map low, Try.f12.ntmps, Try.f12.results.toList) = (some ir12, 30, [.tmp 4]) := by kernel_rfl
def ir13 : LC := (.seq (.ops [⟨some 4, Op.assign (Operand.const (Value.bool false)), none⟩,
    ⟨some 5, Op.assign (Operand.const (Value.int IntKind.i64 0)), none⟩])
  (.seq (.ops [⟨some 9, Op.move (Operand.tmp 0), none⟩,
    ⟨some 10, Op.move (Operand.tmp 1), none⟩,
    ⟨some 11, Op.call { callee := Callee.value (Operand.func 32), args := #[Operand.tmp 9, Operand.tmp 10], argTypes := #[23, 3] }, none⟩,
    ⟨some 8, Op.move (Operand.tmp 11), none⟩,
    ⟨some 12, Op.extract (Operand.tmp 8) 0, none⟩,
    ⟨some 13, Op.extract (Operand.tmp 8) 1, none⟩,
    ⟨some 6, Op.assign (Operand.tmp 12), none⟩,
    ⟨some 7, Op.assign (Operand.tmp 13), none⟩])
  (.seq (.seq (.ops [⟨some 14, Op.move (Operand.tmp 7), none⟩,
    ⟨some 15, Op.binOp BinOp.neq 24 (Operand.tmp 14) (Operand.const (Value.int IntKind.i64 0)) 24, none⟩])
  (.cond (Operand.tmp 15)
  (.seq (.ops [⟨some 16, Op.move (Operand.tmp 7), none⟩,
    ⟨some 4, Op.assign (Operand.const (Value.bool false)), none⟩,
    ⟨some 5, Op.assign (Operand.tmp 16), none⟩])
  .ret)
  .skip))
  (.seq (.seq (.ops [⟨some 17, Op.move (Operand.tmp 6), none⟩,
    ⟨some 18, Op.nilCheck (Operand.tmp 17), none⟩,
    ⟨some 19, Op.fieldAddr 67 (Operand.tmp 18) 1, none⟩,
    ⟨some 20, Op.load 3 (Operand.tmp 19), none⟩,
    ⟨some 21, Op.binOp BinOp.gtr 3 (Operand.tmp 20) (Operand.const (Value.int IntKind.i64 1)) 3, none⟩])
  (.cond (Operand.tmp 21)
  (.seq (.ops [⟨some 22, Op.move (Operand.tmp 6), none⟩,
    ⟨some 23, Op.nilCheck (Operand.tmp 22), none⟩,
    ⟨some 24, Op.fieldAddr 67 (Operand.tmp 23) 1, none⟩,
    ⟨some 25, Op.load 3 (Operand.tmp 24), none⟩,
    ⟨some 26, Op.binOp BinOp.sub 3 (Operand.tmp 25) (Operand.const (Value.int IntKind.i64 1)) 3, none⟩,
    ⟨some 27, Op.nilCheck (Operand.tmp 22), none⟩,
    ⟨some 28, Op.fieldAddr 67 (Operand.tmp 27) 1, none⟩,
    ⟨none, Op.store 3 (Operand.tmp 28) (Operand.tmp 26), none⟩])
  (.seq (.ops [⟨some 4, Op.assign (Operand.const (Value.bool false)), none⟩,
    ⟨some 5, Op.assign (Operand.const (Value.int IntKind.i64 0)), none⟩])
  .ret))
  .skip))
  (.seq (.ops [⟨some 29, Op.move (Operand.tmp 0), none⟩,
    ⟨some 30, Op.move (Operand.tmp 6), none⟩,
    ⟨some 31, Op.call { callee := Callee.value (Operand.func 33), args := #[Operand.tmp 29, Operand.tmp 30], argTypes := #[23, 68] }, none⟩])
  (.seq (.ops [⟨some 4, Op.assign (Operand.const (Value.bool true)), none⟩,
    ⟨some 5, Op.assign (Operand.const (Value.int IntKind.i64 0)), none⟩])
  .ret))))))
theorem ir13_eq : (Try.f13.body.map low, Try.f13.ntmps, Try.f13.results.toList) = (some ir13, 32, [.tmp 4, .tmp 5]) := by kernel_rfl
def ir14_l0 : LC := (.seq (.ops [⟨some 20, Op.binOp BinOp.lss 3 (Operand.tmp 19) (Operand.tmp 18) 3, none⟩])
  (.seq (.cond (Operand.tmp 20)
  .skip
  (.exit 0))
  (.seq (.block 1 (.seq (.ops [⟨some 21, Op.indexAddr 49 (Operand.tmp 17) (Operand.tmp 19), none⟩,
    ⟨some 22, Op.load 3 (Operand.tmp 21), none⟩,
    ⟨some 5, Op.assign (Operand.tmp 22), none⟩])
  (.ops [⟨some 23, Op.move (Operand.tmp 3), none⟩,
    ⟨some 24, Op.move (Operand.tmp 5), none⟩,
    ⟨some 25, Op.binOp BinOp.sub 3 (Operand.tmp 23) (Operand.tmp 24) 3, none⟩,
    ⟨some 3, Op.assign (Operand.tmp 25), none⟩])))
  (.ops [⟨some 26, Op.binOp BinOp.add 3 (Operand.tmp 19) (Operand.const (Value.int IntKind.i64 1)) 3, none⟩,
    ⟨some 19, Op.move (Operand.tmp 26), none⟩]))))
def ir14 : LC := (.seq (.ops [⟨some 2, Op.assign (Operand.const (Value.int IntKind.i64 0)), none⟩])
  (.seq (.seq (.ops [⟨some 6, Op.move (Operand.tmp 0), none⟩,
    ⟨some 7, Op.call { callee := Callee.value (Operand.func 30), args := #[Operand.tmp 6], argTypes := #[23] }, none⟩,
    ⟨some 8, Op.unOp UnOp.not 4 (Operand.tmp 7), none⟩])
  (.cond (Operand.tmp 8)
  (.seq (.ops [⟨some 2, Op.assign (Operand.const (Value.int IntKind.i64 0)), none⟩])
  .ret)
  .skip))
  (.seq (.ops [⟨some 9, Op.move (Operand.tmp 0), none⟩,
    ⟨some 10, Op.nilCheck (Operand.tmp 9), none⟩,
    ⟨some 11, Op.fieldAddr 61 (Operand.tmp 10) 0, none⟩,
    ⟨some 12, Op.load 59 (Operand.tmp 11), none⟩,
    ⟨some 13, Op.call { callee := Callee.builtin Builtin.len, args := #[Operand.tmp 12], argTypes := #[59] }, none⟩,
    ⟨some 3, Op.assign (Operand.tmp 13), none⟩])
  (.seq (.seq (.ops [⟨some 14, Op.move (Operand.tmp 0), none⟩,
    ⟨some 15, Op.nilCheck (Operand.tmp 14), none⟩,
    ⟨some 16, Op.fieldAddr 61 (Operand.tmp 15) 2, none⟩,
    ⟨some 17, Op.load 49 (Operand.tmp 16), none⟩,
    ⟨some 18, Op.call { callee := Callee.builtin Builtin.len, args := #[Operand.tmp 17], argTypes := #[49] }, none⟩,
    ⟨some 19, Op.move (Operand.const (Value.int IntKind.i64 0)), none⟩])
  (.block 0 (.loop ir14_l0)))
  (.seq (.ops [⟨some 27, Op.move (Operand.tmp 3), none⟩,
    ⟨some 2, Op.assign (Operand.tmp 27), none⟩])
  .ret)))))
theorem ir14_eq : (Try.f14.body.map low, Try.f14.ntmps, Try.f14.results.toList) = (some ir14, 28, [.tmp 2]) := by kernel_rfl
def ir15 : LC := (.seq (.ops [⟨some 4, Op.assign (Operand.const (Value.slice none 0 0)), none⟩,
    ⟨some 5, Op.assign (Operand.const (Value.int IntKind.i64 0)), none⟩])
  (.seq (.ops [⟨some 9, Op.move (Operand.tmp 0), none⟩,
    ⟨some 10, Op.move (Operand.tmp 1), none⟩,
    ⟨some 11, Op.call { callee := Callee.value (Operand.func 32), args := #[Operand.tmp 9, Operand.tmp 10], argTypes := #[23, 3] }, none⟩,
    ⟨some 8, Op.move (Operand.tmp 11), none⟩,
    ⟨some 12, Op.extract (Operand.tmp 8) 0, none⟩,
    ⟨some 13, Op.extract (Operand.tmp 8) 1, none⟩,
    ⟨some 6, Op.assign (Operand.tmp 12), none⟩,
    ⟨some 7, Op.assign (Operand.tmp 13), none⟩])
  (.seq (.seq (.ops [⟨some 14, Op.move (Operand.tmp 7), none⟩,
    ⟨some 15, Op.binOp BinOp.neq 24 (Operand.tmp 14) (Operand.const (Value.int IntKind.i64 0)) 24, none⟩])
  (.cond (Operand.tmp 15)
  (.seq (.ops [⟨some 16, Op.move (Operand.tmp 7), none⟩,
    ⟨some 4, Op.assign (Operand.const (Value.slice none 0 0)), none⟩,
    ⟨some 5, Op.assign (Operand.tmp 16), none⟩])
  .ret)
  .skip))
  (.seq (.ops [⟨some 17, Op.move (Operand.tmp 6), none⟩,
    ⟨some 18, Op.nilCheck (Operand.tmp 17), none⟩,
    ⟨some 19, Op.fieldAddr 67 (Operand.tmp 18) 2, none⟩,
    ⟨some 20, Op.slice 65 (Operand.tmp 19) none none none, none⟩,
    ⟨some 21, Op.call { callee := Callee.value (Operand.func 34), args := #[Operand.tmp 20], argTypes := #[35] }, none⟩,
    ⟨some 4, Op.assign (Operand.tmp 21), none⟩,
    ⟨some 5, Op.assign (Operand.const (Value.int IntKind.i64 0)), none⟩])
  .ret))))
theorem ir15_eq : (Try.f15.body.map low, Try.f15.ntmps, Try.f15.results.toList) = (some ir15, 22, [.tmp 4, .tmp 5]) := by kernel_rfl
def ir16_l0 : LC := (.seq (.seq (.ops [⟨some 4, Op.move (Operand.tmp 3), none⟩,
    ⟨some 5, Op.move (Operand.tmp 0), none⟩,
    ⟨some 6, Op.call { callee := Callee.builtin Builtin.len, args := #[Operand.tmp 5], argTypes := #[35] }, none⟩,
    ⟨some 7, Op.binOp BinOp.lss 3 (Operand.tmp 4) (Operand.tmp 6) 3, none⟩])
  (.cond (Operand.tmp 7)
  .skip
  (.exit 0)))
  (.seq (.block 1 (.seq (.ops [⟨some 10, Op.move (Operand.tmp 0), none⟩,
    ⟨some 11, Op.move (Operand.tmp 3), none⟩,
    ⟨some 12, Op.indexAddr 35 (Operand.tmp 10) (Operand.tmp 11), none⟩,
    ⟨some 13, Op.load 5 (Operand.tmp 12), none⟩,
    ⟨some 14, Op.binOp BinOp.neq 5 (Operand.tmp 13) (Operand.const (Value.int IntKind.u8 0)) 5, none⟩])
  (.cond (Operand.tmp 14)
  (.seq (.ops [⟨some 2, Op.assign (Operand.const (Value.bool false)), none⟩])
  .ret)
  .skip)))
  (.ops [⟨some 8, Op.move (Operand.tmp 3), none⟩,
    ⟨some 9, Op.binOp BinOp.add 3 (Operand.tmp 8) (Operand.const (Value.int IntKind.i64 1)) 3, none⟩,
    ⟨some 3, Op.assign (Operand.tmp 9), none⟩])))
def ir16 : LC := (.seq (.ops [⟨some 2, Op.assign (Operand.const (Value.bool false)), none⟩])
  (.seq (.seq (.ops [⟨some 3, Op.assign (Operand.const (Value.int IntKind.i64 0)), none⟩])
  (.block 0 (.loop ir16_l0)))
  (.seq (.ops [⟨some 2, Op.assign (Operand.const (Value.bool true)), none⟩])
  .ret)))
theorem ir16_eq : (Try.f16.body.map low, Try.f16.ntmps, Try.f16.results.toList) = (some ir16, 15, [.tmp 2]) := by kernel_rfl
def ir17 : LC := (.seq (.ops [⟨some 8, Op.assign (Operand.const (Value.int IntKind.i64 0)), none⟩])
  (.seq (.seq (.ops [⟨some 11, Op.move (Operand.tmp 0), none⟩,
    ⟨some 12, Op.call { callee := Callee.value (Operand.func 30), args := #[Operand.tmp 11], argTypes := #[23] }, none⟩,
    ⟨some 13, Op.move (Operand.tmp 12), none⟩,
    ⟨some 14, Op.move (Operand.tmp 2), some (13, true)⟩,
    ⟨some 15, Op.call { callee := Callee.value (Operand.func 35), args := #[Operand.tmp 14], argTypes := #[3] }, some (13, true)⟩,
    ⟨some 16, Op.unOp UnOp.not 4 (Operand.tmp 15), some (13, true)⟩,
    ⟨some 17, Op.move (Operand.tmp 16), some (13, true)⟩,
    ⟨some 18, Op.move (Operand.tmp 3), some (17, false)⟩,
    ⟨some 19, Op.call { callee := Callee.builtin Builtin.len, args := #[Operand.tmp 18], argTypes := #[35] }, some (17, false)⟩,
    ⟨some 20, Op.move (Operand.tmp 2), some (17, false)⟩,
    ⟨some 21, Op.binOp BinOp.sub 3 (Operand.const (Value.int IntKind.i64 256)) (Operand.tmp 20) 3, some (17, false)⟩,
    ⟨some 22, Op.binOp BinOp.gtr 3 (Operand.tmp 19) (Operand.tmp 21) 3, some (17, false)⟩,
    ⟨some 23, Op.pick (Operand.tmp 17) (Operand.const (Value.bool true)) (Operand.tmp 22), some (13, true)⟩,
    ⟨some 24, Op.pick (Operand.tmp 13) (Operand.tmp 23) (Operand.const (Value.bool false)), none⟩])
  (.cond (Operand.tmp 24)
  (.seq (.ops [⟨some 8, Op.assign (Operand.const (Value.int IntKind.i64 2)), none⟩])
  .ret)
  .skip))
  (.seq (.ops [⟨some 26, Op.move (Operand.tmp 0), none⟩,
    ⟨some 27, Op.move (Operand.tmp 1), none⟩,
    ⟨some 28, Op.call { callee := Callee.value (Operand.func 32), args := #[Operand.tmp 26, Operand.tmp 27], argTypes := #[23, 3] }, none⟩,
    ⟨some 25, Op.move (Operand.tmp 28), none⟩,
    ⟨some 29, Op.extract (Operand.tmp 25) 0, none⟩,
    ⟨some 30, Op.extract (Operand.tmp 25) 1, none⟩,
    ⟨some 9, Op.assign (Operand.tmp 29), none⟩,
    ⟨some 10, Op.assign (Operand.tmp 30), none⟩])
  (.seq (.seq (.ops [⟨some 31, Op.move (Operand.tmp 10), none⟩,
    ⟨some 32, Op.binOp BinOp.neq 24 (Operand.tmp 31) (Operand.const (Value.int IntKind.i64 0)) 24, none⟩])
  (.cond (Operand.tmp 32)
  (.seq (.ops [⟨some 33, Op.move (Operand.tmp 10), none⟩,
    ⟨some 8, Op.assign (Operand.tmp 33), none⟩])
  .ret)
  .skip))
  (.seq (.ops [⟨some 34, Op.move (Operand.tmp 9), none⟩,
    ⟨some 35, Op.nilCheck (Operand.tmp 34), none⟩,
    ⟨some 36, Op.fieldAddr 67 (Operand.tmp 35) 2, none⟩,
    ⟨some 37, Op.move (Operand.tmp 2), none⟩,
    ⟨some 38, Op.slice 65 (Operand.tmp 36) (some (Operand.tmp 37)) none none, none⟩,
    ⟨some 39, Op.move (Operand.tmp 3), none⟩,
    ⟨some 40, Op.call { callee := Callee.builtin Builtin.copy, args := #[Operand.tmp 38, Operand.tmp 39], argTypes := #[35, 35] }, none⟩])
  (.seq (.ops [⟨some 8, Op.assign (Operand.const (Value.int IntKind.i64 0)), none⟩])
  .ret))))))
theorem ir17_eq : (Try.f17.body.map low, Try.f17.ntmps, Try.f17.results.toList) = (some ir17, 41, [.tmp 8]) := by kernel_rfl
def ir18 : LC := (.seq (.ops [⟨some 6, Op.assign (Operand.const (Value.int IntKind.u8 0)), none⟩,
    ⟨some 7, Op.assign (Operand.const (Value.int IntKind.i64 0)), none⟩])
  (.seq (.seq (.ops [⟨some 10, Op.move (Operand.tmp 0), none⟩,
    ⟨some 11, Op.call { callee := Callee.value (Operand.func 30), args := #[Operand.tmp 10], argTypes := #[23] }, none⟩,
    ⟨some 12, Op.move (Operand.tmp 11), none⟩,
    ⟨some 13, Op.move (Operand.tmp 2), some (12, true)⟩,
    ⟨some 14, Op.call { callee := Callee.value (Operand.func 35), args := #[Operand.tmp 13], argTypes := #[3] }, some (12, true)⟩,
    ⟨some 15, Op.unOp UnOp.not 4 (Operand.tmp 14), some (12, true)⟩,
    ⟨some 16, Op.pick (Operand.tmp 12) (Operand.tmp 15) (Operand.const (Value.bool false)), none⟩])
  (.cond (Operand.tmp 16)
  (.seq (.ops [⟨some 6, Op.assign (Operand.const (Value.int IntKind.u8 0)), none⟩,
    ⟨some 7, Op.assign (Operand.const (Value.int IntKind.i64 2)), none⟩])
  .ret)
  .skip))
  (.seq (.ops [⟨some 18, Op.move (Operand.tmp 0), none⟩,
    ⟨some 19, Op.move (Operand.tmp 1), none⟩,
    ⟨some 20, Op.call { callee := Callee.value (Operand.func 32), args := #[Operand.tmp 18, Operand.tmp 19], argTypes := #[23, 3] }, none⟩,
    ⟨some 17, Op.move (Operand.tmp 20), none⟩,
    ⟨some 21, Op.extract (Operand.tmp 17) 0, none⟩,
    ⟨some 22, Op.extract (Operand.tmp 17) 1, none⟩,
    ⟨some 8, Op.assign (Operand.tmp 21), none⟩,
    ⟨some 9, Op.assign (Operand.tmp 22), none⟩])
  (.seq (.seq (.ops [⟨some 23, Op.move (Operand.tmp 9), none⟩,
    ⟨some 24, Op.binOp BinOp.neq 24 (Operand.tmp 23) (Operand.const (Value.int IntKind.i64 0)) 24, none⟩])
  (.cond (Operand.tmp 24)
  (.seq (.ops [⟨some 25, Op.move (Operand.tmp 9), none⟩,
    ⟨some 6, Op.assign (Operand.const (Value.int IntKind.u8 0)), none⟩,
    ⟨some 7, Op.assign (Operand.tmp 25), none⟩])
  .ret)
  .skip))
  (.seq (.ops [⟨some 26, Op.move (Operand.tmp 8), none⟩,
    ⟨some 27, Op.move (Operand.tmp 2), none⟩,
    ⟨some 28, Op.nilCheck (Operand.tmp 26), none⟩,
    ⟨some 29, Op.fieldAddr 67 (Operand.tmp 28) 2, none⟩,
    ⟨some 30, Op.indexAddr 65 (Operand.tmp 29) (Operand.tmp 27), none⟩,
    ⟨some 31, Op.load 5 (Operand.tmp 30), none⟩,
    ⟨some 6, Op.assign (Operand.tmp 31), none⟩,
    ⟨some 7, Op.assign (Operand.const (Value.int IntKind.i64 0)), none⟩])
  .ret)))))
theorem ir18_eq : (Try.f18.body.map low, Try.f18.ntmps, Try.f18.results.toList) = (some ir18, 32, [.tmp 6, .tmp 7]) := by kernel_rfl
def ir19 : LC := (.seq (.ops [⟨some 4, Op.alloc 46, none⟩,
    ⟨some 5, Op.assign (Operand.const (Value.int IntKind.i64 0)), none⟩])
  (.seq (.ops [⟨some 9, Op.move (Operand.tmp 0), none⟩,
    ⟨some 10, Op.move (Operand.tmp 1), none⟩,
    ⟨some 11, Op.call { callee := Callee.value (Operand.func 32), args := #[Operand.tmp 9, Operand.tmp 10], argTypes := #[23, 3] }, none⟩,
    ⟨some 8, Op.move (Operand.tmp 11), none⟩,
    ⟨some 12, Op.extract (Operand.tmp 8) 0, none⟩,
    ⟨some 13, Op.extract (Operand.tmp 8) 1, none⟩,
    ⟨some 6, Op.assign (Operand.tmp 12), none⟩,
    ⟨some 7, Op.assign (Operand.tmp 13), none⟩])
  (.seq (.seq (.ops [⟨some 14, Op.move (Operand.tmp 7), none⟩,
    ⟨some 15, Op.binOp BinOp.neq 24 (Operand.tmp 14) (Operand.const (Value.int IntKind.i64 0)) 24, none⟩])
  (.cond (Operand.tmp 15)
  (.seq (.ops [⟨some 16, Op.build 46 #[], none⟩,
    ⟨some 17, Op.move (Operand.tmp 7), none⟩,
    ⟨none, Op.store 46 (Operand.tmp 4) (Operand.tmp 16), none⟩,
    ⟨some 5, Op.assign (Operand.tmp 17), none⟩])
  .ret)
  .skip))
  (.seq (.draw [⟨some 18, Op.move (Operand.tmp 1), none⟩,
    ⟨some 19, Op.move (Operand.tmp 6), none⟩,
    ⟨some 20, Op.nilCheck (Operand.tmp 19), none⟩,
    ⟨some 21, Op.fieldAddr 67 (Operand.tmp 20) 0, none⟩,
    ⟨some 22, Op.load 3 (Operand.tmp 21), none⟩,
    ⟨some 23, Op.move (Operand.tmp 6), none⟩,
    ⟨some 24, Op.nilCheck (Operand.tmp 23), none⟩,
    ⟨some 25, Op.fieldAddr 67 (Operand.tmp 24) 1, none⟩,
    ⟨some 26, Op.load 3 (Operand.tmp 25), none⟩,
    ⟨some 27, Op.build 46 #[(0, Operand.tmp 18), (1, Operand.tmp 22), (2, Operand.tmp 26)], none⟩,
    ⟨none, Op.store 46 (Operand.tmp 4) (Operand.tmp 27), none⟩,
    ⟨some 5, Op.assign (Operand.const (Value.int IntKind.i64 0)), none⟩] [])
  .ret))))
theorem ir19_eq : (Try.f19.body.map low, Try.f19.ntmps, Try.f19.results.toList) = (some ir19, 28, [.cell 4 46, .tmp 5]) := by kernel_rfl
def ir20 : LC := (.seq (.ops [⟨some 4, Op.assign (Operand.const (Value.int IntKind.i64 0)), none⟩])
  (.seq (.seq (.ops [⟨some 5, Op.move (Operand.tmp 0), none⟩,
    ⟨some 6, Op.call { callee := Callee.value (Operand.func 30), args := #[Operand.tmp 5], argTypes := #[23] }, none⟩,
    ⟨some 7, Op.unOp UnOp.not 4 (Operand.tmp 6), none⟩,
    ⟨some 8, Op.move (Operand.tmp 7), none⟩,
    ⟨some 9, Op.move (Operand.tmp 0), some (8, false)⟩,
    ⟨some 10, Op.move (Operand.tmp 1), some (8, false)⟩,
    ⟨some 11, Op.call { callee := Callee.value (Operand.func 31), args := #[Operand.tmp 9, Operand.tmp 10], argTypes := #[23, 3] }, some (8, false)⟩,
    ⟨some 12, Op.unOp UnOp.not 4 (Operand.tmp 11), some (8, false)⟩,
    ⟨some 13, Op.pick (Operand.tmp 8) (Operand.const (Value.bool true)) (Operand.tmp 12), none⟩])
  (.cond (Operand.tmp 13)
  (.seq (.ops [⟨some 4, Op.assign (Operand.const (Value.int IntKind.i64 0)), none⟩])
  .ret)
  .skip))
  (.seq (.ops [⟨some 14, Op.move (Operand.tmp 0), none⟩,
    ⟨some 15, Op.nilCheck (Operand.tmp 14), none⟩,
    ⟨some 16, Op.fieldAddr 61 (Operand.tmp 15) 2, none⟩,
    ⟨some 17, Op.load 49 (Operand.tmp 16), none⟩,
    ⟨some 18, Op.move (Operand.tmp 1), none⟩,
    ⟨some 19, Op.indexAddr 49 (Operand.tmp 17) (Operand.tmp 18), none⟩,
    ⟨some 20, Op.load 3 (Operand.tmp 19), none⟩,
    ⟨some 4, Op.assign (Operand.tmp 20), none⟩])
  .ret)))
theorem ir20_eq : (Try.f20.body.map low, Try.f20.ntmps, Try.f20.results.toList) = (some ir20, 21, [.tmp 4]) := by kernel_rfl
noncomputable def rc21 (i : Nat) : Code × Code := (((Try.f21.body.map rangesOf).getD [])[i]?).getD (.skip, .skip)
noncomputable def ir21_a0 : LC := (.ops [⟨some 7, Op.alloc 46, none⟩,
    ⟨none, Op.store 46 (Operand.tmp 7) (Operand.tmp 19), none⟩])
noncomputable def ir21_b0 : LC := (.block 2 (.seq (.ops [⟨some 20, Op.fieldAddr 46 (Operand.tmp 7) 1, none⟩,
    ⟨some 21, Op.load 3 (Operand.tmp 20), none⟩,
    ⟨some 22, Op.load 3 (Operand.tmp 3), none⟩,
    ⟨some 23, Op.binOp BinOp.eql 3 (Operand.tmp 21) (Operand.tmp 22) 3, none⟩])
  (.cond (Operand.tmp 23)
  (.seq (.draw [⟨some 24, Op.load 23 (Operand.tmp 2), none⟩,
    ⟨some 25, Op.load 23 (Operand.tmp 2), none⟩,
    ⟨some 26, Op.nilCheck (Operand.tmp 25), none⟩,
    ⟨some 27, Op.fieldAddr 61 (Operand.tmp 26) 0, none⟩,
    ⟨some 28, Op.load 59 (Operand.tmp 27), none⟩,
    ⟨some 29, Op.fieldAddr 46 (Operand.tmp 7) 0, none⟩,
    ⟨some 30, Op.load 3 (Operand.tmp 29), none⟩,
    ⟨some 31, Op.indexAddr 59 (Operand.tmp 28) (Operand.tmp 30), none⟩,
    ⟨some 32, Op.call { callee := Callee.value (Operand.func 33), args := #[Operand.tmp 24, Operand.tmp 31], argTypes := #[23, 68] }, none⟩] [])
  (.ops [⟨some 33, Op.load 3 (Operand.tmp 6), none⟩,
    ⟨some 34, Op.binOp BinOp.add 3 (Operand.tmp 33) (Operand.const (Value.int IntKind.i64 1)) 3, none⟩,
    ⟨none, Op.store 3 (Operand.tmp 6) (Operand.tmp 34), none⟩]))
  .skip)))
theorem ir21_a0_eq : low (rc21 0).1 = ir21_a0 := by kernel_rfl
theorem ir21_b0_eq : low (rc21 0).2 = ir21_b0 := by kernel_rfl
noncomputable def ir21 : LC := (.seq (.ops [⟨some 2, Op.box 23 (Operand.tmp 0), none⟩,
    ⟨some 3, Op.box 3 (Operand.tmp 1), none⟩,
    ⟨some 4, Op.assign (Operand.const (Value.int IntKind.i64 0)), none⟩,
    ⟨some 5, Op.assign (Operand.const (Value.int IntKind.i64 0)), none⟩])
  (.seq (.block 0 (.seq (.ops [⟨some 9, Op.load 23 (Operand.tmp 2), none⟩,
    ⟨some 10, Op.call { callee := Callee.value (Operand.func 30), args := #[Operand.tmp 9], argTypes := #[23] }, none⟩,
    ⟨some 11, Op.unOp UnOp.not 4 (Operand.tmp 10), none⟩,
    ⟨some 8, Op.assign (Operand.tmp 11), none⟩])
  (.cond (Operand.tmp 8)
  (.seq (.ops [⟨some 4, Op.assign (Operand.const (Value.int IntKind.i64 0)), none⟩,
    ⟨some 5, Op.assign (Operand.const (Value.int IntKind.i64 1)), none⟩])
  .ret)
  (.seq (.ops [⟨some 13, Op.load 23 (Operand.tmp 2), none⟩,
    ⟨some 14, Op.load 3 (Operand.tmp 3), none⟩,
    ⟨some 15, Op.call { callee := Callee.value (Operand.func 31), args := #[Operand.tmp 13, Operand.tmp 14], argTypes := #[23, 3] }, none⟩,
    ⟨some 16, Op.unOp UnOp.not 4 (Operand.tmp 15), none⟩,
    ⟨some 12, Op.assign (Operand.tmp 16), none⟩])
  (.cond (Operand.tmp 12)
  (.seq (.ops [⟨some 4, Op.assign (Operand.const (Value.int IntKind.i64 0)), none⟩,
    ⟨some 5, Op.assign (Operand.const (Value.int IntKind.i64 2)), none⟩])
  .ret)
  .skip)))))
  (.seq (.ops [⟨some 6, Op.alloc 3, none⟩,
    ⟨none, Op.store 3 (Operand.tmp 6) (Operand.const (Value.int IntKind.i64 0)), none⟩])
  (.seq (.seq (.ops [⟨some 17, Op.load 23 (Operand.tmp 2), none⟩,
    ⟨some 18, Op.call { callee := Callee.value (Operand.func 36), args := #[Operand.tmp 17], argTypes := #[23] }, none⟩])
  (.block 1 (.range (Operand.tmp 18) #[19] (rc21 0).1 (rc21 0).2)))
  (.seq (.ops [⟨some 35, Op.load 3 (Operand.tmp 6), none⟩,
    ⟨some 4, Op.assign (Operand.tmp 35), none⟩,
    ⟨some 5, Op.assign (Operand.const (Value.int IntKind.i64 0)), none⟩])
  .ret)))))
theorem ir21_eq : (Try.f21.body.map low, Try.f21.ntmps, Try.f21.results.toList) = (some ir21, 36, [.tmp 4, .tmp 5]) := by kernel_rfl
def ir22 : LC := (.seq (.ops [⟨some 4, Op.assign (Operand.const (Value.int IntKind.i64 0)), none⟩])
  (.seq (.seq (.ops [⟨some 5, Op.move (Operand.tmp 0), none⟩,
    ⟨some 6, Op.call { callee := Callee.value (Operand.func 30), args := #[Operand.tmp 5], argTypes := #[23] }, none⟩,
    ⟨some 7, Op.unOp UnOp.not 4 (Operand.tmp 6), none⟩,
    ⟨some 8, Op.move (Operand.tmp 7), none⟩,
    ⟨some 9, Op.move (Operand.tmp 0), some (8, false)⟩,
    ⟨some 10, Op.move (Operand.tmp 1), some (8, false)⟩,
    ⟨some 11, Op.call { callee := Callee.value (Operand.func 31), args := #[Operand.tmp 9, Operand.tmp 10], argTypes := #[23, 3] }, some (8, false)⟩,
    ⟨some 12, Op.unOp UnOp.not 4 (Operand.tmp 11), some (8, false)⟩,
    ⟨some 13, Op.pick (Operand.tmp 8) (Operand.const (Value.bool true)) (Operand.tmp 12), none⟩])
  (.cond (Operand.tmp 13)
  (.seq (.ops [⟨some 4, Op.assign (Operand.const (Value.int IntKind.i64 0)), none⟩])
  .ret)
  .skip))
  (.seq (.ops [⟨some 14, Op.move (Operand.tmp 0), none⟩,
    ⟨some 15, Op.nilCheck (Operand.tmp 14), none⟩,
    ⟨some 16, Op.fieldAddr 61 (Operand.tmp 15) 1, none⟩,
    ⟨some 17, Op.load 49 (Operand.tmp 16), none⟩,
    ⟨some 18, Op.move (Operand.tmp 1), none⟩,
    ⟨some 19, Op.indexAddr 49 (Operand.tmp 17) (Operand.tmp 18), none⟩,
    ⟨some 20, Op.load 3 (Operand.tmp 19), none⟩,
    ⟨some 4, Op.assign (Operand.tmp 20), none⟩])
  .ret)))
theorem ir22_eq : (Try.f22.body.map low, Try.f22.ntmps, Try.f22.results.toList) = (some ir22, 21, [.tmp 4]) := by kernel_rfl
def ir23_l0 : LC := (.seq (.seq (.ops [⟨some 24, Op.move (Operand.tmp 6), none⟩,
    ⟨some 25, Op.move (Operand.tmp 1), none⟩,
    ⟨some 26, Op.call { callee := Callee.builtin Builtin.len, args := #[Operand.tmp 25], argTypes := #[49] }, none⟩,
    ⟨some 27, Op.binOp BinOp.lss 3 (Operand.tmp 24) (Operand.tmp 26) 3, none⟩])
  (.cond (Operand.tmp 27)
  .skip
  (.exit 0)))
  (.seq (.block 1 (.seq (.seq (.ops [⟨some 30, Op.move (Operand.tmp 1), none⟩,
    ⟨some 31, Op.move (Operand.tmp 6), none⟩,
    ⟨some 32, Op.indexAddr 49 (Operand.tmp 30) (Operand.tmp 31), none⟩,
    ⟨some 33, Op.load 3 (Operand.tmp 32), none⟩,
    ⟨some 34, Op.binOp BinOp.lss 3 (Operand.tmp 33) (Operand.const (Value.int IntKind.i64 0)) 3, none⟩,
    ⟨some 35, Op.move (Operand.tmp 34), none⟩,
    ⟨some 36, Op.move (Operand.tmp 1), some (35, false)⟩,
    ⟨some 37, Op.move (Operand.tmp 6), some (35, false)⟩,
    ⟨some 38, Op.indexAddr 49 (Operand.tmp 36) (Operand.tmp 37), some (35, false)⟩,
    ⟨some 39, Op.load 3 (Operand.tmp 38), some (35, false)⟩,
    ⟨some 40, Op.move (Operand.tmp 5), some (35, false)⟩,
    ⟨some 41, Op.binOp BinOp.gtr 3 (Operand.tmp 39) (Operand.tmp 40) 3, some (35, false)⟩,
    ⟨some 42, Op.pick (Operand.tmp 35) (Operand.const (Value.bool true)) (Operand.tmp 41), none⟩])
  (.cond (Operand.tmp 42)
  (.seq (.ops [⟨some 4, Op.assign (Operand.const (Value.pointer none)), none⟩])
  .ret)
  .skip))
  (.ops [⟨some 43, Op.move (Operand.tmp 5), none⟩,
    ⟨some 44, Op.move (Operand.tmp 1), none⟩,
    ⟨some 45, Op.move (Operand.tmp 6), none⟩,
    ⟨some 46, Op.indexAddr 49 (Operand.tmp 44) (Operand.tmp 45), none⟩,
    ⟨some 47, Op.load 3 (Operand.tmp 46), none⟩,
    ⟨some 48, Op.binOp BinOp.sub 3 (Operand.tmp 43) (Operand.tmp 47) 3, none⟩,
    ⟨some 5, Op.assign (Operand.tmp 48), none⟩])))
  (.ops [⟨some 28, Op.move (Operand.tmp 6), none⟩,
    ⟨some 29, Op.binOp BinOp.add 3 (Operand.tmp 28) (Operand.const (Value.int IntKind.i64 1)) 3, none⟩,
    ⟨some 6, Op.assign (Operand.tmp 29), none⟩])))
def ir23 : LC := (.seq (.ops [⟨some 4, Op.assign (Operand.const (Value.pointer none)), none⟩])
  (.seq (.seq (.ops [⟨some 7, Op.move (Operand.tmp 0), none⟩,
    ⟨some 8, Op.binOp BinOp.lss 3 (Operand.tmp 7) (Operand.const (Value.int IntKind.i64 1)) 3, none⟩,
    ⟨some 9, Op.move (Operand.tmp 8), none⟩,
    ⟨some 10, Op.move (Operand.tmp 0), some (9, false)⟩,
    ⟨some 11, Op.binOp BinOp.gtr 3 (Operand.tmp 10) (Operand.const (Value.int IntKind.i64 256)) 3, some (9, false)⟩,
    ⟨some 12, Op.pick (Operand.tmp 9) (Operand.const (Value.bool true)) (Operand.tmp 11), none⟩,
    ⟨some 13, Op.move (Operand.tmp 12), none⟩,
    ⟨some 14, Op.move (Operand.tmp 1), some (13, false)⟩,
    ⟨some 15, Op.call { callee := Callee.builtin Builtin.len, args := #[Operand.tmp 14], argTypes := #[49] }, some (13, false)⟩,
    ⟨some 16, Op.binOp BinOp.lss 3 (Operand.tmp 15) (Operand.const (Value.int IntKind.i64 1)) 3, some (13, false)⟩,
    ⟨some 17, Op.pick (Operand.tmp 13) (Operand.const (Value.bool true)) (Operand.tmp 16), none⟩,
    ⟨some 18, Op.move (Operand.tmp 17), none⟩,
    ⟨some 19, Op.move (Operand.tmp 1), some (18, false)⟩,
    ⟨some 20, Op.call { callee := Callee.builtin Builtin.len, args := #[Operand.tmp 19], argTypes := #[49] }, some (18, false)⟩,
    ⟨some 21, Op.binOp BinOp.gtr 3 (Operand.tmp 20) (Operand.const (Value.int IntKind.i64 8)) 3, some (18, false)⟩,
    ⟨some 22, Op.pick (Operand.tmp 18) (Operand.const (Value.bool true)) (Operand.tmp 21), none⟩])
  (.cond (Operand.tmp 22)
  (.seq (.ops [⟨some 4, Op.assign (Operand.const (Value.pointer none)), none⟩])
  .ret)
  .skip))
  (.seq (.ops [⟨some 23, Op.move (Operand.tmp 0), none⟩,
    ⟨some 5, Op.assign (Operand.tmp 23), none⟩])
  (.seq (.seq (.ops [⟨some 6, Op.assign (Operand.const (Value.int IntKind.i64 0)), none⟩])
  (.block 0 (.loop ir23_l0)))
  (.seq (.draw [⟨some 49, Op.move (Operand.tmp 0), none⟩,
    ⟨some 50, Op.makeSlice 76 (Operand.tmp 49) (Operand.tmp 49), none⟩,
    ⟨some 51, Op.move (Operand.tmp 1), none⟩,
    ⟨some 52, Op.call { callee := Callee.builtin Builtin.append, args := #[Operand.const (Value.slice none 0 0), Operand.tmp 51], argTypes := #[49, 49] }, none⟩,
    ⟨some 53, Op.build 78 #[(0, Operand.tmp 50), (1, Operand.tmp 52)], none⟩,
    ⟨some 54, Op.box 78 (Operand.tmp 53), none⟩,
    ⟨some 4, Op.assign (Operand.tmp 54), none⟩] [(1, 2), (0, 3), (1, 3)])
  .ret)))))
theorem ir23_eq : (Try.f23.body.map low, Try.f23.ntmps, Try.f23.results.toList) = (some ir23, 55, [.tmp 4]) := by kernel_rfl
noncomputable def rc24 (i : Nat) : Code × Code := (((Try.f24.body.map rangesOf).getD [])[i]?).getD (.skip, .skip)
noncomputable def ir24_l0 : LC := (.seq (.seq (.ops [⟨some 13, Op.move (Operand.tmp 7), none⟩,
    ⟨some 14, Op.binOp BinOp.leq 3 (Operand.tmp 13) (Operand.const (Value.int IntKind.i64 8)) 3, none⟩])
  (.cond (Operand.tmp 14)
  .skip
  (.exit 0)))
  (.seq (.block 1 (.seq (.draw [⟨some 17, Op.move (Operand.tmp 0), none⟩,
    ⟨some 18, Op.move (Operand.tmp 7), none⟩,
    ⟨some 19, Op.call { callee := Callee.value (Operand.func 20), args := #[Operand.tmp 17, Operand.tmp 18], argTypes := #[23, 3] }, none⟩,
    ⟨some 20, Op.load 52 (Operand.tmp 4), none⟩,
    ⟨some 21, Op.move (Operand.tmp 7), none⟩,
    ⟨some 22, Op.call { callee := Callee.value (Operand.func 37), args := #[Operand.tmp 20, Operand.tmp 21], argTypes := #[52, 3] }, none⟩,
    ⟨some 23, Op.binOp BinOp.neq 3 (Operand.tmp 19) (Operand.tmp 22) 3, none⟩,
    ⟨some 24, Op.move (Operand.tmp 23), none⟩,
    ⟨some 25, Op.move (Operand.tmp 0), some (24, false)⟩,
    ⟨some 26, Op.move (Operand.tmp 7), some (24, false)⟩,
    ⟨some 27, Op.call { callee := Callee.value (Operand.func 22), args := #[Operand.tmp 25, Operand.tmp 26], argTypes := #[23, 3] }, some (24, false)⟩,
    ⟨some 28, Op.load 52 (Operand.tmp 4), some (24, false)⟩,
    ⟨some 29, Op.move (Operand.tmp 7), some (24, false)⟩,
    ⟨some 30, Op.call { callee := Callee.value (Operand.func 38), args := #[Operand.tmp 28, Operand.tmp 29], argTypes := #[52, 3] }, some (24, false)⟩,
    ⟨some 31, Op.binOp BinOp.neq 3 (Operand.tmp 27) (Operand.tmp 30) 3, some (24, false)⟩,
    ⟨some 32, Op.pick (Operand.tmp 24) (Operand.const (Value.bool true)) (Operand.tmp 31), none⟩] [(2, 3), (2, 4), (10, 11), (10, 12)])
  (.cond (Operand.tmp 32)
  (.seq (.ops [⟨none, Op.store 4 (Operand.tmp 6) (Operand.const (Value.bool false)), none⟩])
  .ret)
  .skip)))
  (.ops [⟨some 15, Op.move (Operand.tmp 7), none⟩,
    ⟨some 16, Op.binOp BinOp.add 3 (Operand.tmp 15) (Operand.const (Value.int IntKind.i64 1)) 3, none⟩,
    ⟨some 7, Op.assign (Operand.tmp 16), none⟩])))
noncomputable def ir24_l1 : LC := (.seq (.seq (.ops [⟨some 51, Op.load 3 (Operand.tmp 9), none⟩,
    ⟨some 52, Op.binOp BinOp.lss 3 (Operand.tmp 51) (Operand.const (Value.int IntKind.i64 2)) 3, none⟩])
  (.cond (Operand.tmp 52)
  .skip
  (.exit 4)))
  (.seq (.block 5 (.seq (.ops [⟨some 10, Op.alloc 3, none⟩,
    ⟨some 11, Op.alloc 3, none⟩,
    ⟨none, Op.store 3 (Operand.tmp 10) (Operand.const (Value.int IntKind.i64 0)), none⟩,
    ⟨none, Op.store 3 (Operand.tmp 11) (Operand.const (Value.int IntKind.i64 (-1))), none⟩])
  (.seq (.seq (.ops [⟨some 55, Op.move (Operand.tmp 8), none⟩])
  (.block 6 (.range (Operand.tmp 55) #[56] (rc24 1).1 (rc24 1).2)))
  (.seq (.draw [⟨some 87, Op.load 3 (Operand.tmp 10), none⟩,
    ⟨some 88, Op.load 52 (Operand.tmp 4), none⟩,
    ⟨some 89, Op.nilCheck (Operand.tmp 88), none⟩,
    ⟨some 90, Op.fieldAddr 78 (Operand.tmp 89) 0, none⟩,
    ⟨some 91, Op.load 76 (Operand.tmp 90), none⟩,
    ⟨some 92, Op.call { callee := Callee.builtin Builtin.len, args := #[Operand.tmp 91], argTypes := #[76] }, none⟩,
    ⟨some 93, Op.load 52 (Operand.tmp 4), none⟩,
    ⟨some 94, Op.call { callee := Callee.value (Operand.func 39), args := #[Operand.tmp 93], argTypes := #[52] }, none⟩,
    ⟨some 95, Op.binOp BinOp.sub 3 (Operand.tmp 92) (Operand.tmp 94) 3, none⟩,
    ⟨some 96, Op.binOp BinOp.neq 3 (Operand.tmp 87) (Operand.tmp 95) 3, none⟩,
    ⟨some 97, Op.move (Operand.tmp 96), none⟩,
    ⟨some 98, Op.load 3 (Operand.tmp 9), some (97, true)⟩,
    ⟨some 99, Op.binOp BinOp.eql 3 (Operand.tmp 98) (Operand.const (Value.int IntKind.i64 1)) 3, some (97, true)⟩,
    ⟨some 100, Op.move (Operand.tmp 99), some (97, true)⟩,
    ⟨some 101, Op.load 3 (Operand.tmp 10), some (100, false)⟩,
    ⟨some 102, Op.load 3 (Operand.tmp 5), some (100, false)⟩,
    ⟨some 103, Op.binOp BinOp.neq 3 (Operand.tmp 101) (Operand.tmp 102) 3, some (100, false)⟩,
    ⟨some 104, Op.pick (Operand.tmp 100) (Operand.const (Value.bool true)) (Operand.tmp 103), some (97, true)⟩,
    ⟨some 105, Op.pick (Operand.tmp 97) (Operand.tmp 104) (Operand.const (Value.bool false)), none⟩] [(0, 7), (1, 7), (2, 7), (3, 7), (4, 7), (5, 7)])
  (.cond (Operand.tmp 105)
  (.seq (.ops [⟨none, Op.store 4 (Operand.tmp 6) (Operand.const (Value.bool false)), none⟩])
  .ret)
  .skip)))))
  (.seq (.seq (.ops [⟨some 106, Op.load 3 (Operand.tmp 9), none⟩])
  (.ops [⟨some 9, Op.alloc 3, none⟩,
    ⟨none, Op.store 3 (Operand.tmp 9) (Operand.tmp 106), none⟩]))
  (.ops [⟨some 53, Op.load 3 (Operand.tmp 9), none⟩,
    ⟨some 54, Op.binOp BinOp.add 3 (Operand.tmp 53) (Operand.const (Value.int IntKind.i64 1)) 3, none⟩,
    ⟨none, Op.store 3 (Operand.tmp 9) (Operand.tmp 54), none⟩]))))
noncomputable def ir24_a0 : LC := .skip
noncomputable def ir24_b0 : LC := (.block 3 (.seq (.ops [⟨none, Op.store 4 (Operand.tmp 6) (Operand.const (Value.bool false)), none⟩])
  .ret))
theorem ir24_a0_eq : low (rc24 0).1 = ir24_a0 := by kernel_rfl
theorem ir24_b0_eq : low (rc24 0).2 = ir24_b0 := by kernel_rfl
noncomputable def ir24_a1 : LC := (.ops [⟨some 12, Op.alloc 46, none⟩,
    ⟨none, Op.store 46 (Operand.tmp 12) (Operand.tmp 56), none⟩])
noncomputable def ir24_b1 : LC := (.block 7 (.seq (.seq (.draw [⟨some 57, Op.load 52 (Operand.tmp 4), none⟩,
    ⟨some 58, Op.fieldAddr 46 (Operand.tmp 12) 0, none⟩,
    ⟨some 59, Op.load 3 (Operand.tmp 58), none⟩,
    ⟨some 60, Op.call { callee := Callee.value (Operand.func 40), args := #[Operand.tmp 57, Operand.tmp 59], argTypes := #[52, 3] }, none⟩,
    ⟨some 61, Op.unOp UnOp.not 4 (Operand.tmp 60), none⟩,
    ⟨some 62, Op.move (Operand.tmp 61), none⟩,
    ⟨some 63, Op.load 46 (Operand.tmp 12), some (62, false)⟩,
    ⟨some 64, Op.load 52 (Operand.tmp 4), some (62, false)⟩,
    ⟨some 65, Op.fieldAddr 46 (Operand.tmp 12) 0, some (62, false)⟩,
    ⟨some 66, Op.load 3 (Operand.tmp 65), some (62, false)⟩,
    ⟨some 67, Op.call { callee := Callee.value (Operand.func 41), args := #[Operand.tmp 64, Operand.tmp 66], argTypes := #[52, 3] }, some (62, false)⟩,
    ⟨some 68, Op.binOp BinOp.neq 46 (Operand.tmp 63) (Operand.tmp 67) 46, some (62, false)⟩,
    ⟨some 69, Op.pick (Operand.tmp 62) (Operand.const (Value.bool true)) (Operand.tmp 68), none⟩,
    ⟨some 70, Op.move (Operand.tmp 69), none⟩,
    ⟨some 71, Op.fieldAddr 46 (Operand.tmp 12) 0, some (70, false)⟩,
    ⟨some 72, Op.load 3 (Operand.tmp 71), some (70, false)⟩,
    ⟨some 73, Op.load 3 (Operand.tmp 11), some (70, false)⟩,
    ⟨some 74, Op.binOp BinOp.leq 3 (Operand.tmp 72) (Operand.tmp 73) 3, some (70, false)⟩,
    ⟨some 75, Op.pick (Operand.tmp 70) (Operand.const (Value.bool true)) (Operand.tmp 74), none⟩] [(6, 10)])
  (.cond (Operand.tmp 75)
  (.seq (.ops [⟨none, Op.store 4 (Operand.tmp 6) (Operand.const (Value.bool false)), none⟩])
  .ret)
  .skip))
  (.seq (.ops [⟨some 76, Op.fieldAddr 46 (Operand.tmp 12) 0, none⟩,
    ⟨some 77, Op.load 3 (Operand.tmp 76), none⟩,
    ⟨none, Op.store 3 (Operand.tmp 11) (Operand.tmp 77), none⟩])
  (.seq (.ops [⟨some 78, Op.load 3 (Operand.tmp 10), none⟩,
    ⟨some 79, Op.binOp BinOp.add 3 (Operand.tmp 78) (Operand.const (Value.int IntKind.i64 1)) 3, none⟩,
    ⟨none, Op.store 3 (Operand.tmp 10) (Operand.tmp 79), none⟩])
  (.seq (.ops [⟨some 80, Op.load 3 (Operand.tmp 9), none⟩,
    ⟨some 81, Op.binOp BinOp.eql 3 (Operand.tmp 80) (Operand.const (Value.int IntKind.i64 0)) 3, none⟩,
    ⟨some 82, Op.move (Operand.tmp 81), none⟩,
    ⟨some 83, Op.load 3 (Operand.tmp 10), some (82, true)⟩,
    ⟨some 84, Op.load 3 (Operand.tmp 5), some (82, true)⟩,
    ⟨some 85, Op.binOp BinOp.eql 3 (Operand.tmp 83) (Operand.tmp 84) 3, some (82, true)⟩,
    ⟨some 86, Op.pick (Operand.tmp 82) (Operand.tmp 85) (Operand.const (Value.bool false)), none⟩])
  (.cond (Operand.tmp 86)
  (.exit 6)
  .skip))))))
theorem ir24_a1_eq : low (rc24 1).1 = ir24_a1 := by kernel_rfl
theorem ir24_b1_eq : low (rc24 1).2 = ir24_b1 := by kernel_rfl
noncomputable def ir24 : LC := (.seq (.ops [⟨some 4, Op.box 52 (Operand.tmp 1), none⟩,
    ⟨some 5, Op.box 3 (Operand.tmp 2), none⟩,
    ⟨some 6, Op.alloc 4, none⟩])
  (.seq (.seq (.ops [⟨some 7, Op.assign (Operand.const (Value.int IntKind.i64 (-1))), none⟩])
  (.block 0 (.loop ir24_l0)))
  (.seq (.ops [⟨some 33, Op.move (Operand.tmp 0), none⟩,
    ⟨some 34, Op.call { callee := Callee.value (Operand.func 36), args := #[Operand.tmp 33], argTypes := #[23] }, none⟩,
    ⟨some 8, Op.assign (Operand.tmp 34), none⟩])
  (.seq (.seq (.draw [⟨some 35, Op.move (Operand.tmp 8), none⟩,
    ⟨some 36, Op.binOp BinOp.eql 74 (Operand.tmp 35) (Operand.const Value.nilFunc) 74, none⟩,
    ⟨some 37, Op.move (Operand.tmp 36), none⟩,
    ⟨some 38, Op.move (Operand.tmp 0), some (37, false)⟩,
    ⟨some 39, Op.call { callee := Callee.value (Operand.func 14), args := #[Operand.tmp 38], argTypes := #[23] }, some (37, false)⟩,
    ⟨some 40, Op.load 52 (Operand.tmp 4), some (37, false)⟩,
    ⟨some 41, Op.call { callee := Callee.value (Operand.func 39), args := #[Operand.tmp 40], argTypes := #[52] }, some (37, false)⟩,
    ⟨some 42, Op.binOp BinOp.neq 3 (Operand.tmp 39) (Operand.tmp 41) 3, some (37, false)⟩,
    ⟨some 43, Op.pick (Operand.tmp 37) (Operand.const (Value.bool true)) (Operand.tmp 42), none⟩] [(4, 5)])
  (.cond (Operand.tmp 43)
  (.seq (.ops [⟨none, Op.store 4 (Operand.tmp 6) (Operand.const (Value.bool false)), none⟩])
  .ret)
  .skip))
  (.seq (.seq (.ops [⟨some 44, Op.load 52 (Operand.tmp 4), none⟩,
    ⟨some 45, Op.binOp BinOp.eql 52 (Operand.tmp 44) (Operand.const (Value.pointer none)) 52, none⟩])
  (.cond (Operand.tmp 45)
  (.seq (.seq (.ops [⟨some 46, Op.move (Operand.tmp 8), none⟩])
  (.block 2 (.range (Operand.tmp 46) #[47] (rc24 0).1 (rc24 0).2)))
  (.seq (.ops [⟨some 48, Op.move (Operand.tmp 0), none⟩,
    ⟨some 49, Op.call { callee := Callee.value (Operand.func 25), args := #[Operand.tmp 48], argTypes := #[23] }, none⟩,
    ⟨some 50, Op.binOp BinOp.eql 23 (Operand.tmp 49) (Operand.const (Value.pointer none)) 23, none⟩,
    ⟨none, Op.store 4 (Operand.tmp 6) (Operand.tmp 50), none⟩])
  .ret))
  .skip))
  (.seq (.seq (.ops [⟨some 9, Op.alloc 3, none⟩,
    ⟨none, Op.store 3 (Operand.tmp 9) (Operand.const (Value.int IntKind.i64 0)), none⟩])
  (.block 4 (.loop ir24_l1)))
  (.seq (.draw [⟨some 107, Op.move (Operand.tmp 0), none⟩,
    ⟨some 108, Op.load 52 (Operand.tmp 4), none⟩,
    ⟨some 109, Op.call { callee := Callee.value (Operand.func 42), args := #[Operand.tmp 107, Operand.tmp 108, Operand.const (Value.int IntKind.i64 (-1))], argTypes := #[23, 52, 3] }, none⟩,
    ⟨some 110, Op.move (Operand.tmp 109), none⟩,
    ⟨some 111, Op.move (Operand.tmp 0), some (110, true)⟩,
    ⟨some 112, Op.load 52 (Operand.tmp 4), some (110, true)⟩,
    ⟨some 113, Op.load 52 (Operand.tmp 4), some (110, true)⟩,
    ⟨some 114, Op.nilCheck (Operand.tmp 113), some (110, true)⟩,
    ⟨some 115, Op.fieldAddr 78 (Operand.tmp 114) 0, some (110, true)⟩,
    ⟨some 116, Op.load 76 (Operand.tmp 115), some (110, true)⟩,
    ⟨some 117, Op.call { callee := Callee.builtin Builtin.len, args := #[Operand.tmp 116], argTypes := #[76] }, some (110, true)⟩,
    ⟨some 118, Op.call { callee := Callee.value (Operand.func 42), args := #[Operand.tmp 111, Operand.tmp 112, Operand.tmp 117], argTypes := #[23, 52, 3] }, some (110, true)⟩,
    ⟨some 119, Op.pick (Operand.tmp 110) (Operand.tmp 118) (Operand.const (Value.bool false)), none⟩,
    ⟨some 120, Op.move (Operand.tmp 119), none⟩,
    ⟨some 121, Op.move (Operand.tmp 0), some (120, true)⟩,
    ⟨some 122, Op.load 52 (Operand.tmp 4), some (120, true)⟩,
    ⟨some 123, Op.call { callee := Callee.value (Operand.func 43), args := #[Operand.tmp 121, Operand.tmp 122], argTypes := #[23, 52] }, some (120, true)⟩,
    ⟨some 124, Op.pick (Operand.tmp 120) (Operand.tmp 123) (Operand.const (Value.bool false)), none⟩,
    ⟨none, Op.store 4 (Operand.tmp 6) (Operand.tmp 124), none⟩] [])
  .ret)))))))
theorem ir24_eq : (Try.f24.body.map low, Try.f24.ntmps, Try.f24.results.toList) = (some ir24, 125, [.cell 6 4]) := by kernel_rfl
def ir25 : LC := (.seq (.ops [⟨some 2, Op.assign (Operand.const (Value.pointer none)), none⟩])
  (.seq (.seq (.ops [⟨some 3, Op.move (Operand.tmp 0), none⟩,
    ⟨some 4, Op.call { callee := Callee.value (Operand.func 30), args := #[Operand.tmp 3], argTypes := #[23] }, none⟩,
    ⟨some 5, Op.unOp UnOp.not 4 (Operand.tmp 4), none⟩])
  (.cond (Operand.tmp 5)
  (.seq (.ops [⟨some 2, Op.assign (Operand.const (Value.pointer none)), none⟩])
  .ret)
  .skip))
  (.seq (.draw [⟨some 6, Op.move (Operand.tmp 0), none⟩,
    ⟨some 7, Op.nilCheck (Operand.tmp 6), none⟩,
    ⟨some 8, Op.fieldAddr 61 (Operand.tmp 7) 0, none⟩,
    ⟨some 9, Op.load 59 (Operand.tmp 8), none⟩,
    ⟨some 10, Op.call { callee := Callee.value (Operand.func 44), args := #[Operand.tmp 9], argTypes := #[59] }, none⟩,
    ⟨some 11, Op.move (Operand.tmp 0), none⟩,
    ⟨some 12, Op.nilCheck (Operand.tmp 11), none⟩,
    ⟨some 13, Op.fieldAddr 61 (Operand.tmp 12) 1, none⟩,
    ⟨some 14, Op.load 49 (Operand.tmp 13), none⟩,
    ⟨some 15, Op.call { callee := Callee.value (Operand.func 29), args := #[Operand.tmp 14], argTypes := #[49] }, none⟩,
    ⟨some 16, Op.move (Operand.tmp 0), none⟩,
    ⟨some 17, Op.nilCheck (Operand.tmp 16), none⟩,
    ⟨some 18, Op.fieldAddr 61 (Operand.tmp 17) 2, none⟩,
    ⟨some 19, Op.load 49 (Operand.tmp 18), none⟩,
    ⟨some 20, Op.call { callee := Callee.value (Operand.func 29), args := #[Operand.tmp 19], argTypes := #[49] }, none⟩,
    ⟨some 21, Op.build 61 #[(0, Operand.tmp 10), (1, Operand.tmp 15), (2, Operand.tmp 20)], none⟩,
    ⟨some 22, Op.box 61 (Operand.tmp 21), none⟩,
    ⟨some 2, Op.assign (Operand.tmp 22), none⟩] [(4, 5), (4, 6), (4, 7), (4, 8), (4, 10), (9, 10), (4, 11), (9, 11), (4, 12), (9, 12), (4, 13), (9, 13)])
  .ret)))
theorem ir25_eq : (Try.f25.body.map low, Try.f25.ntmps, Try.f25.results.toList) = (some ir25, 23, [.tmp 2]) := by kernel_rfl
def ir26_l0 : LC := (.seq (.seq (.ops [⟨some 18, Op.move (Operand.tmp 4), none⟩,
    ⟨some 19, Op.move (Operand.tmp 0), none⟩,
    ⟨some 20, Op.nilCheck (Operand.tmp 19), none⟩,
    ⟨some 21, Op.fieldAddr 78 (Operand.tmp 20) 0, none⟩,
    ⟨some 22, Op.load 76 (Operand.tmp 21), none⟩,
    ⟨some 23, Op.call { callee := Callee.builtin Builtin.len, args := #[Operand.tmp 22], argTypes := #[76] }, none⟩,
    ⟨some 24, Op.binOp BinOp.lss 3 (Operand.tmp 18) (Operand.tmp 23) 3, none⟩])
  (.cond (Operand.tmp 24)
  .skip
  (.exit 0)))
  (.seq (.block 1 (.seq (.ops [⟨some 27, Op.move (Operand.tmp 0), none⟩,
    ⟨some 28, Op.nilCheck (Operand.tmp 27), none⟩,
    ⟨some 29, Op.fieldAddr 78 (Operand.tmp 28) 0, none⟩,
    ⟨some 30, Op.load 76 (Operand.tmp 29), none⟩,
    ⟨some 31, Op.move (Operand.tmp 4), none⟩,
    ⟨some 32, Op.indexAddr 76 (Operand.tmp 30) (Operand.tmp 31), none⟩,
    ⟨some 33, Op.load 83 (Operand.tmp 32), none⟩,
    ⟨some 5, Op.alloc 83, none⟩,
    ⟨none, Op.store 83 (Operand.tmp 5) (Operand.tmp 33), none⟩])
  (.seq (.ops [⟨some 34, Op.fieldAddr 83 (Operand.tmp 5) 2, none⟩,
    ⟨some 35, Op.load 35 (Operand.tmp 34), none⟩,
    ⟨some 36, Op.call { callee := Callee.builtin Builtin.append, args := #[Operand.const (Value.slice none 0 0), Operand.tmp 35], argTypes := #[35, 35] }, none⟩,
    ⟨some 37, Op.fieldAddr 83 (Operand.tmp 5) 2, none⟩,
    ⟨none, Op.store 35 (Operand.tmp 37) (Operand.tmp 36), none⟩])
  (.draw [⟨some 38, Op.move (Operand.tmp 3), none⟩,
    ⟨some 39, Op.nilCheck (Operand.tmp 38), none⟩,
    ⟨some 40, Op.fieldAddr 78 (Operand.tmp 39) 0, none⟩,
    ⟨some 41, Op.load 76 (Operand.tmp 40), none⟩,
    ⟨some 42, Op.move (Operand.tmp 4), none⟩,
    ⟨some 43, Op.load 83 (Operand.tmp 5), none⟩,
    ⟨some 44, Op.indexAddr 76 (Operand.tmp 41) (Operand.tmp 42), none⟩,
    ⟨none, Op.store 83 (Operand.tmp 44) (Operand.tmp 43), none⟩] []))))
  (.ops [⟨some 25, Op.move (Operand.tmp 4), none⟩,
    ⟨some 26, Op.binOp BinOp.add 3 (Operand.tmp 25) (Operand.const (Value.int IntKind.i64 1)) 3, none⟩,
    ⟨some 4, Op.assign (Operand.tmp 26), none⟩])))
def ir26 : LC := (.seq (.ops [⟨some 2, Op.assign (Operand.const (Value.pointer none)), none⟩])
  (.seq (.seq (.ops [⟨some 6, Op.move (Operand.tmp 0), none⟩,
    ⟨some 7, Op.binOp BinOp.eql 52 (Operand.tmp 6) (Operand.const (Value.pointer none)) 52, none⟩])
  (.cond (Operand.tmp 7)
  (.seq (.ops [⟨some 2, Op.assign (Operand.const (Value.pointer none)), none⟩])
  .ret)
  .skip))
  (.seq (.draw [⟨some 8, Op.move (Operand.tmp 0), none⟩,
    ⟨some 9, Op.nilCheck (Operand.tmp 8), none⟩,
    ⟨some 10, Op.fieldAddr 78 (Operand.tmp 9) 0, none⟩,
    ⟨some 11, Op.load 76 (Operand.tmp 10), none⟩,
    ⟨some 12, Op.call { callee := Callee.builtin Builtin.len, args := #[Operand.tmp 11], argTypes := #[76] }, none⟩,
    ⟨some 13, Op.move (Operand.tmp 0), none⟩,
    ⟨some 14, Op.nilCheck (Operand.tmp 13), none⟩,
    ⟨some 15, Op.fieldAddr 78 (Operand.tmp 14) 1, none⟩,
    ⟨some 16, Op.load 49 (Operand.tmp 15), none⟩,
    ⟨some 17, Op.call { callee := Callee.value (Operand.func 23), args := #[Operand.tmp 12, Operand.tmp 16], argTypes := #[3, 49] }, none⟩,
    ⟨some 3, Op.assign (Operand.tmp 17), none⟩] [])
  (.seq (.seq (.ops [⟨some 4, Op.assign (Operand.const (Value.int IntKind.i64 0)), none⟩])
  (.block 0 (.loop ir26_l0)))
  (.seq (.ops [⟨some 45, Op.move (Operand.tmp 3), none⟩,
    ⟨some 2, Op.assign (Operand.tmp 45), none⟩])
  .ret)))))
theorem ir26_eq : (Try.f26.body.map low, Try.f26.ntmps, Try.f26.results.toList) = (some ir26, 46, [.tmp 2]) := by kernel_rfl
def ir27 : LC := (.seq (.ops [⟨some 5, Op.box 37 (Operand.tmp 2), none⟩,
    ⟨some 6, Op.assign (Operand.const (Value.bool false)), none⟩])
  (.seq (.seq (.ops [⟨some 25, Op.fieldAddr 37 (Operand.tmp 5) 0, none⟩,
    ⟨some 26, Op.load 3 (Operand.tmp 25), none⟩])
  (.block 0 (.seq (.ops [⟨some 28, Op.binOp BinOp.eql 3 (Operand.tmp 26) (Operand.const (Value.int IntKind.i64 1)) 3, none⟩,
    ⟨some 27, Op.assign (Operand.tmp 28), none⟩])
  (.cond (Operand.tmp 27)
  (.seq (.ops [⟨some 30, Op.move (Operand.tmp 0), none⟩,
    ⟨some 31, Op.fieldAddr 37 (Operand.tmp 5) 1, none⟩,
    ⟨some 32, Op.load 3 (Operand.tmp 31), none⟩,
    ⟨some 33, Op.call { callee := Callee.value (Operand.func 11), args := #[Operand.tmp 30, Operand.tmp 32], argTypes := #[23, 3] }, none⟩,
    ⟨some 29, Op.move (Operand.tmp 33), none⟩,
    ⟨some 34, Op.extract (Operand.tmp 29) 0, none⟩,
    ⟨some 35, Op.extract (Operand.tmp 29) 1, none⟩,
    ⟨some 7, Op.assign (Operand.tmp 34), none⟩,
    ⟨some 8, Op.assign (Operand.tmp 35), none⟩])
  (.seq (.ops [⟨some 37, Op.move (Operand.tmp 1), none⟩,
    ⟨some 38, Op.fieldAddr 37 (Operand.tmp 5) 1, none⟩,
    ⟨some 39, Op.load 3 (Operand.tmp 38), none⟩,
    ⟨some 40, Op.call { callee := Callee.value (Operand.func 45), args := #[Operand.tmp 37, Operand.tmp 39], argTypes := #[52, 3] }, none⟩,
    ⟨some 36, Op.move (Operand.tmp 40), none⟩,
    ⟨some 41, Op.extract (Operand.tmp 36) 0, none⟩,
    ⟨some 42, Op.extract (Operand.tmp 36) 1, none⟩,
    ⟨some 9, Op.assign (Operand.tmp 41), none⟩,
    ⟨some 10, Op.assign (Operand.tmp 42), none⟩])
  (.seq (.ops [⟨some 43, Op.move (Operand.tmp 7), none⟩,
    ⟨some 44, Op.move (Operand.tmp 9), none⟩,
    ⟨some 45, Op.binOp BinOp.eql 3 (Operand.tmp 43) (Operand.tmp 44) 3, none⟩,
    ⟨some 46, Op.move (Operand.tmp 45), none⟩,
    ⟨some 47, Op.move (Operand.tmp 8), some (46, true)⟩,
    ⟨some 48, Op.move (Operand.tmp 10), some (46, true)⟩,
    ⟨some 49, Op.binOp BinOp.eql 3 (Operand.tmp 47) (Operand.tmp 48) 3, some (46, true)⟩,
    ⟨some 50, Op.pick (Operand.tmp 46) (Operand.tmp 49) (Operand.const (Value.bool false)), none⟩,
    ⟨some 6, Op.assign (Operand.tmp 50), none⟩])
  .ret)))
  (.seq (.ops [⟨some 52, Op.binOp BinOp.eql 3 (Operand.tmp 26) (Operand.const (Value.int IntKind.i64 2)) 3, none⟩,
    ⟨some 51, Op.assign (Operand.tmp 52), none⟩])
  (.cond (Operand.tmp 51)
  (.seq (.draw [⟨some 53, Op.move (Operand.tmp 0), none⟩,
    ⟨some 54, Op.fieldAddr 37 (Operand.tmp 5) 1, none⟩,
    ⟨some 55, Op.load 3 (Operand.tmp 54), none⟩,
    ⟨some 56, Op.call { callee := Callee.value (Operand.func 12), args := #[Operand.tmp 53, Operand.tmp 55], argTypes := #[23, 3] }, none⟩,
    ⟨some 57, Op.move (Operand.tmp 1), none⟩,
    ⟨some 58, Op.fieldAddr 37 (Operand.tmp 5) 1, none⟩,
    ⟨some 59, Op.load 3 (Operand.tmp 58), none⟩,
    ⟨some 60, Op.call { callee := Callee.value (Operand.func 46), args := #[Operand.tmp 57, Operand.tmp 59], argTypes := #[52, 3] }, none⟩,
    ⟨some 61, Op.binOp BinOp.eql 3 (Operand.tmp 56) (Operand.tmp 60) 3, none⟩,
    ⟨some 6, Op.assign (Operand.tmp 61), none⟩] [(3, 4), (3, 5), (3, 6)])
  .ret)
  (.seq (.ops [⟨some 63, Op.binOp BinOp.eql 3 (Operand.tmp 26) (Operand.const (Value.int IntKind.i64 3)) 3, none⟩,
    ⟨some 62, Op.assign (Operand.tmp 63), none⟩])
  (.cond (Operand.tmp 62)
  (.seq (.ops [⟨some 65, Op.move (Operand.tmp 0), none⟩,
    ⟨some 66, Op.fieldAddr 37 (Operand.tmp 5) 1, none⟩,
    ⟨some 67, Op.load 3 (Operand.tmp 66), none⟩,
    ⟨some 68, Op.call { callee := Callee.value (Operand.func 13), args := #[Operand.tmp 65, Operand.tmp 67], argTypes := #[23, 3] }, none⟩,
    ⟨some 64, Op.move (Operand.tmp 68), none⟩,
    ⟨some 69, Op.extract (Operand.tmp 64) 0, none⟩,
    ⟨some 70, Op.extract (Operand.tmp 64) 1, none⟩,
    ⟨some 11, Op.assign (Operand.tmp 69), none⟩,
    ⟨some 12, Op.assign (Operand.tmp 70), none⟩])
  (.seq (.ops [⟨some 72, Op.move (Operand.tmp 1), none⟩,
    ⟨some 73, Op.fieldAddr 37 (Operand.tmp 5) 1, none⟩,
    ⟨some 74, Op.load 3 (Operand.tmp 73), none⟩,
    ⟨some 75, Op.call { callee := Callee.value (Operand.func 47), args := #[Operand.tmp 72, Operand.tmp 74], argTypes := #[52, 3] }, none⟩,
    ⟨some 71, Op.move (Operand.tmp 75), none⟩,
    ⟨some 76, Op.extract (Operand.tmp 71) 0, none⟩,
    ⟨some 77, Op.extract (Operand.tmp 71) 1, none⟩,
    ⟨some 13, Op.assign (Operand.tmp 76), none⟩,
    ⟨some 14, Op.assign (Operand.tmp 77), none⟩])
  (.seq (.ops [⟨some 78, Op.move (Operand.tmp 11), none⟩,
    ⟨some 79, Op.move (Operand.tmp 13), none⟩,
    ⟨some 80, Op.binOp BinOp.eql 4 (Operand.tmp 78) (Operand.tmp 79) 4, none⟩,
    ⟨some 81, Op.move (Operand.tmp 80), none⟩,
    ⟨some 82, Op.move (Operand.tmp 12), some (81, true)⟩,
    ⟨some 83, Op.move (Operand.tmp 14), some (81, true)⟩,
    ⟨some 84, Op.binOp BinOp.eql 3 (Operand.tmp 82) (Operand.tmp 83) 3, some (81, true)⟩,
    ⟨some 85, Op.pick (Operand.tmp 81) (Operand.tmp 84) (Operand.const (Value.bool false)), none⟩,
    ⟨some 6, Op.assign (Operand.tmp 85), none⟩])
  .ret)))
  (.seq (.ops [⟨some 87, Op.binOp BinOp.eql 3 (Operand.tmp 26) (Operand.const (Value.int IntKind.i64 4)) 3, none⟩,
    ⟨some 86, Op.assign (Operand.tmp 87), none⟩])
  (.cond (Operand.tmp 86)
  (.seq (.ops [⟨some 89, Op.move (Operand.tmp 0), none⟩,
    ⟨some 90, Op.fieldAddr 37 (Operand.tmp 5) 1, none⟩,
    ⟨some 91, Op.load 3 (Operand.tmp 90), none⟩,
    ⟨some 92, Op.call { callee := Callee.value (Operand.func 21), args := #[Operand.tmp 89, Operand.tmp 91], argTypes := #[23, 3] }, none⟩,
    ⟨some 88, Op.move (Operand.tmp 92), none⟩,
    ⟨some 93, Op.extract (Operand.tmp 88) 0, none⟩,
    ⟨some 94, Op.extract (Operand.tmp 88) 1, none⟩,
    ⟨some 15, Op.assign (Operand.tmp 93), none⟩,
    ⟨some 16, Op.assign (Operand.tmp 94), none⟩])
  (.seq (.ops [⟨some 96, Op.move (Operand.tmp 1), none⟩,
    ⟨some 97, Op.fieldAddr 37 (Operand.tmp 5) 1, none⟩,
    ⟨some 98, Op.load 3 (Operand.tmp 97), none⟩,
    ⟨some 99, Op.call { callee := Callee.value (Operand.func 48), args := #[Operand.tmp 96, Operand.tmp 98], argTypes := #[52, 3] }, none⟩,
    ⟨some 95, Op.move (Operand.tmp 99), none⟩,
    ⟨some 100, Op.extract (Operand.tmp 95) 0, none⟩,
    ⟨some 101, Op.extract (Operand.tmp 95) 1, none⟩,
    ⟨some 17, Op.assign (Operand.tmp 100), none⟩,
    ⟨some 18, Op.assign (Operand.tmp 101), none⟩])
  (.seq (.ops [⟨some 102, Op.move (Operand.tmp 15), none⟩,
    ⟨some 103, Op.move (Operand.tmp 17), none⟩,
    ⟨some 104, Op.binOp BinOp.eql 3 (Operand.tmp 102) (Operand.tmp 103) 3, none⟩,
    ⟨some 105, Op.move (Operand.tmp 104), none⟩,
    ⟨some 106, Op.move (Operand.tmp 16), some (105, true)⟩,
    ⟨some 107, Op.move (Operand.tmp 18), some (105, true)⟩,
    ⟨some 108, Op.binOp BinOp.eql 3 (Operand.tmp 106) (Operand.tmp 107) 3, some (105, true)⟩,
    ⟨some 109, Op.pick (Operand.tmp 105) (Operand.tmp 108) (Operand.const (Value.bool false)), none⟩,
    ⟨some 6, Op.assign (Operand.tmp 109), none⟩])
  .ret)))
  (.seq (.ops [⟨some 111, Op.binOp BinOp.eql 3 (Operand.tmp 26) (Operand.const (Value.int IntKind.i64 5)) 3, none⟩,
    ⟨some 110, Op.assign (Operand.tmp 111), none⟩])
  (.cond (Operand.tmp 110)
  (.seq (.ops [⟨some 112, Op.fieldAddr 37 (Operand.tmp 5) 3, none⟩,
    ⟨some 113, Op.load 35 (Operand.tmp 112), none⟩,
    ⟨some 114, Op.call { callee := Callee.value (Operand.func 49), args := #[Operand.tmp 113], argTypes := #[35] }, none⟩,
    ⟨some 19, Op.assign (Operand.tmp 114), none⟩])
  (.seq (.draw [⟨some 115, Op.move (Operand.tmp 0), none⟩,
    ⟨some 116, Op.fieldAddr 37 (Operand.tmp 5) 1, none⟩,
    ⟨some 117, Op.load 3 (Operand.tmp 116), none⟩,
    ⟨some 118, Op.fieldAddr 37 (Operand.tmp 5) 2, none⟩,
    ⟨some 119, Op.load 3 (Operand.tmp 118), none⟩,
    ⟨some 120, Op.move (Operand.tmp 19), none⟩,
    ⟨some 121, Op.call { callee := Callee.value (Operand.func 17), args := #[Operand.tmp 115, Operand.tmp 117, Operand.tmp 119, Operand.tmp 120], argTypes := #[23, 3, 3, 35] }, none⟩,
    ⟨some 122, Op.move (Operand.tmp 1), none⟩,
    ⟨some 123, Op.fieldAddr 37 (Operand.tmp 5) 1, none⟩,
    ⟨some 124, Op.load 3 (Operand.tmp 123), none⟩,
    ⟨some 125, Op.fieldAddr 37 (Operand.tmp 5) 2, none⟩,
    ⟨some 126, Op.load 3 (Operand.tmp 125), none⟩,
    ⟨some 127, Op.fieldAddr 37 (Operand.tmp 5) 3, none⟩,
    ⟨some 128, Op.load 35 (Operand.tmp 127), none⟩,
    ⟨some 129, Op.call { callee := Callee.value (Operand.func 50), args := #[Operand.tmp 122, Operand.tmp 124, Operand.tmp 126, Operand.tmp 128], argTypes := #[52, 3, 3, 35] }, none⟩,
    ⟨some 130, Op.binOp BinOp.eql 3 (Operand.tmp 121) (Operand.tmp 129) 3, none⟩,
    ⟨some 20, Op.assign (Operand.tmp 130), none⟩] [(6, 7), (6, 8), (6, 9), (6, 10), (6, 11), (6, 12), (6, 13)])
  (.seq (.ops [⟨some 132, Op.move (Operand.tmp 0), none⟩,
    ⟨some 133, Op.fieldAddr 37 (Operand.tmp 5) 1, none⟩,
    ⟨some 134, Op.load 3 (Operand.tmp 133), none⟩,
    ⟨some 135, Op.fieldAddr 37 (Operand.tmp 5) 2, none⟩,
    ⟨some 136, Op.load 3 (Operand.tmp 135), none⟩,
    ⟨some 137, Op.call { callee := Callee.value (Operand.func 18), args := #[Operand.tmp 132, Operand.tmp 134, Operand.tmp 136], argTypes := #[23, 3, 3] }, none⟩,
    ⟨some 131, Op.move (Operand.tmp 137), none⟩,
    ⟨some 138, Op.extract (Operand.tmp 131) 0, none⟩,
    ⟨some 139, Op.extract (Operand.tmp 131) 1, none⟩,
    ⟨some 21, Op.assign (Operand.tmp 138), none⟩,
    ⟨some 22, Op.assign (Operand.tmp 139), none⟩])
  (.seq (.ops [⟨some 141, Op.move (Operand.tmp 1), none⟩,
    ⟨some 142, Op.fieldAddr 37 (Operand.tmp 5) 1, none⟩,
    ⟨some 143, Op.load 3 (Operand.tmp 142), none⟩,
    ⟨some 144, Op.fieldAddr 37 (Operand.tmp 5) 2, none⟩,
    ⟨some 145, Op.load 3 (Operand.tmp 144), none⟩,
    ⟨some 146, Op.call { callee := Callee.value (Operand.func 51), args := #[Operand.tmp 141, Operand.tmp 143, Operand.tmp 145], argTypes := #[52, 3, 3] }, none⟩,
    ⟨some 140, Op.move (Operand.tmp 146), none⟩,
    ⟨some 147, Op.extract (Operand.tmp 140) 0, none⟩,
    ⟨some 148, Op.extract (Operand.tmp 140) 1, none⟩,
    ⟨some 23, Op.assign (Operand.tmp 147), none⟩,
    ⟨some 24, Op.assign (Operand.tmp 148), none⟩])
  (.seq (.ops [⟨some 149, Op.move (Operand.tmp 19), none⟩,
    ⟨some 150, Op.fieldAddr 37 (Operand.tmp 5) 3, none⟩,
    ⟨some 151, Op.load 35 (Operand.tmp 150), none⟩,
    ⟨some 152, Op.call { callee := Callee.value (Operand.func 52), args := #[Operand.tmp 149, Operand.tmp 151], argTypes := #[35, 35] }, none⟩,
    ⟨some 153, Op.move (Operand.tmp 152), none⟩,
    ⟨some 154, Op.move (Operand.tmp 20), some (153, true)⟩,
    ⟨some 155, Op.pick (Operand.tmp 153) (Operand.tmp 154) (Operand.const (Value.bool false)), none⟩,
    ⟨some 156, Op.move (Operand.tmp 155), none⟩,
    ⟨some 157, Op.move (Operand.tmp 21), some (156, true)⟩,
    ⟨some 158, Op.move (Operand.tmp 23), some (156, true)⟩,
    ⟨some 159, Op.binOp BinOp.eql 5 (Operand.tmp 157) (Operand.tmp 158) 5, some (156, true)⟩,
    ⟨some 160, Op.pick (Operand.tmp 156) (Operand.tmp 159) (Operand.const (Value.bool false)), none⟩,
    ⟨some 161, Op.move (Operand.tmp 160), none⟩,
    ⟨some 162, Op.move (Operand.tmp 22), some (161, true)⟩,
    ⟨some 163, Op.move (Operand.tmp 24), some (161, true)⟩,
    ⟨some 164, Op.binOp BinOp.eql 3 (Operand.tmp 162) (Operand.tmp 163) 3, some (161, true)⟩,
    ⟨some 165, Op.pick (Operand.tmp 161) (Operand.tmp 164) (Operand.const (Value.bool false)), none⟩,
    ⟨some 6, Op.assign (Operand.tmp 165), none⟩])
  .ret)))))
  (.seq (.ops [⟨some 167, Op.binOp BinOp.eql 3 (Operand.tmp 26) (Operand.const (Value.int IntKind.i64 6)) 3, none⟩,
    ⟨some 166, Op.assign (Operand.tmp 167), none⟩])
  (.cond (Operand.tmp 166)
  (.seq (.draw [⟨some 168, Op.move (Operand.tmp 0), none⟩,
    ⟨some 169, Op.fieldAddr 37 (Operand.tmp 5) 1, none⟩,
    ⟨some 170, Op.load 3 (Operand.tmp 169), none⟩,
    ⟨some 171, Op.fieldAddr 37 (Operand.tmp 5) 2, none⟩,
    ⟨some 172, Op.load 3 (Operand.tmp 171), none⟩,
    ⟨some 173, Op.call { callee := Callee.value (Operand.func 28), args := #[Operand.tmp 168, Operand.tmp 170, Operand.tmp 172], argTypes := #[23, 3, 3] }, none⟩,
    ⟨some 174, Op.move (Operand.tmp 1), none⟩,
    ⟨some 175, Op.fieldAddr 37 (Operand.tmp 5) 1, none⟩,
    ⟨some 176, Op.load 3 (Operand.tmp 175), none⟩,
    ⟨some 177, Op.fieldAddr 37 (Operand.tmp 5) 2, none⟩,
    ⟨some 178, Op.load 3 (Operand.tmp 177), none⟩,
    ⟨some 179, Op.call { callee := Callee.value (Operand.func 53), args := #[Operand.tmp 174, Operand.tmp 176, Operand.tmp 178], argTypes := #[52, 3, 3] }, none⟩,
    ⟨some 180, Op.binOp BinOp.eql 3 (Operand.tmp 173) (Operand.tmp 179) 3, none⟩,
    ⟨some 6, Op.assign (Operand.tmp 180), none⟩] [(5, 6), (5, 7), (5, 8), (5, 9), (5, 10)])
  .ret)
  .skip))))))))))))))
  (.seq (.ops [⟨some 6, Op.assign (Operand.const (Value.bool true)), none⟩])
  .ret)))
theorem ir27_eq : (Try.f27.body.map low, Try.f27.ntmps, Try.f27.results.toList) = (some ir27, 181, [.tmp 6]) := by kernel_rfl
def ir28 : LC := (.seq (.ops [⟨some 6, Op.assign (Operand.const (Value.int IntKind.i64 0)), none⟩])
  (.seq (.ops [⟨some 12, Op.move (Operand.tmp 0), none⟩,
    ⟨some 13, Op.move (Operand.tmp 1), none⟩,
    ⟨some 14, Op.call { callee := Callee.value (Operand.func 32), args := #[Operand.tmp 12, Operand.tmp 13], argTypes := #[23, 3] }, none⟩,
    ⟨some 11, Op.move (Operand.tmp 14), none⟩,
    ⟨some 15, Op.extract (Operand.tmp 11) 0, none⟩,
    ⟨some 16, Op.extract (Operand.tmp 11) 1, none⟩,
    ⟨some 7, Op.assign (Operand.tmp 15), none⟩,
    ⟨some 8, Op.assign (Operand.tmp 16), none⟩])
  (.seq (.ops [⟨some 18, Op.move (Operand.tmp 0), none⟩,
    ⟨some 19, Op.move (Operand.tmp 2), none⟩,
    ⟨some 20, Op.call { callee := Callee.value (Operand.func 32), args := #[Operand.tmp 18, Operand.tmp 19], argTypes := #[23, 3] }, none⟩,
    ⟨some 17, Op.move (Operand.tmp 20), none⟩,
    ⟨some 21, Op.extract (Operand.tmp 17) 0, none⟩,
    ⟨some 22, Op.extract (Operand.tmp 17) 1, none⟩,
    ⟨some 9, Op.assign (Operand.tmp 21), none⟩,
    ⟨some 10, Op.assign (Operand.tmp 22), none⟩])
  (.seq (.block 0 (.seq (.ops [⟨some 24, Op.move (Operand.tmp 8), none⟩,
    ⟨some 25, Op.binOp BinOp.neq 24 (Operand.tmp 24) (Operand.const (Value.int IntKind.i64 0)) 24, none⟩,
    ⟨some 23, Op.assign (Operand.tmp 25), none⟩])
  (.cond (Operand.tmp 23)
  (.seq (.ops [⟨some 26, Op.move (Operand.tmp 8), none⟩,
    ⟨some 6, Op.assign (Operand.tmp 26), none⟩])
  .ret)
  (.seq (.ops [⟨some 28, Op.move (Operand.tmp 10), none⟩,
    ⟨some 29, Op.binOp BinOp.neq 24 (Operand.tmp 28) (Operand.const (Value.int IntKind.i64 0)) 24, none⟩,
    ⟨some 27, Op.assign (Operand.tmp 29), none⟩])
  (.cond (Operand.tmp 27)
  (.seq (.ops [⟨some 30, Op.move (Operand.tmp 10), none⟩,
    ⟨some 6, Op.assign (Operand.tmp 30), none⟩])
  .ret)
  .skip)))))
  (.seq (.ops [⟨some 31, Op.move (Operand.tmp 9), none⟩,
    ⟨some 32, Op.move (Operand.tmp 7), none⟩,
    ⟨some 33, Op.nilCheck (Operand.tmp 32), none⟩,
    ⟨some 34, Op.fieldAddr 67 (Operand.tmp 33) 2, none⟩,
    ⟨some 35, Op.load 65 (Operand.tmp 34), none⟩,
    ⟨some 36, Op.nilCheck (Operand.tmp 31), none⟩,
    ⟨some 37, Op.fieldAddr 67 (Operand.tmp 36) 2, none⟩,
    ⟨none, Op.store 65 (Operand.tmp 37) (Operand.tmp 35), none⟩])
  (.seq (.ops [⟨some 6, Op.assign (Operand.const (Value.int IntKind.i64 0)), none⟩])
  .ret))))))
theorem ir28_eq : (Try.f28.body.map low, Try.f28.ntmps, Try.f28.results.toList) = (some ir28, 38, [.tmp 6]) := by kernel_rfl
def ir29 : LC := (.seq (.ops [⟨some 2, Op.assign (Operand.const (Value.slice none 0 0)), none⟩])
  (.seq (.seq (.ops [⟨some 3, Op.move (Operand.tmp 0), none⟩,
    ⟨some 4, Op.binOp BinOp.eql 49 (Operand.tmp 3) (Operand.const (Value.slice none 0 0)) 49, none⟩])
  (.cond (Operand.tmp 4)
  (.seq (.ops [⟨some 2, Op.assign (Operand.const (Value.slice none 0 0)), none⟩])
  .ret)
  .skip))
  (.seq (.ops [⟨some 5, Op.buildSlice 49 0 #[], none⟩,
    ⟨some 6, Op.move (Operand.tmp 0), none⟩,
    ⟨some 7, Op.call { callee := Callee.builtin Builtin.append, args := #[Operand.tmp 5, Operand.tmp 6], argTypes := #[49, 49] }, none⟩,
    ⟨some 2, Op.assign (Operand.tmp 7), none⟩])
  .ret)))
theorem ir29_eq : (Try.f29.body.map low, Try.f29.ntmps, Try.f29.results.toList) = (some ir29, 8, [.tmp 2]) := by kernel_rfl
def ir30 : LC := (.seq (.ops [⟨some 2, Op.assign (Operand.const (Value.bool false)), none⟩])
  (.seq (.ops [⟨some 3, Op.move (Operand.tmp 0), none⟩,
    ⟨some 4, Op.binOp BinOp.neq 23 (Operand.tmp 3) (Operand.const (Value.pointer none)) 23, none⟩,
    ⟨some 5, Op.move (Operand.tmp 4), none⟩,
    ⟨some 6, Op.move (Operand.tmp 0), some (5, true)⟩,
    ⟨some 7, Op.nilCheck (Operand.tmp 6), some (5, true)⟩,
    ⟨some 8, Op.fieldAddr 61 (Operand.tmp 7) 0, some (5, true)⟩,
    ⟨some 9, Op.load 59 (Operand.tmp 8), some (5, true)⟩,
    ⟨some 10, Op.call { callee := Callee.builtin Builtin.len, args := #[Operand.tmp 9], argTypes := #[59] }, some (5, true)⟩,
    ⟨some 11, Op.binOp BinOp.gtr 3 (Operand.tmp 10) (Operand.const (Value.int IntKind.i64 0)) 3, some (5, true)⟩,
    ⟨some 12, Op.pick (Operand.tmp 5) (Operand.tmp 11) (Operand.const (Value.bool false)), none⟩,
    ⟨some 2, Op.assign (Operand.tmp 12), none⟩])
  .ret))
theorem ir30_eq : (Try.f30.body.map low, Try.f30.ntmps, Try.f30.results.toList) = (some ir30, 13, [.tmp 2]) := by kernel_rfl
def ir31 : LC := (.seq (.ops [⟨some 4, Op.assign (Operand.const (Value.bool false)), none⟩])
  (.seq (.ops [⟨some 5, Op.move (Operand.tmp 1), none⟩,
    ⟨some 6, Op.binOp BinOp.geq 3 (Operand.tmp 5) (Operand.const (Value.int IntKind.i64 0)) 3, none⟩,
    ⟨some 7, Op.move (Operand.tmp 6), none⟩,
    ⟨some 8, Op.move (Operand.tmp 1), some (7, true)⟩,
    ⟨some 9, Op.move (Operand.tmp 0), some (7, true)⟩,
    ⟨some 10, Op.nilCheck (Operand.tmp 9), some (7, true)⟩,
    ⟨some 11, Op.fieldAddr 61 (Operand.tmp 10) 1, some (7, true)⟩,
    ⟨some 12, Op.load 49 (Operand.tmp 11), some (7, true)⟩,
    ⟨some 13, Op.call { callee := Callee.builtin Builtin.len, args := #[Operand.tmp 12], argTypes := #[49] }, some (7, true)⟩,
    ⟨some 14, Op.binOp BinOp.lss 3 (Operand.tmp 8) (Operand.tmp 13) 3, some (7, true)⟩,
    ⟨some 15, Op.pick (Operand.tmp 7) (Operand.tmp 14) (Operand.const (Value.bool false)), none⟩,
    ⟨some 4, Op.assign (Operand.tmp 15), none⟩])
  .ret))
theorem ir31_eq : (Try.f31.body.map low, Try.f31.ntmps, Try.f31.results.toList) = (some ir31, 16, [.tmp 4]) := by kernel_rfl
def ir32 : LC := (.seq (.ops [⟨some 4, Op.assign (Operand.const (Value.pointer none)), none⟩,
    ⟨some 5, Op.assign (Operand.const (Value.int IntKind.i64 0)), none⟩])
  (.seq (.block 0 (.seq (.ops [⟨some 7, Op.move (Operand.tmp 0), none⟩,
    ⟨some 8, Op.call { callee := Callee.value (Operand.func 30), args := #[Operand.tmp 7], argTypes := #[23] }, none⟩,
    ⟨some 9, Op.unOp UnOp.not 4 (Operand.tmp 8), none⟩,
    ⟨some 6, Op.assign (Operand.tmp 9), none⟩])
  (.cond (Operand.tmp 6)
  (.seq (.ops [⟨some 4, Op.assign (Operand.const (Value.pointer none)), none⟩,
    ⟨some 5, Op.assign (Operand.const (Value.int IntKind.i64 1)), none⟩])
  .ret)
  (.seq (.ops [⟨some 11, Op.move (Operand.tmp 1), none⟩,
    ⟨some 12, Op.binOp BinOp.lss 3 (Operand.tmp 11) (Operand.const (Value.int IntKind.i64 0)) 3, none⟩,
    ⟨some 13, Op.move (Operand.tmp 12), none⟩,
    ⟨some 14, Op.move (Operand.tmp 1), some (13, false)⟩,
    ⟨some 15, Op.move (Operand.tmp 0), some (13, false)⟩,
    ⟨some 16, Op.nilCheck (Operand.tmp 15), some (13, false)⟩,
    ⟨some 17, Op.fieldAddr 61 (Operand.tmp 16) 0, some (13, false)⟩,
    ⟨some 18, Op.load 59 (Operand.tmp 17), some (13, false)⟩,
    ⟨some 19, Op.call { callee := Callee.builtin Builtin.len, args := #[Operand.tmp 18], argTypes := #[59] }, some (13, false)⟩,
    ⟨some 20, Op.binOp BinOp.geq 3 (Operand.tmp 14) (Operand.tmp 19) 3, some (13, false)⟩,
    ⟨some 21, Op.pick (Operand.tmp 13) (Operand.const (Value.bool true)) (Operand.tmp 20), none⟩,
    ⟨some 22, Op.move (Operand.tmp 21), none⟩,
    ⟨some 23, Op.move (Operand.tmp 0), some (22, false)⟩,
    ⟨some 24, Op.nilCheck (Operand.tmp 23), some (22, false)⟩,
    ⟨some 25, Op.fieldAddr 61 (Operand.tmp 24) 0, some (22, false)⟩,
    ⟨some 26, Op.load 59 (Operand.tmp 25), some (22, false)⟩,
    ⟨some 27, Op.move (Operand.tmp 1), some (22, false)⟩,
    ⟨some 28, Op.indexAddr 59 (Operand.tmp 26) (Operand.tmp 27), some (22, false)⟩,
    ⟨some 29, Op.fieldAddr 67 (Operand.tmp 28) 1, some (22, false)⟩,
    ⟨some 30, Op.load 3 (Operand.tmp 29), some (22, false)⟩,
    ⟨some 31, Op.binOp BinOp.eql 3 (Operand.tmp 30) (Operand.const (Value.int IntKind.i64 0)) 3, some (22, false)⟩,
    ⟨some 32, Op.pick (Operand.tmp 22) (Operand.const (Value.bool true)) (Operand.tmp 31), none⟩,
    ⟨some 10, Op.assign (Operand.tmp 32), none⟩])
  (.cond (Operand.tmp 10)
  (.seq (.ops [⟨some 4, Op.assign (Operand.const (Value.pointer none)), none⟩,
    ⟨some 5, Op.assign (Operand.const (Value.int IntKind.i64 6)), none⟩])
  .ret)
  .skip)))))
  (.seq (.ops [⟨some 33, Op.move (Operand.tmp 0), none⟩,
    ⟨some 34, Op.nilCheck (Operand.tmp 33), none⟩,
    ⟨some 35, Op.fieldAddr 61 (Operand.tmp 34) 0, none⟩,
    ⟨some 36, Op.load 59 (Operand.tmp 35), none⟩,
    ⟨some 37, Op.move (Operand.tmp 1), none⟩,
    ⟨some 38, Op.indexAddr 59 (Operand.tmp 36) (Operand.tmp 37), none⟩,
    ⟨some 4, Op.assign (Operand.tmp 38), none⟩,
    ⟨some 5, Op.assign (Operand.const (Value.int IntKind.i64 0)), none⟩])
  .ret)))
theorem ir32_eq : (Try.f32.body.map low, Try.f32.ntmps, Try.f32.results.toList) = (some ir32, 39, [.tmp 4, .tmp 5]) := by kernel_rfl
def ir33 : LC := (.seq (.ops [⟨some 4, Op.move (Operand.tmp 1), none⟩,
    ⟨some 5, Op.nilCheck (Operand.tmp 4), none⟩,
    ⟨some 6, Op.fieldAddr 67 (Operand.tmp 5) 1, none⟩,
    ⟨none, Op.store 3 (Operand.tmp 6) (Operand.const (Value.int IntKind.i64 0)), none⟩])
  (.draw [⟨some 7, Op.move (Operand.tmp 0), none⟩,
    ⟨some 8, Op.nilCheck (Operand.tmp 7), none⟩,
    ⟨some 9, Op.fieldAddr 61 (Operand.tmp 8) 2, none⟩,
    ⟨some 10, Op.load 49 (Operand.tmp 9), none⟩,
    ⟨some 11, Op.move (Operand.tmp 1), none⟩,
    ⟨some 12, Op.nilCheck (Operand.tmp 11), none⟩,
    ⟨some 13, Op.fieldAddr 67 (Operand.tmp 12) 0, none⟩,
    ⟨some 14, Op.load 3 (Operand.tmp 13), none⟩,
    ⟨some 15, Op.indexAddr 49 (Operand.tmp 10) (Operand.tmp 14), none⟩,
    ⟨some 16, Op.load 3 (Operand.tmp 15), none⟩,
    ⟨some 17, Op.binOp BinOp.sub 3 (Operand.tmp 16) (Operand.const (Value.int IntKind.i64 1)) 3, none⟩,
    ⟨some 18, Op.indexAddr 49 (Operand.tmp 10) (Operand.tmp 14), none⟩,
    ⟨none, Op.store 3 (Operand.tmp 18) (Operand.tmp 17), none⟩] []))
theorem ir33_eq : (Try.f33.body.map low, Try.f33.ntmps, Try.f33.results.toList) = (some ir33, 19, []) := by kernel_rfl
def ir34 : LC := (.seq (.ops [⟨some 2, Op.assign (Operand.const (Value.slice none 0 0)), none⟩])
  (.seq (.seq (.ops [⟨some 3, Op.move (Operand.tmp 0), none⟩,
    ⟨some 4, Op.binOp BinOp.eql 35 (Operand.tmp 3) (Operand.const (Value.slice none 0 0)) 35, none⟩])
  (.cond (Operand.tmp 4)
  (.seq (.ops [⟨some 2, Op.assign (Operand.const (Value.slice none 0 0)), none⟩])
  .ret)
  .skip))
  (.seq (.ops [⟨some 5, Op.buildSlice 35 0 #[], none⟩,
    ⟨some 6, Op.move (Operand.tmp 0), none⟩,
    ⟨some 7, Op.call { callee := Callee.builtin Builtin.append, args := #[Operand.tmp 5, Operand.tmp 6], argTypes := #[35, 35] }, none⟩,
    ⟨some 2, Op.assign (Operand.tmp 7), none⟩])
  .ret)))
theorem ir34_eq : (Try.f34.body.map low, Try.f34.ntmps, Try.f34.results.toList) = (some ir34, 8, [.tmp 2]) := by kernel_rfl
def ir35 : LC := (.seq (.ops [⟨some 2, Op.assign (Operand.const (Value.bool false)), none⟩])
  (.seq (.ops [⟨some 3, Op.move (Operand.tmp 0), none⟩,
    ⟨some 4, Op.binOp BinOp.geq 3 (Operand.tmp 3) (Operand.const (Value.int IntKind.i64 0)) 3, none⟩,
    ⟨some 5, Op.move (Operand.tmp 4), none⟩,
    ⟨some 6, Op.move (Operand.tmp 0), some (5, true)⟩,
    ⟨some 7, Op.binOp BinOp.lss 3 (Operand.tmp 6) (Operand.const (Value.int IntKind.i64 256)) 3, some (5, true)⟩,
    ⟨some 8, Op.pick (Operand.tmp 5) (Operand.tmp 7) (Operand.const (Value.bool false)), none⟩,
    ⟨some 2, Op.assign (Operand.tmp 8), none⟩])
  .ret))
theorem ir35_eq : (Try.f35.body.map low, Try.f35.ntmps, Try.f35.results.toList) = (some ir35, 9, [.tmp 2]) := by kernel_rfl
def ir36_l0 : LC := (.seq (.ops [⟨some 15, Op.binOp BinOp.lss 3 (Operand.tmp 14) (Operand.tmp 13) 3, none⟩])
  (.seq (.cond (Operand.tmp 15)
  .skip
  (.exit 0))
  (.seq (.block 1 (.seq (.ops [⟨some 16, Op.move (Operand.tmp 14), none⟩,
    ⟨some 4, Op.assign (Operand.tmp 16), none⟩])
  (.seq (.ops [⟨some 18, Op.move (Operand.tmp 0), none⟩,
    ⟨some 19, Op.move (Operand.tmp 4), none⟩,
    ⟨some 20, Op.call { callee := Callee.value (Operand.func 19), args := #[Operand.tmp 18, Operand.tmp 19], argTypes := #[23, 3] }, none⟩,
    ⟨some 17, Op.move (Operand.tmp 20), none⟩,
    ⟨some 21, Op.extract (Operand.tmp 17) 0, none⟩,
    ⟨some 22, Op.extract (Operand.tmp 17) 1, none⟩,
    ⟨some 5, Op.alloc 46, none⟩,
    ⟨none, Op.store 46 (Operand.tmp 5) (Operand.tmp 21), none⟩,
    ⟨some 6, Op.assign (Operand.tmp 22), none⟩])
  (.seq (.ops [⟨some 23, Op.move (Operand.tmp 6), none⟩,
    ⟨some 24, Op.binOp BinOp.eql 24 (Operand.tmp 23) (Operand.const (Value.int IntKind.i64 0)) 24, none⟩])
  (.cond (Operand.tmp 24)
  (.ops [⟨some 25, Op.load 93 (Operand.tmp 3), none⟩,
    ⟨some 26, Op.load 46 (Operand.tmp 5), none⟩,
    ⟨some 27, Op.buildSlice 93 1 #[(0, Operand.tmp 26)], none⟩,
    ⟨some 28, Op.call { callee := Callee.builtin Builtin.append, args := #[Operand.tmp 25, Operand.tmp 27], argTypes := #[93, 93] }, none⟩,
    ⟨none, Op.store 93 (Operand.tmp 3) (Operand.tmp 28), none⟩])
  .skip)))))
  (.ops [⟨some 29, Op.binOp BinOp.add 3 (Operand.tmp 14) (Operand.const (Value.int IntKind.i64 1)) 3, none⟩,
    ⟨some 14, Op.move (Operand.tmp 29), none⟩]))))
def ir36 : LC := (.seq (.ops [⟨some 2, Op.assign (Operand.const Value.nilFunc), none⟩])
  (.seq (.ops [⟨some 3, Op.alloc 93, none⟩])
  (.seq (.seq (.ops [⟨some 7, Op.move (Operand.tmp 0), none⟩,
    ⟨some 8, Op.call { callee := Callee.value (Operand.func 30), args := #[Operand.tmp 7], argTypes := #[23] }, none⟩])
  (.cond (Operand.tmp 8)
  (.seq (.ops [⟨some 9, Op.move (Operand.tmp 0), none⟩,
    ⟨some 10, Op.nilCheck (Operand.tmp 9), none⟩,
    ⟨some 11, Op.fieldAddr 61 (Operand.tmp 10) 0, none⟩,
    ⟨some 12, Op.load 59 (Operand.tmp 11), none⟩,
    ⟨some 13, Op.call { callee := Callee.builtin Builtin.len, args := #[Operand.tmp 12], argTypes := #[59] }, none⟩,
    ⟨some 14, Op.move (Operand.const (Value.int IntKind.i64 0)), none⟩])
  (.block 0 (.loop ir36_l0)))
  .skip))
  (.seq (.ops [⟨some 30, Op.makeFunc (Fn.func 54) #[] #[Operand.tmp 3], none⟩,
    ⟨some 2, Op.assign (Operand.tmp 30), none⟩])
  .ret))))
theorem ir36_eq : (Try.f36.body.map low, Try.f36.ntmps, Try.f36.results.toList) = (some ir36, 31, [.tmp 2]) := by kernel_rfl
def ir37_l0 : LC := (.seq (.seq (.ops [⟨some 7, Op.move (Operand.tmp 0), none⟩,
    ⟨some 8, Op.move (Operand.tmp 1), none⟩,
    ⟨some 9, Op.call { callee := Callee.value (Operand.func 55), args := #[Operand.tmp 7, Operand.tmp 8], argTypes := #[52, 3] }, none⟩,
    ⟨some 10, Op.move (Operand.tmp 9), none⟩,
    ⟨some 11, Op.move (Operand.tmp 6), some (10, true)⟩,
    ⟨some 12, Op.move (Operand.tmp 0), some (10, true)⟩,
    ⟨some 13, Op.nilCheck (Operand.tmp 12), some (10, true)⟩,
    ⟨some 14, Op.fieldAddr 78 (Operand.tmp 13) 0, some (10, true)⟩,
    ⟨some 15, Op.load 76 (Operand.tmp 14), some (10, true)⟩,
    ⟨some 16, Op.call { callee := Callee.builtin Builtin.len, args := #[Operand.tmp 15], argTypes := #[76] }, some (10, true)⟩,
    ⟨some 17, Op.binOp BinOp.lss 3 (Operand.tmp 11) (Operand.tmp 16) 3, some (10, true)⟩,
    ⟨some 18, Op.pick (Operand.tmp 10) (Operand.tmp 17) (Operand.const (Value.bool false)), none⟩])
  (.cond (Operand.tmp 18)
  .skip
  (.exit 0)))
  (.seq (.block 1 (.seq (.ops [⟨some 21, Op.move (Operand.tmp 0), none⟩,
    ⟨some 22, Op.nilCheck (Operand.tmp 21), none⟩,
    ⟨some 23, Op.fieldAddr 78 (Operand.tmp 22) 0, none⟩,
    ⟨some 24, Op.load 76 (Operand.tmp 23), none⟩,
    ⟨some 25, Op.move (Operand.tmp 6), none⟩,
    ⟨some 26, Op.indexAddr 76 (Operand.tmp 24) (Operand.tmp 25), none⟩,
    ⟨some 27, Op.fieldAddr 83 (Operand.tmp 26) 1, none⟩,
    ⟨some 28, Op.load 3 (Operand.tmp 27), none⟩,
    ⟨some 29, Op.binOp BinOp.gtr 3 (Operand.tmp 28) (Operand.const (Value.int IntKind.i64 0)) 3, none⟩,
    ⟨some 30, Op.move (Operand.tmp 29), none⟩,
    ⟨some 31, Op.move (Operand.tmp 0), some (30, true)⟩,
    ⟨some 32, Op.nilCheck (Operand.tmp 31), some (30, true)⟩,
    ⟨some 33, Op.fieldAddr 78 (Operand.tmp 32) 0, some (30, true)⟩,
    ⟨some 34, Op.load 76 (Operand.tmp 33), some (30, true)⟩,
    ⟨some 35, Op.move (Operand.tmp 6), some (30, true)⟩,
    ⟨some 36, Op.indexAddr 76 (Operand.tmp 34) (Operand.tmp 35), some (30, true)⟩,
    ⟨some 37, Op.fieldAddr 83 (Operand.tmp 36) 0, some (30, true)⟩,
    ⟨some 38, Op.load 3 (Operand.tmp 37), some (30, true)⟩,
    ⟨some 39, Op.move (Operand.tmp 1), some (30, true)⟩,
    ⟨some 40, Op.binOp BinOp.eql 3 (Operand.tmp 38) (Operand.tmp 39) 3, some (30, true)⟩,
    ⟨some 41, Op.pick (Operand.tmp 30) (Operand.tmp 40) (Operand.const (Value.bool false)), none⟩])
  (.cond (Operand.tmp 41)
  (.ops [⟨some 42, Op.move (Operand.tmp 5), none⟩,
    ⟨some 43, Op.binOp BinOp.add 3 (Operand.tmp 42) (Operand.const (Value.int IntKind.i64 1)) 3, none⟩,
    ⟨some 5, Op.assign (Operand.tmp 43), none⟩])
  .skip)))
  (.ops [⟨some 19, Op.move (Operand.tmp 6), none⟩,
    ⟨some 20, Op.binOp BinOp.add 3 (Operand.tmp 19) (Operand.const (Value.int IntKind.i64 1)) 3, none⟩,
    ⟨some 6, Op.assign (Operand.tmp 20), none⟩])))
def ir37 : LC := (.seq (.ops [⟨some 4, Op.assign (Operand.const (Value.int IntKind.i64 0)), none⟩])
  (.seq (.ops [⟨some 5, Op.assign (Operand.const (Value.int IntKind.i64 0)), none⟩])
  (.seq (.seq (.ops [⟨some 6, Op.assign (Operand.const (Value.int IntKind.i64 0)), none⟩])
  (.block 0 (.loop ir37_l0)))
  (.seq (.ops [⟨some 44, Op.move (Operand.tmp 5), none⟩,
    ⟨some 4, Op.assign (Operand.tmp 44), none⟩])
  .ret))))
theorem ir37_eq : (Try.f37.body.map low, Try.f37.ntmps, Try.f37.results.toList) = (some ir37, 45, [.tmp 4]) := by kernel_rfl
def ir38 : LC := (.seq (.ops [⟨some 4, Op.assign (Operand.const (Value.int IntKind.i64 0)), none⟩])
  (.seq (.seq (.ops [⟨some 5, Op.move (Operand.tmp 0), none⟩,
    ⟨some 6, Op.move (Operand.tmp 1), none⟩,
    ⟨some 7, Op.call { callee := Callee.value (Operand.func 55), args := #[Operand.tmp 5, Operand.tmp 6], argTypes := #[52, 3] }, none⟩,
    ⟨some 8, Op.unOp UnOp.not 4 (Operand.tmp 7), none⟩])
  (.cond (Operand.tmp 8)
  (.seq (.ops [⟨some 4, Op.assign (Operand.const (Value.int IntKind.i64 0)), none⟩])
  .ret)
  .skip))
  (.seq (.ops [⟨some 9, Op.move (Operand.tmp 0), none⟩,
    ⟨some 10, Op.nilCheck (Operand.tmp 9), none⟩,
    ⟨some 11, Op.fieldAddr 78 (Operand.tmp 10) 1, none⟩,
    ⟨some 12, Op.load 49 (Operand.tmp 11), none⟩,
    ⟨some 13, Op.move (Operand.tmp 1), none⟩,
    ⟨some 14, Op.indexAddr 49 (Operand.tmp 12) (Operand.tmp 13), none⟩,
    ⟨some 15, Op.load 3 (Operand.tmp 14), none⟩,
    ⟨some 4, Op.assign (Operand.tmp 15), none⟩])
  .ret)))
theorem ir38_eq : (Try.f38.body.map low, Try.f38.ntmps, Try.f38.results.toList) = (some ir38, 16, [.tmp 4]) := by kernel_rfl
def ir39_l0 : LC := (.seq (.seq (.ops [⟨some 7, Op.move (Operand.tmp 4), none⟩,
    ⟨some 8, Op.move (Operand.tmp 0), none⟩,
    ⟨some 9, Op.nilCheck (Operand.tmp 8), none⟩,
    ⟨some 10, Op.fieldAddr 78 (Operand.tmp 9) 0, none⟩,
    ⟨some 11, Op.load 76 (Operand.tmp 10), none⟩,
    ⟨some 12, Op.call { callee := Callee.builtin Builtin.len, args := #[Operand.tmp 11], argTypes := #[76] }, none⟩,
    ⟨some 13, Op.binOp BinOp.lss 3 (Operand.tmp 7) (Operand.tmp 12) 3, none⟩])
  (.cond (Operand.tmp 13)
  .skip
  (.exit 0)))
  (.seq (.block 1 (.seq (.ops [⟨some 16, Op.move (Operand.tmp 0), none⟩,
    ⟨some 17, Op.nilCheck (Operand.tmp 16), none⟩,
    ⟨some 18, Op.fieldAddr 78 (Operand.tmp 17) 0, none⟩,
    ⟨some 19, Op.load 76 (Operand.tmp 18), none⟩,
    ⟨some 20, Op.move (Operand.tmp 4), none⟩,
    ⟨some 21, Op.indexAddr 76 (Operand.tmp 19) (Operand.tmp 20), none⟩,
    ⟨some 22, Op.fieldAddr 83 (Operand.tmp 21) 1, none⟩,
    ⟨some 23, Op.load 3 (Operand.tmp 22), none⟩,
    ⟨some 24, Op.binOp BinOp.eql 3 (Operand.tmp 23) (Operand.const (Value.int IntKind.i64 0)) 3, none⟩])
  (.cond (Operand.tmp 24)
  (.ops [⟨some 25, Op.move (Operand.tmp 3), none⟩,
    ⟨some 26, Op.binOp BinOp.add 3 (Operand.tmp 25) (Operand.const (Value.int IntKind.i64 1)) 3, none⟩,
    ⟨some 3, Op.assign (Operand.tmp 26), none⟩])
  .skip)))
  (.ops [⟨some 14, Op.move (Operand.tmp 4), none⟩,
    ⟨some 15, Op.binOp BinOp.add 3 (Operand.tmp 14) (Operand.const (Value.int IntKind.i64 1)) 3, none⟩,
    ⟨some 4, Op.assign (Operand.tmp 15), none⟩])))
def ir39 : LC := (.seq (.ops [⟨some 2, Op.assign (Operand.const (Value.int IntKind.i64 0)), none⟩])
  (.seq (.seq (.ops [⟨some 5, Op.move (Operand.tmp 0), none⟩,
    ⟨some 6, Op.binOp BinOp.eql 52 (Operand.tmp 5) (Operand.const (Value.pointer none)) 52, none⟩])
  (.cond (Operand.tmp 6)
  (.seq (.ops [⟨some 2, Op.assign (Operand.const (Value.int IntKind.i64 0)), none⟩])
  .ret)
  .skip))
  (.seq (.ops [⟨some 3, Op.assign (Operand.const (Value.int IntKind.i64 0)), none⟩])
  (.seq (.seq (.ops [⟨some 4, Op.assign (Operand.const (Value.int IntKind.i64 0)), none⟩])
  (.block 0 (.loop ir39_l0)))
  (.seq (.ops [⟨some 27, Op.move (Operand.tmp 3), none⟩,
    ⟨some 2, Op.assign (Operand.tmp 27), none⟩])
  .ret)))))
theorem ir39_eq : (Try.f39.body.map low, Try.f39.ntmps, Try.f39.results.toList) = (some ir39, 28, [.tmp 2]) := by kernel_rfl
def ir40 : LC := (.seq (.ops [⟨some 4, Op.assign (Operand.const (Value.bool false)), none⟩])
  (.seq (.ops [⟨some 5, Op.move (Operand.tmp 0), none⟩,
    ⟨some 6, Op.binOp BinOp.neq 52 (Operand.tmp 5) (Operand.const (Value.pointer none)) 52, none⟩,
    ⟨some 7, Op.move (Operand.tmp 6), none⟩,
    ⟨some 8, Op.move (Operand.tmp 1), some (7, true)⟩,
    ⟨some 9, Op.binOp BinOp.geq 3 (Operand.tmp 8) (Operand.const (Value.int IntKind.i64 0)) 3, some (7, true)⟩,
    ⟨some 10, Op.pick (Operand.tmp 7) (Operand.tmp 9) (Operand.const (Value.bool false)), none⟩,
    ⟨some 11, Op.move (Operand.tmp 10), none⟩,
    ⟨some 12, Op.move (Operand.tmp 1), some (11, true)⟩,
    ⟨some 13, Op.move (Operand.tmp 0), some (11, true)⟩,
    ⟨some 14, Op.nilCheck (Operand.tmp 13), some (11, true)⟩,
    ⟨some 15, Op.fieldAddr 78 (Operand.tmp 14) 0, some (11, true)⟩,
    ⟨some 16, Op.load 76 (Operand.tmp 15), some (11, true)⟩,
    ⟨some 17, Op.call { callee := Callee.builtin Builtin.len, args := #[Operand.tmp 16], argTypes := #[76] }, some (11, true)⟩,
    ⟨some 18, Op.binOp BinOp.lss 3 (Operand.tmp 12) (Operand.tmp 17) 3, some (11, true)⟩,
    ⟨some 19, Op.pick (Operand.tmp 11) (Operand.tmp 18) (Operand.const (Value.bool false)), none⟩,
    ⟨some 20, Op.move (Operand.tmp 19), none⟩,
    ⟨some 21, Op.move (Operand.tmp 0), some (20, true)⟩,
    ⟨some 22, Op.nilCheck (Operand.tmp 21), some (20, true)⟩,
    ⟨some 23, Op.fieldAddr 78 (Operand.tmp 22) 0, some (20, true)⟩,
    ⟨some 24, Op.load 76 (Operand.tmp 23), some (20, true)⟩,
    ⟨some 25, Op.move (Operand.tmp 1), some (20, true)⟩,
    ⟨some 26, Op.indexAddr 76 (Operand.tmp 24) (Operand.tmp 25), some (20, true)⟩,
    ⟨some 27, Op.fieldAddr 83 (Operand.tmp 26) 1, some (20, true)⟩,
    ⟨some 28, Op.load 3 (Operand.tmp 27), some (20, true)⟩,
    ⟨some 29, Op.binOp BinOp.gtr 3 (Operand.tmp 28) (Operand.const (Value.int IntKind.i64 0)) 3, some (20, true)⟩,
    ⟨some 30, Op.pick (Operand.tmp 20) (Operand.tmp 29) (Operand.const (Value.bool false)), none⟩,
    ⟨some 4, Op.assign (Operand.tmp 30), none⟩])
  .ret))
theorem ir40_eq : (Try.f40.body.map low, Try.f40.ntmps, Try.f40.results.toList) = (some ir40, 31, [.tmp 4]) := by kernel_rfl
def ir41 : LC := (.seq (.ops [⟨some 4, Op.alloc 46, none⟩])
  (.seq (.draw [⟨some 5, Op.move (Operand.tmp 1), none⟩,
    ⟨some 6, Op.move (Operand.tmp 0), none⟩,
    ⟨some 7, Op.nilCheck (Operand.tmp 6), none⟩,
    ⟨some 8, Op.fieldAddr 78 (Operand.tmp 7) 0, none⟩,
    ⟨some 9, Op.load 76 (Operand.tmp 8), none⟩,
    ⟨some 10, Op.move (Operand.tmp 1), none⟩,
    ⟨some 11, Op.indexAddr 76 (Operand.tmp 9) (Operand.tmp 10), none⟩,
    ⟨some 12, Op.fieldAddr 83 (Operand.tmp 11) 0, none⟩,
    ⟨some 13, Op.load 3 (Operand.tmp 12), none⟩,
    ⟨some 14, Op.move (Operand.tmp 0), none⟩,
    ⟨some 15, Op.nilCheck (Operand.tmp 14), none⟩,
    ⟨some 16, Op.fieldAddr 78 (Operand.tmp 15) 0, none⟩,
    ⟨some 17, Op.load 76 (Operand.tmp 16), none⟩,
    ⟨some 18, Op.move (Operand.tmp 1), none⟩,
    ⟨some 19, Op.indexAddr 76 (Operand.tmp 17) (Operand.tmp 18), none⟩,
    ⟨some 20, Op.fieldAddr 83 (Operand.tmp 19) 1, none⟩,
    ⟨some 21, Op.load 3 (Operand.tmp 20), none⟩,
    ⟨some 22, Op.build 46 #[(0, Operand.tmp 5), (1, Operand.tmp 13), (2, Operand.tmp 21)], none⟩,
    ⟨none, Op.store 46 (Operand.tmp 4) (Operand.tmp 22), none⟩] [])
  .ret))
theorem ir41_eq : (Try.f41.body.map low, Try.f41.ntmps, Try.f41.results.toList) = (some ir41, 23, [.cell 4 46]) := by kernel_rfl
def ir42_l0 : LC := (.seq (.seq (.ops [⟨some 72, Op.move (Operand.tmp 12), none⟩,
    ⟨some 73, Op.move (Operand.tmp 9), none⟩,
    ⟨some 74, Op.call { callee := Callee.builtin Builtin.len, args := #[Operand.tmp 73], argTypes := #[35] }, none⟩,
    ⟨some 75, Op.binOp BinOp.lss 3 (Operand.tmp 72) (Operand.tmp 74) 3, none⟩])
  (.cond (Operand.tmp 75)
  .skip
  (.exit 0)))
  (.seq (.block 1 (.ops [⟨some 78, Op.move (Operand.tmp 9), none⟩,
    ⟨some 79, Op.move (Operand.tmp 12), none⟩,
    ⟨some 80, Op.indexAddr 35 (Operand.tmp 78) (Operand.tmp 79), none⟩,
    ⟨none, Op.store 5 (Operand.tmp 80) (Operand.const (Value.int IntKind.u8 99)), none⟩]))
  (.ops [⟨some 76, Op.move (Operand.tmp 12), none⟩,
    ⟨some 77, Op.binOp BinOp.add 3 (Operand.tmp 76) (Operand.const (Value.int IntKind.i64 1)) 3, none⟩,
    ⟨some 12, Op.assign (Operand.tmp 77), none⟩])))
def ir42 : LC := (.seq (.ops [⟨some 6, Op.assign (Operand.const (Value.bool false)), none⟩])
  (.seq (.ops [⟨some 14, Op.move (Operand.tmp 0), none⟩,
    ⟨some 15, Op.move (Operand.tmp 2), none⟩,
    ⟨some 16, Op.call { callee := Callee.value (Operand.func 19), args := #[Operand.tmp 14, Operand.tmp 15], argTypes := #[23, 3] }, none⟩,
    ⟨some 13, Op.move (Operand.tmp 16), none⟩,
    ⟨some 17, Op.extract (Operand.tmp 13) 0, none⟩,
    ⟨some 18, Op.extract (Operand.tmp 13) 1, none⟩,
    ⟨some 7, Op.alloc 46, none⟩,
    ⟨none, Op.store 46 (Operand.tmp 7) (Operand.tmp 17), none⟩,
    ⟨some 8, Op.assign (Operand.tmp 18), none⟩])
  (.seq (.ops [⟨some 20, Op.move (Operand.tmp 0), none⟩,
    ⟨some 21, Op.move (Operand.tmp 2), none⟩,
    ⟨some 22, Op.call { callee := Callee.value (Operand.func 15), args := #[Operand.tmp 20, Operand.tmp 21], argTypes := #[23, 3] }, none⟩,
    ⟨some 19, Op.move (Operand.tmp 22), none⟩,
    ⟨some 23, Op.extract (Operand.tmp 19) 0, none⟩,
    ⟨some 24, Op.extract (Operand.tmp 19) 1, none⟩,
    ⟨some 9, Op.assign (Operand.tmp 23), none⟩,
    ⟨some 10, Op.assign (Operand.tmp 24), none⟩])
  (.seq (.seq (.ops [⟨some 25, Op.move (Operand.tmp 1), none⟩,
    ⟨some 26, Op.move (Operand.tmp 2), none⟩,
    ⟨some 27, Op.call { callee := Callee.value (Operand.func 40), args := #[Operand.tmp 25, Operand.tmp 26], argTypes := #[52, 3] }, none⟩,
    ⟨some 28, Op.unOp UnOp.not 4 (Operand.tmp 27), none⟩])
  (.cond (Operand.tmp 28)
  (.seq (.ops [⟨some 29, Op.move (Operand.tmp 8), none⟩,
    ⟨some 30, Op.binOp BinOp.eql 24 (Operand.tmp 29) (Operand.const (Value.int IntKind.i64 6)) 24, none⟩,
    ⟨some 31, Op.move (Operand.tmp 30), none⟩,
    ⟨some 32, Op.load 46 (Operand.tmp 7), some (31, true)⟩,
    ⟨some 33, Op.build 46 #[], some (31, true)⟩,
    ⟨some 34, Op.binOp BinOp.eql 46 (Operand.tmp 32) (Operand.tmp 33) 46, some (31, true)⟩,
    ⟨some 35, Op.pick (Operand.tmp 31) (Operand.tmp 34) (Operand.const (Value.bool false)), none⟩,
    ⟨some 36, Op.move (Operand.tmp 35), none⟩,
    ⟨some 37, Op.move (Operand.tmp 10), some (36, true)⟩,
    ⟨some 38, Op.binOp BinOp.eql 24 (Operand.tmp 37) (Operand.const (Value.int IntKind.i64 6)) 24, some (36, true)⟩,
    ⟨some 39, Op.pick (Operand.tmp 36) (Operand.tmp 38) (Operand.const (Value.bool false)), none⟩,
    ⟨some 40, Op.move (Operand.tmp 39), none⟩,
    ⟨some 41, Op.move (Operand.tmp 9), some (40, true)⟩,
    ⟨some 42, Op.call { callee := Callee.builtin Builtin.len, args := #[Operand.tmp 41], argTypes := #[35] }, some (40, true)⟩,
    ⟨some 43, Op.binOp BinOp.eql 3 (Operand.tmp 42) (Operand.const (Value.int IntKind.i64 0)) 3, some (40, true)⟩,
    ⟨some 44, Op.pick (Operand.tmp 40) (Operand.tmp 43) (Operand.const (Value.bool false)), none⟩,
    ⟨some 6, Op.assign (Operand.tmp 44), none⟩])
  .ret)
  .skip))
  (.seq (.draw [⟨some 45, Op.move (Operand.tmp 8), none⟩,
    ⟨some 46, Op.binOp BinOp.eql 24 (Operand.tmp 45) (Operand.const (Value.int IntKind.i64 0)) 24, none⟩,
    ⟨some 47, Op.move (Operand.tmp 46), none⟩,
    ⟨some 48, Op.load 46 (Operand.tmp 7), some (47, true)⟩,
    ⟨some 49, Op.move (Operand.tmp 1), some (47, true)⟩,
    ⟨some 50, Op.move (Operand.tmp 2), some (47, true)⟩,
    ⟨some 51, Op.call { callee := Callee.value (Operand.func 41), args := #[Operand.tmp 49, Operand.tmp 50], argTypes := #[52, 3] }, some (47, true)⟩,
    ⟨some 52, Op.binOp BinOp.eql 46 (Operand.tmp 48) (Operand.tmp 51) 46, some (47, true)⟩,
    ⟨some 53, Op.pick (Operand.tmp 47) (Operand.tmp 52) (Operand.const (Value.bool false)), none⟩,
    ⟨some 54, Op.move (Operand.tmp 53), none⟩,
    ⟨some 55, Op.move (Operand.tmp 10), some (54, true)⟩,
    ⟨some 56, Op.binOp BinOp.eql 24 (Operand.tmp 55) (Operand.const (Value.int IntKind.i64 0)) 24, some (54, true)⟩,
    ⟨some 57, Op.pick (Operand.tmp 54) (Operand.tmp 56) (Operand.const (Value.bool false)), none⟩,
    ⟨some 58, Op.move (Operand.tmp 57), none⟩,
    ⟨some 59, Op.move (Operand.tmp 9), some (58, true)⟩,
    ⟨some 60, Op.convert 35 9 (Operand.tmp 59), some (58, true)⟩,
    ⟨some 61, Op.move (Operand.tmp 1), some (58, true)⟩,
    ⟨some 62, Op.nilCheck (Operand.tmp 61), some (58, true)⟩,
    ⟨some 63, Op.fieldAddr 78 (Operand.tmp 62) 0, some (58, true)⟩,
    ⟨some 64, Op.load 76 (Operand.tmp 63), some (58, true)⟩,
    ⟨some 65, Op.move (Operand.tmp 2), some (58, true)⟩,
    ⟨some 66, Op.indexAddr 76 (Operand.tmp 64) (Operand.tmp 65), some (58, true)⟩,
    ⟨some 67, Op.fieldAddr 83 (Operand.tmp 66) 2, some (58, true)⟩,
    ⟨some 68, Op.load 35 (Operand.tmp 67), some (58, true)⟩,
    ⟨some 69, Op.convert 35 9 (Operand.tmp 68), some (58, true)⟩,
    ⟨some 70, Op.binOp BinOp.eql 9 (Operand.tmp 60) (Operand.tmp 69) 9, some (58, true)⟩,
    ⟨some 71, Op.pick (Operand.tmp 58) (Operand.tmp 70) (Operand.const (Value.bool false)), none⟩,
    ⟨some 11, Op.assign (Operand.tmp 71), none⟩] [(3, 6)])
  (.seq (.seq (.ops [⟨some 12, Op.assign (Operand.const (Value.int IntKind.i64 0)), none⟩])
  (.block 0 (.loop ir42_l0)))
  (.seq (.ops [⟨some 81, Op.move (Operand.tmp 11), none⟩,
    ⟨some 6, Op.assign (Operand.tmp 81), none⟩])
  .ret)))))))
theorem ir42_eq : (Try.f42.body.map low, Try.f42.ntmps, Try.f42.results.toList) = (some ir42, 82, [.tmp 6]) := by kernel_rfl
def ir43_l0 : LC := (.seq (.seq (.ops [⟨some 6, Op.move (Operand.tmp 5), none⟩,
    ⟨some 7, Op.move (Operand.tmp 1), none⟩,
    ⟨some 8, Op.nilCheck (Operand.tmp 7), none⟩,
    ⟨some 9, Op.fieldAddr 78 (Operand.tmp 8) 0, none⟩,
    ⟨some 10, Op.load 76 (Operand.tmp 9), none⟩,
    ⟨some 11, Op.call { callee := Callee.builtin Builtin.len, args := #[Operand.tmp 10], argTypes := #[76] }, none⟩,
    ⟨some 12, Op.binOp BinOp.lss 3 (Operand.tmp 6) (Operand.tmp 11) 3, none⟩])
  (.cond (Operand.tmp 12)
  .skip
  (.exit 0)))
  (.seq (.block 1 (.seq (.ops [⟨some 15, Op.move (Operand.tmp 0), none⟩,
    ⟨some 16, Op.move (Operand.tmp 1), none⟩,
    ⟨some 17, Op.move (Operand.tmp 5), none⟩,
    ⟨some 18, Op.call { callee := Callee.value (Operand.func 42), args := #[Operand.tmp 15, Operand.tmp 16, Operand.tmp 17], argTypes := #[23, 52, 3] }, none⟩,
    ⟨some 19, Op.unOp UnOp.not 4 (Operand.tmp 18), none⟩])
  (.cond (Operand.tmp 19)
  (.seq (.ops [⟨some 4, Op.assign (Operand.const (Value.bool false)), none⟩])
  .ret)
  .skip)))
  (.ops [⟨some 13, Op.move (Operand.tmp 5), none⟩,
    ⟨some 14, Op.binOp BinOp.add 3 (Operand.tmp 13) (Operand.const (Value.int IntKind.i64 1)) 3, none⟩,
    ⟨some 5, Op.assign (Operand.tmp 14), none⟩])))
def ir43 : LC := (.seq (.ops [⟨some 4, Op.assign (Operand.const (Value.bool false)), none⟩])
  (.seq (.seq (.ops [⟨some 5, Op.assign (Operand.const (Value.int IntKind.i64 0)), none⟩])
  (.block 0 (.loop ir43_l0)))
  (.seq (.ops [⟨some 4, Op.assign (Operand.const (Value.bool true)), none⟩])
  .ret)))
theorem ir43_eq : (Try.f43.body.map low, Try.f43.ntmps, Try.f43.results.toList) = (some ir43, 20, [.tmp 4]) := by kernel_rfl
def ir44 : LC := (.seq (.ops [⟨some 2, Op.assign (Operand.const (Value.slice none 0 0)), none⟩])
  (.seq (.seq (.ops [⟨some 3, Op.move (Operand.tmp 0), none⟩,
    ⟨some 4, Op.binOp BinOp.eql 59 (Operand.tmp 3) (Operand.const (Value.slice none 0 0)) 59, none⟩])
  (.cond (Operand.tmp 4)
  (.seq (.ops [⟨some 2, Op.assign (Operand.const (Value.slice none 0 0)), none⟩])
  .ret)
  .skip))
  (.seq (.ops [⟨some 5, Op.buildSlice 59 0 #[], none⟩,
    ⟨some 6, Op.move (Operand.tmp 0), none⟩,
    ⟨some 7, Op.call { callee := Callee.builtin Builtin.append, args := #[Operand.tmp 5, Operand.tmp 6], argTypes := #[59, 59] }, none⟩,
    ⟨some 2, Op.assign (Operand.tmp 7), none⟩])
  .ret)))
theorem ir44_eq : (Try.f44.body.map low, Try.f44.ntmps, Try.f44.results.toList) = (some ir44, 8, [.tmp 2]) := by kernel_rfl
def ir45_l0 : LC := (.seq (.seq (.ops [⟨some 24, Op.move (Operand.tmp 0), none⟩,
    ⟨some 25, Op.nilCheck (Operand.tmp 24), none⟩,
    ⟨some 26, Op.fieldAddr 78 (Operand.tmp 25) 0, none⟩,
    ⟨some 27, Op.load 76 (Operand.tmp 26), none⟩,
    ⟨some 28, Op.move (Operand.tmp 6), none⟩,
    ⟨some 29, Op.indexAddr 76 (Operand.tmp 27) (Operand.tmp 28), none⟩,
    ⟨some 30, Op.fieldAddr 83 (Operand.tmp 29) 1, none⟩,
    ⟨some 31, Op.load 3 (Operand.tmp 30), none⟩,
    ⟨some 32, Op.binOp BinOp.gtr 3 (Operand.tmp 31) (Operand.const (Value.int IntKind.i64 0)) 3, none⟩])
  (.cond (Operand.tmp 32)
  .skip
  (.exit 0)))
  (.block 1 (.ops [⟨some 33, Op.move (Operand.tmp 6), none⟩,
    ⟨some 34, Op.binOp BinOp.add 3 (Operand.tmp 33) (Operand.const (Value.int IntKind.i64 1)) 3, none⟩,
    ⟨some 6, Op.assign (Operand.tmp 34), none⟩])))
def ir45 : LC := (.seq (.ops [⟨some 4, Op.assign (Operand.const (Value.int IntKind.i64 0)), none⟩,
    ⟨some 5, Op.assign (Operand.const (Value.int IntKind.i64 0)), none⟩])
  (.seq (.seq (.ops [⟨some 7, Op.move (Operand.tmp 0), none⟩,
    ⟨some 8, Op.binOp BinOp.eql 52 (Operand.tmp 7) (Operand.const (Value.pointer none)) 52, none⟩])
  (.cond (Operand.tmp 8)
  (.seq (.ops [⟨some 4, Op.assign (Operand.const (Value.int IntKind.i64 0)), none⟩,
    ⟨some 5, Op.assign (Operand.const (Value.int IntKind.i64 1)), none⟩])
  .ret)
  .skip))
  (.seq (.seq (.ops [⟨some 9, Op.move (Operand.tmp 0), none⟩,
    ⟨some 10, Op.move (Operand.tmp 1), none⟩,
    ⟨some 11, Op.call { callee := Callee.value (Operand.func 55), args := #[Operand.tmp 9, Operand.tmp 10], argTypes := #[52, 3] }, none⟩,
    ⟨some 12, Op.unOp UnOp.not 4 (Operand.tmp 11), none⟩])
  (.cond (Operand.tmp 12)
  (.seq (.ops [⟨some 4, Op.assign (Operand.const (Value.int IntKind.i64 0)), none⟩,
    ⟨some 5, Op.assign (Operand.const (Value.int IntKind.i64 2)), none⟩])
  .ret)
  .skip))
  (.seq (.seq (.draw [⟨some 13, Op.move (Operand.tmp 0), none⟩,
    ⟨some 14, Op.move (Operand.tmp 1), none⟩,
    ⟨some 15, Op.call { callee := Callee.value (Operand.func 37), args := #[Operand.tmp 13, Operand.tmp 14], argTypes := #[52, 3] }, none⟩,
    ⟨some 16, Op.move (Operand.tmp 0), none⟩,
    ⟨some 17, Op.nilCheck (Operand.tmp 16), none⟩,
    ⟨some 18, Op.fieldAddr 78 (Operand.tmp 17) 1, none⟩,
    ⟨some 19, Op.load 49 (Operand.tmp 18), none⟩,
    ⟨some 20, Op.move (Operand.tmp 1), none⟩,
    ⟨some 21, Op.indexAddr 49 (Operand.tmp 19) (Operand.tmp 20), none⟩,
    ⟨some 22, Op.load 3 (Operand.tmp 21), none⟩,
    ⟨some 23, Op.binOp BinOp.geq 3 (Operand.tmp 15) (Operand.tmp 22) 3, none⟩] [(2, 3), (2, 4), (2, 5), (2, 6), (2, 7), (2, 8), (2, 9)])
  (.cond (Operand.tmp 23)
  (.seq (.ops [⟨some 4, Op.assign (Operand.const (Value.int IntKind.i64 0)), none⟩,
    ⟨some 5, Op.assign (Operand.const (Value.int IntKind.i64 5)), none⟩])
  .ret)
  .skip))
  (.seq (.ops [⟨some 6, Op.assign (Operand.const (Value.int IntKind.i64 0)), none⟩])
  (.seq (.block 0 (.loop ir45_l0))
  (.seq (.draw [⟨some 35, Op.move (Operand.tmp 0), none⟩,
    ⟨some 36, Op.nilCheck (Operand.tmp 35), none⟩,
    ⟨some 37, Op.fieldAddr 78 (Operand.tmp 36) 0, none⟩,
    ⟨some 38, Op.load 76 (Operand.tmp 37), none⟩,
    ⟨some 39, Op.move (Operand.tmp 6), none⟩,
    ⟨some 40, Op.move (Operand.tmp 1), none⟩,
    ⟨some 41, Op.makeSlice 35 (Operand.const (Value.int IntKind.i64 256)) (Operand.const (Value.int IntKind.i64 256)), none⟩,
    ⟨some 42, Op.build 83 #[(0, Operand.tmp 40), (1, Operand.const (Value.int IntKind.i64 1)), (2, Operand.tmp 41)], none⟩,
    ⟨some 43, Op.indexAddr 76 (Operand.tmp 38) (Operand.tmp 39), none⟩,
    ⟨none, Op.store 83 (Operand.tmp 43) (Operand.tmp 42), none⟩] [(0, 6), (1, 6), (2, 6), (3, 6), (4, 6), (5, 6)])
  (.seq (.ops [⟨some 44, Op.move (Operand.tmp 6), none⟩,
    ⟨some 4, Op.assign (Operand.tmp 44), none⟩,
    ⟨some 5, Op.assign (Operand.const (Value.int IntKind.i64 0)), none⟩])
  .ret))))))))
theorem ir45_eq : (Try.f45.body.map low, Try.f45.ntmps, Try.f45.results.toList) = (some ir45, 45, [.tmp 4, .tmp 5]) := by kernel_rfl
def ir46 : LC := (.seq (.ops [⟨some 4, Op.assign (Operand.const (Value.int IntKind.i64 0)), none⟩])
  (.seq (.seq (.ops [⟨some 5, Op.move (Operand.tmp 0), none⟩,
    ⟨some 6, Op.binOp BinOp.eql 52 (Operand.tmp 5) (Operand.const (Value.pointer none)) 52, none⟩])
  (.cond (Operand.tmp 6)
  (.seq (.ops [⟨some 4, Op.assign (Operand.const (Value.int IntKind.i64 1)), none⟩])
  .ret)
  .skip))
  (.seq (.seq (.ops [⟨some 7, Op.move (Operand.tmp 0), none⟩,
    ⟨some 8, Op.move (Operand.tmp 1), none⟩,
    ⟨some 9, Op.call { callee := Callee.value (Operand.func 40), args := #[Operand.tmp 7, Operand.tmp 8], argTypes := #[52, 3] }, none⟩,
    ⟨some 10, Op.unOp UnOp.not 4 (Operand.tmp 9), none⟩])
  (.cond (Operand.tmp 10)
  (.seq (.ops [⟨some 4, Op.assign (Operand.const (Value.int IntKind.i64 6)), none⟩])
  .ret)
  .skip))
  (.seq (.seq (.ops [⟨some 11, Op.move (Operand.tmp 0), none⟩,
    ⟨some 12, Op.nilCheck (Operand.tmp 11), none⟩,
    ⟨some 13, Op.fieldAddr 78 (Operand.tmp 12) 0, none⟩,
    ⟨some 14, Op.load 76 (Operand.tmp 13), none⟩,
    ⟨some 15, Op.move (Operand.tmp 1), none⟩,
    ⟨some 16, Op.indexAddr 76 (Operand.tmp 14) (Operand.tmp 15), none⟩,
    ⟨some 17, Op.fieldAddr 83 (Operand.tmp 16) 1, none⟩,
    ⟨some 18, Op.load 3 (Operand.tmp 17), none⟩,
    ⟨some 19, Op.binOp BinOp.eql 3 (Operand.tmp 18) (Operand.const (Value.int IntKind.i64 65535)) 3, none⟩])
  (.cond (Operand.tmp 19)
  (.seq (.ops [⟨some 4, Op.assign (Operand.const (Value.int IntKind.i64 5)), none⟩])
  .ret)
  .skip))
  (.seq (.ops [⟨some 20, Op.move (Operand.tmp 0), none⟩,
    ⟨some 21, Op.nilCheck (Operand.tmp 20), none⟩,
    ⟨some 22, Op.fieldAddr 78 (Operand.tmp 21) 0, none⟩,
    ⟨some 23, Op.load 76 (Operand.tmp 22), none⟩,
    ⟨some 24, Op.move (Operand.tmp 1), none⟩,
    ⟨some 25, Op.indexAddr 76 (Operand.tmp 23) (Operand.tmp 24), none⟩,
    ⟨some 26, Op.fieldAddr 83 (Operand.tmp 25) 1, none⟩,
    ⟨some 27, Op.load 3 (Operand.tmp 26), none⟩,
    ⟨some 28, Op.binOp BinOp.add 3 (Operand.tmp 27) (Operand.const (Value.int IntKind.i64 1)) 3, none⟩,
    ⟨some 29, Op.indexAddr 76 (Operand.tmp 23) (Operand.tmp 24), none⟩,
    ⟨some 30, Op.fieldAddr 83 (Operand.tmp 29) 1, none⟩,
    ⟨none, Op.store 3 (Operand.tmp 30) (Operand.tmp 28), none⟩])
  (.seq (.ops [⟨some 4, Op.assign (Operand.const (Value.int IntKind.i64 0)), none⟩])
  .ret))))))
theorem ir46_eq : (Try.f46.body.map low, Try.f46.ntmps, Try.f46.results.toList) = (some ir46, 31, [.tmp 4]) := by kernel_rfl
def ir47 : LC := (.seq (.ops [⟨some 4, Op.assign (Operand.const (Value.bool false)), none⟩,
    ⟨some 5, Op.assign (Operand.const (Value.int IntKind.i64 0)), none⟩])
  (.seq (.seq (.ops [⟨some 6, Op.move (Operand.tmp 0), none⟩,
    ⟨some 7, Op.binOp BinOp.eql 52 (Operand.tmp 6) (Operand.const (Value.pointer none)) 52, none⟩])
  (.cond (Operand.tmp 7)
  (.seq (.ops [⟨some 4, Op.assign (Operand.const (Value.bool false)), none⟩,
    ⟨some 5, Op.assign (Operand.const (Value.int IntKind.i64 1)), none⟩])
  .ret)
  .skip))
  (.seq (.seq (.ops [⟨some 8, Op.move (Operand.tmp 0), none⟩,
    ⟨some 9, Op.move (Operand.tmp 1), none⟩,
    ⟨some 10, Op.call { callee := Callee.value (Operand.func 40), args := #[Operand.tmp 8, Operand.tmp 9], argTypes := #[52, 3] }, none⟩,
    ⟨some 11, Op.unOp UnOp.not 4 (Operand.tmp 10), none⟩])
  (.cond (Operand.tmp 11)
  (.seq (.ops [⟨some 4, Op.assign (Operand.const (Value.bool false)), none⟩,
    ⟨some 5, Op.assign (Operand.const (Value.int IntKind.i64 6)), none⟩])
  .ret)
  .skip))
  (.seq (.ops [⟨some 12, Op.move (Operand.tmp 0), none⟩,
    ⟨some 13, Op.nilCheck (Operand.tmp 12), none⟩,
    ⟨some 14, Op.fieldAddr 78 (Operand.tmp 13) 0, none⟩,
    ⟨some 15, Op.load 76 (Operand.tmp 14), none⟩,
    ⟨some 16, Op.move (Operand.tmp 1), none⟩,
    ⟨some 17, Op.indexAddr 76 (Operand.tmp 15) (Operand.tmp 16), none⟩,
    ⟨some 18, Op.fieldAddr 83 (Operand.tmp 17) 1, none⟩,
    ⟨some 19, Op.load 3 (Operand.tmp 18), none⟩,
    ⟨some 20, Op.binOp BinOp.sub 3 (Operand.tmp 19) (Operand.const (Value.int IntKind.i64 1)) 3, none⟩,
    ⟨some 21, Op.indexAddr 76 (Operand.tmp 15) (Operand.tmp 16), none⟩,
    ⟨some 22, Op.fieldAddr 83 (Operand.tmp 21) 1, none⟩,
    ⟨none, Op.store 3 (Operand.tmp 22) (Operand.tmp 20), none⟩])
  (.seq (.ops [⟨some 23, Op.move (Operand.tmp 0), none⟩,
    ⟨some 24, Op.nilCheck (Operand.tmp 23), none⟩,
    ⟨some 25, Op.fieldAddr 78 (Operand.tmp 24) 0, none⟩,
    ⟨some 26, Op.load 76 (Operand.tmp 25), none⟩,
    ⟨some 27, Op.move (Operand.tmp 1), none⟩,
    ⟨some 28, Op.indexAddr 76 (Operand.tmp 26) (Operand.tmp 27), none⟩,
    ⟨some 29, Op.fieldAddr 83 (Operand.tmp 28) 1, none⟩,
    ⟨some 30, Op.load 3 (Operand.tmp 29), none⟩,
    ⟨some 31, Op.binOp BinOp.eql 3 (Operand.tmp 30) (Operand.const (Value.int IntKind.i64 0)) 3, none⟩,
    ⟨some 4, Op.assign (Operand.tmp 31), none⟩,
    ⟨some 5, Op.assign (Operand.const (Value.int IntKind.i64 0)), none⟩])
  .ret)))))
theorem ir47_eq : (Try.f47.body.map low, Try.f47.ntmps, Try.f47.results.toList) = (some ir47, 32, [.tmp 4, .tmp 5]) := by kernel_rfl
def ir48_l0 : LC := (.seq (.seq (.ops [⟨some 17, Op.move (Operand.tmp 7), none⟩,
    ⟨some 18, Op.move (Operand.tmp 0), none⟩,
    ⟨some 19, Op.nilCheck (Operand.tmp 18), none⟩,
    ⟨some 20, Op.fieldAddr 78 (Operand.tmp 19) 0, none⟩,
    ⟨some 21, Op.load 76 (Operand.tmp 20), none⟩,
    ⟨some 22, Op.call { callee := Callee.builtin Builtin.len, args := #[Operand.tmp 21], argTypes := #[76] }, none⟩,
    ⟨some 23, Op.binOp BinOp.lss 3 (Operand.tmp 17) (Operand.tmp 22) 3, none⟩])
  (.cond (Operand.tmp 23)
  .skip
  (.exit 0)))
  (.seq (.block 1 (.seq (.ops [⟨some 26, Op.move (Operand.tmp 0), none⟩,
    ⟨some 27, Op.nilCheck (Operand.tmp 26), none⟩,
    ⟨some 28, Op.fieldAddr 78 (Operand.tmp 27) 0, none⟩,
    ⟨some 29, Op.load 76 (Operand.tmp 28), none⟩,
    ⟨some 30, Op.move (Operand.tmp 7), none⟩,
    ⟨some 31, Op.indexAddr 76 (Operand.tmp 29) (Operand.tmp 30), none⟩,
    ⟨some 32, Op.fieldAddr 83 (Operand.tmp 31) 0, none⟩,
    ⟨some 33, Op.load 3 (Operand.tmp 32), none⟩,
    ⟨some 34, Op.move (Operand.tmp 1), none⟩,
    ⟨some 35, Op.binOp BinOp.eql 3 (Operand.tmp 33) (Operand.tmp 34) 3, none⟩])
  (.cond (Operand.tmp 35)
  (.ops [⟨some 36, Op.move (Operand.tmp 0), none⟩,
    ⟨some 37, Op.nilCheck (Operand.tmp 36), none⟩,
    ⟨some 38, Op.fieldAddr 78 (Operand.tmp 37) 0, none⟩,
    ⟨some 39, Op.load 76 (Operand.tmp 38), none⟩,
    ⟨some 40, Op.move (Operand.tmp 7), none⟩,
    ⟨some 41, Op.indexAddr 76 (Operand.tmp 39) (Operand.tmp 40), none⟩,
    ⟨some 42, Op.fieldAddr 83 (Operand.tmp 41) 1, none⟩,
    ⟨none, Op.store 3 (Operand.tmp 42) (Operand.const (Value.int IntKind.i64 0)), none⟩])
  .skip)))
  (.ops [⟨some 24, Op.move (Operand.tmp 7), none⟩,
    ⟨some 25, Op.binOp BinOp.add 3 (Operand.tmp 24) (Operand.const (Value.int IntKind.i64 1)) 3, none⟩,
    ⟨some 7, Op.assign (Operand.tmp 25), none⟩])))
def ir48 : LC := (.seq (.ops [⟨some 4, Op.assign (Operand.const (Value.int IntKind.i64 0)), none⟩,
    ⟨some 5, Op.assign (Operand.const (Value.int IntKind.i64 0)), none⟩])
  (.seq (.seq (.ops [⟨some 8, Op.move (Operand.tmp 0), none⟩,
    ⟨some 9, Op.binOp BinOp.eql 52 (Operand.tmp 8) (Operand.const (Value.pointer none)) 52, none⟩])
  (.cond (Operand.tmp 9)
  (.seq (.ops [⟨some 4, Op.assign (Operand.const (Value.int IntKind.i64 0)), none⟩,
    ⟨some 5, Op.assign (Operand.const (Value.int IntKind.i64 1)), none⟩])
  .ret)
  .skip))
  (.seq (.seq (.ops [⟨some 10, Op.move (Operand.tmp 0), none⟩,
    ⟨some 11, Op.move (Operand.tmp 1), none⟩,
    ⟨some 12, Op.call { callee := Callee.value (Operand.func 55), args := #[Operand.tmp 10, Operand.tmp 11], argTypes := #[52, 3] }, none⟩,
    ⟨some 13, Op.unOp UnOp.not 4 (Operand.tmp 12), none⟩])
  (.cond (Operand.tmp 13)
  (.seq (.ops [⟨some 4, Op.assign (Operand.const (Value.int IntKind.i64 0)), none⟩,
    ⟨some 5, Op.assign (Operand.const (Value.int IntKind.i64 2)), none⟩])
  .ret)
  .skip))
  (.seq (.ops [⟨some 14, Op.move (Operand.tmp 0), none⟩,
    ⟨some 15, Op.move (Operand.tmp 1), none⟩,
    ⟨some 16, Op.call { callee := Callee.value (Operand.func 37), args := #[Operand.tmp 14, Operand.tmp 15], argTypes := #[52, 3] }, none⟩,
    ⟨some 6, Op.assign (Operand.tmp 16), none⟩])
  (.seq (.seq (.ops [⟨some 7, Op.assign (Operand.const (Value.int IntKind.i64 0)), none⟩])
  (.block 0 (.loop ir48_l0)))
  (.seq (.ops [⟨some 43, Op.move (Operand.tmp 6), none⟩,
    ⟨some 4, Op.assign (Operand.tmp 43), none⟩,
    ⟨some 5, Op.assign (Operand.const (Value.int IntKind.i64 0)), none⟩])
  .ret))))))
theorem ir48_eq : (Try.f48.body.map low, Try.f48.ntmps, Try.f48.results.toList) = (some ir48, 44, [.tmp 4, .tmp 5]) := by kernel_rfl
def ir49 : LC := (.seq (.ops [⟨some 2, Op.assign (Operand.const (Value.slice none 0 0)), none⟩])
  (.seq (.ops [⟨some 4, Op.move (Operand.tmp 0), none⟩,
    ⟨some 5, Op.call { callee := Callee.builtin Builtin.append, args := #[Operand.const (Value.slice none 0 0), Operand.tmp 4], argTypes := #[35, 35] }, none⟩,
    ⟨some 6, Op.buildSlice 35 1 #[(0, Operand.const (Value.int IntKind.u8 165))], none⟩,
    ⟨some 7, Op.call { callee := Callee.builtin Builtin.append, args := #[Operand.tmp 5, Operand.tmp 6], argTypes := #[35, 35] }, none⟩,
    ⟨some 3, Op.assign (Operand.tmp 7), none⟩])
  (.seq (.ops [⟨some 8, Op.move (Operand.tmp 3), none⟩,
    ⟨some 9, Op.move (Operand.tmp 0), none⟩,
    ⟨some 10, Op.call { callee := Callee.builtin Builtin.len, args := #[Operand.tmp 9], argTypes := #[35] }, none⟩,
    ⟨some 11, Op.slice 35 (Operand.tmp 8) none (some (Operand.tmp 10)) none, none⟩,
    ⟨some 2, Op.assign (Operand.tmp 11), none⟩])
  .ret)))
theorem ir49_eq : (Try.f49.body.map low, Try.f49.ntmps, Try.f49.results.toList) = (some ir49, 12, [.tmp 2]) := by kernel_rfl
def ir50_l0 : LC := (.seq (.seq (.ops [⟨some 29, Op.move (Operand.tmp 9), none⟩,
    ⟨some 30, Op.move (Operand.tmp 3), none⟩,
    ⟨some 31, Op.call { callee := Callee.builtin Builtin.len, args := #[Operand.tmp 30], argTypes := #[35] }, none⟩,
    ⟨some 32, Op.binOp BinOp.lss 3 (Operand.tmp 29) (Operand.tmp 31) 3, none⟩])
  (.cond (Operand.tmp 32)
  .skip
  (.exit 0)))
  (.seq (.block 1 (.draw [⟨some 35, Op.move (Operand.tmp 0), none⟩,
    ⟨some 36, Op.nilCheck (Operand.tmp 35), none⟩,
    ⟨some 37, Op.fieldAddr 78 (Operand.tmp 36) 0, none⟩,
    ⟨some 38, Op.load 76 (Operand.tmp 37), none⟩,
    ⟨some 39, Op.move (Operand.tmp 1), none⟩,
    ⟨some 40, Op.indexAddr 76 (Operand.tmp 38) (Operand.tmp 39), none⟩,
    ⟨some 41, Op.fieldAddr 83 (Operand.tmp 40) 2, none⟩,
    ⟨some 42, Op.load 35 (Operand.tmp 41), none⟩,
    ⟨some 43, Op.move (Operand.tmp 2), none⟩,
    ⟨some 44, Op.move (Operand.tmp 9), none⟩,
    ⟨some 45, Op.binOp BinOp.add 3 (Operand.tmp 43) (Operand.tmp 44) 3, none⟩,
    ⟨some 46, Op.move (Operand.tmp 3), none⟩,
    ⟨some 47, Op.move (Operand.tmp 9), none⟩,
    ⟨some 48, Op.indexAddr 35 (Operand.tmp 46) (Operand.tmp 47), none⟩,
    ⟨some 49, Op.load 5 (Operand.tmp 48), none⟩,
    ⟨some 50, Op.indexAddr 35 (Operand.tmp 42) (Operand.tmp 45), none⟩,
    ⟨none, Op.store 5 (Operand.tmp 50) (Operand.tmp 49), none⟩] []))
  (.ops [⟨some 33, Op.move (Operand.tmp 9), none⟩,
    ⟨some 34, Op.binOp BinOp.add 3 (Operand.tmp 33) (Operand.const (Value.int IntKind.i64 1)) 3, none⟩,
    ⟨some 9, Op.assign (Operand.tmp 34), none⟩])))
def ir50 : LC := (.seq (.ops [⟨some 8, Op.assign (Operand.const (Value.int IntKind.i64 0)), none⟩])
  (.seq (.seq (.ops [⟨some 10, Op.move (Operand.tmp 0), none⟩,
    ⟨some 11, Op.binOp BinOp.eql 52 (Operand.tmp 10) (Operand.const (Value.pointer none)) 52, none⟩])
  (.cond (Operand.tmp 11)
  (.seq (.ops [⟨some 8, Op.assign (Operand.const (Value.int IntKind.i64 1)), none⟩])
  .ret)
  .skip))
  (.seq (.seq (.ops [⟨some 12, Op.move (Operand.tmp 2), none⟩,
    ⟨some 13, Op.binOp BinOp.lss 3 (Operand.tmp 12) (Operand.const (Value.int IntKind.i64 0)) 3, none⟩,
    ⟨some 14, Op.move (Operand.tmp 13), none⟩,
    ⟨some 15, Op.move (Operand.tmp 2), some (14, false)⟩,
    ⟨some 16, Op.binOp BinOp.geq 3 (Operand.tmp 15) (Operand.const (Value.int IntKind.i64 256)) 3, some (14, false)⟩,
    ⟨some 17, Op.pick (Operand.tmp 14) (Operand.const (Value.bool true)) (Operand.tmp 16), none⟩,
    ⟨some 18, Op.move (Operand.tmp 17), none⟩,
    ⟨some 19, Op.move (Operand.tmp 3), some (18, false)⟩,
    ⟨some 20, Op.call { callee := Callee.builtin Builtin.len, args := #[Operand.tmp 19], argTypes := #[35] }, some (18, false)⟩,
    ⟨some 21, Op.move (Operand.tmp 2), some (18, false)⟩,
    ⟨some 22, Op.binOp BinOp.sub 3 (Operand.const (Value.int IntKind.i64 256)) (Operand.tmp 21) 3, some (18, false)⟩,
    ⟨some 23, Op.binOp BinOp.gtr 3 (Operand.tmp 20) (Operand.tmp 22) 3, some (18, false)⟩,
    ⟨some 24, Op.pick (Operand.tmp 18) (Operand.const (Value.bool true)) (Operand.tmp 23), none⟩])
  (.cond (Operand.tmp 24)
  (.seq (.ops [⟨some 8, Op.assign (Operand.const (Value.int IntKind.i64 2)), none⟩])
  .ret)
  .skip))
  (.seq (.seq (.ops [⟨some 25, Op.move (Operand.tmp 0), none⟩,
    ⟨some 26, Op.move (Operand.tmp 1), none⟩,
    ⟨some 27, Op.call { callee := Callee.value (Operand.func 40), args := #[Operand.tmp 25, Operand.tmp 26], argTypes := #[52, 3] }, none⟩,
    ⟨some 28, Op.unOp UnOp.not 4 (Operand.tmp 27), none⟩])
  (.cond (Operand.tmp 28)
  (.seq (.ops [⟨some 8, Op.assign (Operand.const (Value.int IntKind.i64 6)), none⟩])
  .ret)
  .skip))
  (.seq (.seq (.ops [⟨some 9, Op.assign (Operand.const (Value.int IntKind.i64 0)), none⟩])
  (.block 0 (.loop ir50_l0)))
  (.seq (.ops [⟨some 8, Op.assign (Operand.const (Value.int IntKind.i64 0)), none⟩])
  .ret))))))
theorem ir50_eq : (Try.f50.body.map low, Try.f50.ntmps, Try.f50.results.toList) = (some ir50, 51, [.tmp 8]) := by kernel_rfl
def ir51 : LC := (.seq (.ops [⟨some 6, Op.assign (Operand.const (Value.int IntKind.u8 0)), none⟩,
    ⟨some 7, Op.assign (Operand.const (Value.int IntKind.i64 0)), none⟩])
  (.seq (.seq (.ops [⟨some 8, Op.move (Operand.tmp 0), none⟩,
    ⟨some 9, Op.binOp BinOp.eql 52 (Operand.tmp 8) (Operand.const (Value.pointer none)) 52, none⟩])
  (.cond (Operand.tmp 9)
  (.seq (.ops [⟨some 6, Op.assign (Operand.const (Value.int IntKind.u8 0)), none⟩,
    ⟨some 7, Op.assign (Operand.const (Value.int IntKind.i64 1)), none⟩])
  .ret)
  .skip))
  (.seq (.seq (.ops [⟨some 10, Op.move (Operand.tmp 2), none⟩,
    ⟨some 11, Op.binOp BinOp.lss 3 (Operand.tmp 10) (Operand.const (Value.int IntKind.i64 0)) 3, none⟩,
    ⟨some 12, Op.move (Operand.tmp 11), none⟩,
    ⟨some 13, Op.move (Operand.tmp 2), some (12, false)⟩,
    ⟨some 14, Op.binOp BinOp.geq 3 (Operand.tmp 13) (Operand.const (Value.int IntKind.i64 256)) 3, some (12, false)⟩,
    ⟨some 15, Op.pick (Operand.tmp 12) (Operand.const (Value.bool true)) (Operand.tmp 14), none⟩])
  (.cond (Operand.tmp 15)
  (.seq (.ops [⟨some 6, Op.assign (Operand.const (Value.int IntKind.u8 0)), none⟩,
    ⟨some 7, Op.assign (Operand.const (Value.int IntKind.i64 2)), none⟩])
  .ret)
  .skip))
  (.seq (.seq (.ops [⟨some 16, Op.move (Operand.tmp 0), none⟩,
    ⟨some 17, Op.move (Operand.tmp 1), none⟩,
    ⟨some 18, Op.call { callee := Callee.value (Operand.func 40), args := #[Operand.tmp 16, Operand.tmp 17], argTypes := #[52, 3] }, none⟩,
    ⟨some 19, Op.unOp UnOp.not 4 (Operand.tmp 18), none⟩])
  (.cond (Operand.tmp 19)
  (.seq (.ops [⟨some 6, Op.assign (Operand.const (Value.int IntKind.u8 0)), none⟩,
    ⟨some 7, Op.assign (Operand.const (Value.int IntKind.i64 6)), none⟩])
  .ret)
  .skip))
  (.seq (.ops [⟨some 20, Op.move (Operand.tmp 0), none⟩,
    ⟨some 21, Op.nilCheck (Operand.tmp 20), none⟩,
    ⟨some 22, Op.fieldAddr 78 (Operand.tmp 21) 0, none⟩,
    ⟨some 23, Op.load 76 (Operand.tmp 22), none⟩,
    ⟨some 24, Op.move (Operand.tmp 1), none⟩,
    ⟨some 25, Op.indexAddr 76 (Operand.tmp 23) (Operand.tmp 24), none⟩,
    ⟨some 26, Op.fieldAddr 83 (Operand.tmp 25) 2, none⟩,
    ⟨some 27, Op.load 35 (Operand.tmp 26), none⟩,
    ⟨some 28, Op.move (Operand.tmp 2), none⟩,
    ⟨some 29, Op.indexAddr 35 (Operand.tmp 27) (Operand.tmp 28), none⟩,
    ⟨some 30, Op.load 5 (Operand.tmp 29), none⟩,
    ⟨some 6, Op.assign (Operand.tmp 30), none⟩,
    ⟨some 7, Op.assign (Operand.const (Value.int IntKind.i64 0)), none⟩])
  .ret)))))
theorem ir51_eq : (Try.f51.body.map low, Try.f51.ntmps, Try.f51.results.toList) = (some ir51, 31, [.tmp 6, .tmp 7]) := by kernel_rfl
def ir52_l0 : LC := (.seq (.seq (.ops [⟨some 25, Op.move (Operand.tmp 7), none⟩,
    ⟨some 26, Op.move (Operand.tmp 0), none⟩,
    ⟨some 27, Op.call { callee := Callee.builtin Builtin.len, args := #[Operand.tmp 26], argTypes := #[35] }, none⟩,
    ⟨some 28, Op.binOp BinOp.lss 3 (Operand.tmp 25) (Operand.tmp 27) 3, none⟩])
  (.cond (Operand.tmp 28)
  .skip
  (.exit 0)))
  (.seq (.block 1 (.ops [⟨some 31, Op.move (Operand.tmp 0), none⟩,
    ⟨some 32, Op.move (Operand.tmp 7), none⟩,
    ⟨some 33, Op.indexAddr 35 (Operand.tmp 31) (Operand.tmp 32), none⟩,
    ⟨none, Op.store 5 (Operand.tmp 33) (Operand.const (Value.int IntKind.u8 99)), none⟩]))
  (.ops [⟨some 29, Op.move (Operand.tmp 7), none⟩,
    ⟨some 30, Op.binOp BinOp.add 3 (Operand.tmp 29) (Operand.const (Value.int IntKind.i64 1)) 3, none⟩,
    ⟨some 7, Op.assign (Operand.tmp 30), none⟩])))
def ir52 : LC := (.seq (.ops [⟨some 4, Op.assign (Operand.const (Value.bool false)), none⟩])
  (.seq (.ops [⟨some 8, Op.move (Operand.tmp 1), none⟩,
    ⟨some 9, Op.call { callee := Callee.builtin Builtin.len, args := #[Operand.tmp 8], argTypes := #[35] }, none⟩,
    ⟨some 5, Op.assign (Operand.tmp 9), none⟩])
  (.seq (.ops [⟨some 10, Op.move (Operand.tmp 0), none⟩,
    ⟨some 11, Op.convert 35 9 (Operand.tmp 10), none⟩,
    ⟨some 12, Op.move (Operand.tmp 1), none⟩,
    ⟨some 13, Op.convert 35 9 (Operand.tmp 12), none⟩,
    ⟨some 14, Op.binOp BinOp.eql 9 (Operand.tmp 11) (Operand.tmp 13) 9, none⟩,
    ⟨some 15, Op.move (Operand.tmp 14), none⟩,
    ⟨some 16, Op.move (Operand.tmp 0), some (15, true)⟩,
    ⟨some 17, Op.move (Operand.tmp 5), some (15, true)⟩,
    ⟨some 18, Op.binOp BinOp.add 3 (Operand.tmp 17) (Operand.const (Value.int IntKind.i64 1)) 3, some (15, true)⟩,
    ⟨some 19, Op.slice 35 (Operand.tmp 16) none (some (Operand.tmp 18)) none, some (15, true)⟩,
    ⟨some 20, Op.move (Operand.tmp 5), some (15, true)⟩,
    ⟨some 21, Op.indexAddr 35 (Operand.tmp 19) (Operand.tmp 20), some (15, true)⟩,
    ⟨some 22, Op.load 5 (Operand.tmp 21), some (15, true)⟩,
    ⟨some 23, Op.binOp BinOp.eql 5 (Operand.tmp 22) (Operand.const (Value.int IntKind.u8 165)) 5, some (15, true)⟩,
    ⟨some 24, Op.pick (Operand.tmp 15) (Operand.tmp 23) (Operand.const (Value.bool false)), none⟩,
    ⟨some 6, Op.assign (Operand.tmp 24), none⟩])
  (.seq (.seq (.ops [⟨some 7, Op.assign (Operand.const (Value.int IntKind.i64 0)), none⟩])
  (.block 0 (.loop ir52_l0)))
  (.seq (.ops [⟨some 34, Op.move (Operand.tmp 6), none⟩,
    ⟨some 4, Op.assign (Operand.tmp 34), none⟩])
  .ret)))))
theorem ir52_eq : (Try.f52.body.map low, Try.f52.ntmps, Try.f52.results.toList) = (some ir52, 35, [.tmp 4]) := by kernel_rfl
def ir53 : LC := (.seq (.ops [⟨some 6, Op.assign (Operand.const (Value.int IntKind.i64 0)), none⟩])
  (.seq (.seq (.ops [⟨some 7, Op.move (Operand.tmp 0), none⟩,
    ⟨some 8, Op.binOp BinOp.eql 52 (Operand.tmp 7) (Operand.const (Value.pointer none)) 52, none⟩])
  (.cond (Operand.tmp 8)
  (.seq (.ops [⟨some 6, Op.assign (Operand.const (Value.int IntKind.i64 1)), none⟩])
  .ret)
  .skip))
  (.seq (.seq (.ops [⟨some 9, Op.move (Operand.tmp 0), none⟩,
    ⟨some 10, Op.move (Operand.tmp 1), none⟩,
    ⟨some 11, Op.call { callee := Callee.value (Operand.func 40), args := #[Operand.tmp 9, Operand.tmp 10], argTypes := #[52, 3] }, none⟩,
    ⟨some 12, Op.unOp UnOp.not 4 (Operand.tmp 11), none⟩,
    ⟨some 13, Op.move (Operand.tmp 12), none⟩,
    ⟨some 14, Op.move (Operand.tmp 0), some (13, false)⟩,
    ⟨some 15, Op.move (Operand.tmp 2), some (13, false)⟩,
    ⟨some 16, Op.call { callee := Callee.value (Operand.func 40), args := #[Operand.tmp 14, Operand.tmp 15], argTypes := #[52, 3] }, some (13, false)⟩,
    ⟨some 17, Op.unOp UnOp.not 4 (Operand.tmp 16), some (13, false)⟩,
    ⟨some 18, Op.pick (Operand.tmp 13) (Operand.const (Value.bool true)) (Operand.tmp 17), none⟩])
  (.cond (Operand.tmp 18)
  (.seq (.ops [⟨some 6, Op.assign (Operand.const (Value.int IntKind.i64 6)), none⟩])
  .ret)
  .skip))
  (.seq (.draw [⟨some 19, Op.move (Operand.tmp 0), none⟩,
    ⟨some 20, Op.nilCheck (Operand.tmp 19), none⟩,
    ⟨some 21, Op.fieldAddr 78 (Operand.tmp 20) 0, none⟩,
    ⟨some 22, Op.load 76 (Operand.tmp 21), none⟩,
    ⟨some 23, Op.move (Operand.tmp 2), none⟩,
    ⟨some 24, Op.move (Operand.tmp 0), none⟩,
    ⟨some 25, Op.nilCheck (Operand.tmp 24), none⟩,
    ⟨some 26, Op.fieldAddr 78 (Operand.tmp 25) 0, none⟩,
    ⟨some 27, Op.load 76 (Operand.tmp 26), none⟩,
    ⟨some 28, Op.move (Operand.tmp 1), none⟩,
    ⟨some 29, Op.indexAddr 76 (Operand.tmp 27) (Operand.tmp 28), none⟩,
    ⟨some 30, Op.fieldAddr 83 (Operand.tmp 29) 2, none⟩,
    ⟨some 31, Op.load 35 (Operand.tmp 30), none⟩,
    ⟨some 32, Op.call { callee := Callee.builtin Builtin.append, args := #[Operand.const (Value.slice none 0 0), Operand.tmp 31], argTypes := #[35, 35] }, none⟩,
    ⟨some 33, Op.indexAddr 76 (Operand.tmp 22) (Operand.tmp 23), none⟩,
    ⟨some 34, Op.fieldAddr 83 (Operand.tmp 33) 2, none⟩,
    ⟨none, Op.store 35 (Operand.tmp 34) (Operand.tmp 32), none⟩] [(0, 13), (1, 13), (2, 13), (3, 13), (4, 13)])
  (.seq (.ops [⟨some 6, Op.assign (Operand.const (Value.int IntKind.i64 0)), none⟩])
  .ret)))))
theorem ir53_eq : (Try.f53.body.map low, Try.f53.ntmps, Try.f53.results.toList) = (some ir53, 35, [.tmp 6]) := by kernel_rfl
def ir54_l0 : LC := (.seq (.ops [⟨some 8, Op.binOp BinOp.lss 3 (Operand.tmp 7) (Operand.tmp 6) 3, none⟩])
  (.seq (.cond (Operand.tmp 8)
  .skip
  (.exit 0))
  (.seq (.block 1 (.seq (.ops [⟨some 9, Op.indexAddr 93 (Operand.tmp 5) (Operand.tmp 7), none⟩,
    ⟨some 10, Op.load 46 (Operand.tmp 9), none⟩,
    ⟨some 4, Op.alloc 46, none⟩,
    ⟨none, Op.store 46 (Operand.tmp 4) (Operand.tmp 10), none⟩])
  (.seq (.ops [⟨some 11, Op.move (Operand.tmp 0), none⟩,
    ⟨some 12, Op.load 46 (Operand.tmp 4), none⟩,
    ⟨some 13, Op.call { callee := Callee.value (Operand.tmp 11), args := #[Operand.tmp 12], argTypes := #[46] }, none⟩,
    ⟨some 14, Op.unOp UnOp.not 4 (Operand.tmp 13), none⟩])
  (.cond (Operand.tmp 14)
  .ret
  .skip))))
  (.ops [⟨some 15, Op.binOp BinOp.add 3 (Operand.tmp 7) (Operand.const (Value.int IntKind.i64 1)) 3, none⟩,
    ⟨some 7, Op.move (Operand.tmp 15), none⟩]))))
def ir54 : LC := (.seq (.ops [⟨some 5, Op.load 93 (Operand.tmp 1), none⟩,
    ⟨some 6, Op.call { callee := Callee.builtin Builtin.len, args := #[Operand.tmp 5], argTypes := #[93] }, none⟩,
    ⟨some 7, Op.move (Operand.const (Value.int IntKind.i64 0)), none⟩])
  (.block 0 (.loop ir54_l0)))
theorem ir54_eq : (Try.f54.body.map low, Try.f54.ntmps, Try.f54.results.toList) = (some ir54, 16, []) := by kernel_rfl
def ir55 : LC := (.seq (.ops [⟨some 4, Op.assign (Operand.const (Value.bool false)), none⟩])
  (.seq (.ops [⟨some 5, Op.move (Operand.tmp 0), none⟩,
    ⟨some 6, Op.binOp BinOp.neq 52 (Operand.tmp 5) (Operand.const (Value.pointer none)) 52, none⟩,
    ⟨some 7, Op.move (Operand.tmp 6), none⟩,
    ⟨some 8, Op.move (Operand.tmp 1), some (7, true)⟩,
    ⟨some 9, Op.binOp BinOp.geq 3 (Operand.tmp 8) (Operand.const (Value.int IntKind.i64 0)) 3, some (7, true)⟩,
    ⟨some 10, Op.pick (Operand.tmp 7) (Operand.tmp 9) (Operand.const (Value.bool false)), none⟩,
    ⟨some 11, Op.move (Operand.tmp 10), none⟩,
    ⟨some 12, Op.move (Operand.tmp 1), some (11, true)⟩,
    ⟨some 13, Op.move (Operand.tmp 0), some (11, true)⟩,
    ⟨some 14, Op.nilCheck (Operand.tmp 13), some (11, true)⟩,
    ⟨some 15, Op.fieldAddr 78 (Operand.tmp 14) 1, some (11, true)⟩,
    ⟨some 16, Op.load 49 (Operand.tmp 15), some (11, true)⟩,
    ⟨some 17, Op.call { callee := Callee.builtin Builtin.len, args := #[Operand.tmp 16], argTypes := #[49] }, some (11, true)⟩,
    ⟨some 18, Op.binOp BinOp.lss 3 (Operand.tmp 12) (Operand.tmp 17) 3, some (11, true)⟩,
    ⟨some 19, Op.pick (Operand.tmp 11) (Operand.tmp 18) (Operand.const (Value.bool false)), none⟩,
    ⟨some 4, Op.assign (Operand.tmp 19), none⟩])
  .ret))
theorem ir55_eq : (Try.f55.body.map low, Try.f55.ntmps, Try.f55.results.toList) = (some ir55, 20, [.tmp 4]) := by kernel_rfl

end Go.Proofs.Ytfgdpgagcnelpaa
