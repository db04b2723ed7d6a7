/- The code of this seat struck bare (printed by program). -/
import Derived.Test.YtkfhdaimememiaaProg
import Derived.Test.YtkfhdaimememiaaV4
import Derived.KernelRfl
set_option linter.unusedVariables false
set_option linter.unusedSimpArgs false
set_option linter.unusedSimpArgs false
set_option maxRecDepth 100000
namespace Go.Proofs.Ytkfhdaimememiaa
open Go Go.Vm
def ir5_l0 : LC := (.seq (.ops [⟨some 52, Op.binOp BinOp.lss 3 (Operand.tmp 51) (Operand.const (Value.int IntKind.i64 3)) 3, none⟩])
  (.seq (.cond (Operand.tmp 52)
  .skip
  (.exit 4))
  (.seq (.block 5 (.seq (.ops [⟨some 53, Op.index 41 (Operand.tmp 50) (Operand.tmp 51), none⟩,
    ⟨some 13, Op.assign (Operand.tmp 53), none⟩])
  (.seq (.ops [⟨some 55, Op.move (Operand.tmp 3), none⟩,
    ⟨some 56, Op.call { callee := Callee.value (Operand.func 10), args := #[Operand.tmp 55], argTypes := #[23] }, none⟩,
    ⟨some 57, Op.move (Operand.tmp 8), none⟩,
    ⟨some 58, Op.move (Operand.tmp 9), none⟩,
    ⟨some 59, Op.binOp BinOp.mul 3 (Operand.const (Value.int IntKind.i64 256)) (Operand.tmp 58) 3, none⟩,
    ⟨some 60, Op.binOp BinOp.add 3 (Operand.tmp 59) (Operand.const (Value.int IntKind.i64 7)) 3, none⟩,
    ⟨some 61, Op.convert 3 28 (Operand.tmp 60), none⟩,
    ⟨some 62, Op.move (Operand.tmp 13), none⟩,
    ⟨some 63, Op.call { callee := Callee.value (Operand.func 17), args := #[Operand.tmp 56, Operand.tmp 57, Operand.tmp 61, Operand.tmp 62], argTypes := #[23, 3, 28, 3] }, none⟩,
    ⟨some 54, Op.move (Operand.tmp 63), none⟩,
    ⟨some 64, Op.extract (Operand.tmp 54) 0, none⟩,
    ⟨some 65, Op.extract (Operand.tmp 54) 1, none⟩,
    ⟨some 66, Op.extract (Operand.tmp 54) 2, none⟩,
    ⟨some 14, Op.assign (Operand.tmp 64), none⟩,
    ⟨some 15, Op.assign (Operand.tmp 65), none⟩,
    ⟨some 16, Op.assign (Operand.tmp 66), none⟩])
  (.seq (.ops [⟨some 67, Op.move (Operand.tmp 16), none⟩,
    ⟨some 68, Op.call { callee := Callee.value (Operand.func 18), args := #[Operand.tmp 67], argTypes := #[42] }, none⟩,
    ⟨some 69, Op.binOp BinOp.eql 3 (Operand.tmp 68) (Operand.const (Value.int IntKind.i64 0)) 3, none⟩,
    ⟨some 70, Op.move (Operand.tmp 11), none⟩,
    ⟨some 71, Op.move (Operand.tmp 70), none⟩,
    ⟨some 72, Op.fieldAddr 34 (Operand.tmp 10) 1, some (71, true)⟩,
    ⟨some 73, Op.load 3 (Operand.tmp 72), some (71, true)⟩,
    ⟨some 74, Op.move (Operand.tmp 13), some (71, true)⟩,
    ⟨some 75, Op.binOp BinOp.and 3 (Operand.tmp 73) (Operand.tmp 74) 3, some (71, true)⟩,
    ⟨some 76, Op.move (Operand.tmp 13), some (71, true)⟩,
    ⟨some 77, Op.binOp BinOp.eql 3 (Operand.tmp 75) (Operand.tmp 76) 3, some (71, true)⟩,
    ⟨some 78, Op.pick (Operand.tmp 71) (Operand.tmp 77) (Operand.const (Value.bool false)), none⟩,
    ⟨some 79, Op.binOp BinOp.neq 4 (Operand.tmp 69) (Operand.tmp 78) 4, none⟩,
    ⟨some 80, Op.move (Operand.tmp 79), none⟩,
    ⟨some 81, Op.move (Operand.tmp 16), some (80, false)⟩,
    ⟨some 82, Op.call { callee := Callee.value (Operand.func 18), args := #[Operand.tmp 81], argTypes := #[42] }, some (80, false)⟩,
    ⟨some 83, Op.binOp BinOp.eql 3 (Operand.tmp 82) (Operand.const (Value.int IntKind.i64 0)) 3, some (80, false)⟩,
    ⟨some 84, Op.move (Operand.tmp 83), some (80, false)⟩,
    ⟨some 85, Op.move (Operand.tmp 14), some (84, true)⟩,
    ⟨some 86, Op.fieldAddr 34 (Operand.tmp 10) 0, some (84, true)⟩,
    ⟨some 87, Op.load 3 (Operand.tmp 86), some (84, true)⟩,
    ⟨some 88, Op.binOp BinOp.neq 3 (Operand.tmp 85) (Operand.tmp 87) 3, some (84, true)⟩,
    ⟨some 89, Op.move (Operand.tmp 88), some (84, true)⟩,
    ⟨some 90, Op.move (Operand.tmp 15), some (89, false)⟩,
    ⟨some 91, Op.binOp BinOp.neq 3 (Operand.tmp 90) (Operand.const (Value.int IntKind.i64 7)) 3, some (89, false)⟩,
    ⟨some 92, Op.pick (Operand.tmp 89) (Operand.const (Value.bool true)) (Operand.tmp 91), some (84, true)⟩,
    ⟨some 93, Op.pick (Operand.tmp 84) (Operand.tmp 92) (Operand.const (Value.bool false)), some (80, false)⟩,
    ⟨some 94, Op.pick (Operand.tmp 80) (Operand.const (Value.bool true)) (Operand.tmp 93), none⟩])
  (.cond (Operand.tmp 94)
  (.seq (.ops [⟨some 2, Op.assign (Operand.const (Value.bool false)), none⟩])
  .ret)
  .skip)))))
  (.ops [⟨some 95, Op.binOp BinOp.add 3 (Operand.tmp 51) (Operand.const (Value.int IntKind.i64 1)) 3, none⟩,
    ⟨some 51, Op.move (Operand.tmp 95), none⟩]))))
def ir5_l1 : LC := (.seq (.seq (.ops [⟨some 36, Op.move (Operand.tmp 9), none⟩,
    ⟨some 37, Op.binOp BinOp.lss 3 (Operand.tmp 36) (Operand.const (Value.int IntKind.i64 32)) 3, none⟩])
  (.cond (Operand.tmp 37)
  .skip
  (.exit 2)))
  (.seq (.block 3 (.seq (.ops [⟨some 41, Op.move (Operand.tmp 3), none⟩,
    ⟨some 42, Op.move (Operand.tmp 8), none⟩,
    ⟨some 43, Op.move (Operand.tmp 9), none⟩,
    ⟨some 44, Op.call { callee := Callee.value (Operand.func 13), args := #[Operand.tmp 41, Operand.tmp 42, Operand.tmp 43], argTypes := #[23, 3, 3] }, none⟩,
    ⟨some 40, Op.move (Operand.tmp 44), none⟩,
    ⟨some 45, Op.extract (Operand.tmp 40) 0, none⟩,
    ⟨some 46, Op.extract (Operand.tmp 40) 1, none⟩,
    ⟨some 10, Op.alloc 34, none⟩,
    ⟨none, Op.store 34 (Operand.tmp 10) (Operand.tmp 45), none⟩,
    ⟨some 11, Op.assign (Operand.tmp 46), none⟩])
  (.seq (.seq (.ops [⟨some 47, Op.move (Operand.tmp 11), none⟩])
  (.cond (Operand.tmp 47)
  (.ops [⟨some 48, Op.move (Operand.tmp 6), none⟩,
    ⟨some 49, Op.binOp BinOp.add 3 (Operand.tmp 48) (Operand.const (Value.int IntKind.i64 1)) 3, none⟩,
    ⟨some 6, Op.assign (Operand.tmp 49), none⟩])
  .skip))
  (.seq (.ops [⟨some 50, Op.build 41 #[(0, Operand.const (Value.int IntKind.i64 1)), (1, Operand.const (Value.int IntKind.i64 2)), (2, Operand.const (Value.int IntKind.i64 4))], none⟩,
    ⟨some 51, Op.move (Operand.const (Value.int IntKind.i64 0)), none⟩])
  (.block 4 (.loop ir5_l0))))))
  (.ops [⟨some 38, Op.move (Operand.tmp 9), none⟩,
    ⟨some 39, Op.binOp BinOp.add 3 (Operand.tmp 38) (Operand.const (Value.int IntKind.i64 1)) 3, none⟩,
    ⟨some 9, Op.assign (Operand.tmp 39), none⟩])))
def ir5_l2 : LC := (.seq (.seq (.ops [⟨some 32, Op.move (Operand.tmp 8), none⟩,
    ⟨some 33, Op.binOp BinOp.lss 3 (Operand.tmp 32) (Operand.const (Value.int IntKind.i64 16)) 3, none⟩])
  (.cond (Operand.tmp 33)
  .skip
  (.exit 0)))
  (.seq (.block 1 (.seq (.ops [⟨some 9, Op.assign (Operand.const (Value.int IntKind.i64 0)), none⟩])
  (.block 2 (.loop ir5_l1))))
  (.ops [⟨some 34, Op.move (Operand.tmp 8), none⟩,
    ⟨some 35, Op.binOp BinOp.add 3 (Operand.tmp 34) (Operand.const (Value.int IntKind.i64 1)) 3, none⟩,
    ⟨some 8, Op.assign (Operand.tmp 35), none⟩])))
def ir5_l3 : LC := (.seq (.seq (.ops [⟨some 108, Op.move (Operand.tmp 19), none⟩,
    ⟨some 109, Op.move (Operand.tmp 18), none⟩,
    ⟨some 110, Op.call { callee := Callee.builtin Builtin.len, args := #[Operand.tmp 109], argTypes := #[46] }, none⟩,
    ⟨some 111, Op.binOp BinOp.lss 3 (Operand.tmp 108) (Operand.tmp 110) 3, none⟩])
  (.cond (Operand.tmp 111)
  .skip
  (.exit 8)))
  (.seq (.block 9 (.seq (.draw [⟨some 115, Op.move (Operand.tmp 3), none⟩,
    ⟨some 116, Op.move (Operand.tmp 18), none⟩,
    ⟨some 117, Op.move (Operand.tmp 19), none⟩,
    ⟨some 118, Op.indexAddr 46 (Operand.tmp 116) (Operand.tmp 117), none⟩,
    ⟨some 119, Op.fieldAddr 50 (Operand.tmp 118) 0, none⟩,
    ⟨some 120, Op.load 3 (Operand.tmp 119), none⟩,
    ⟨some 121, Op.move (Operand.tmp 18), none⟩,
    ⟨some 122, Op.move (Operand.tmp 19), none⟩,
    ⟨some 123, Op.indexAddr 46 (Operand.tmp 121) (Operand.tmp 122), none⟩,
    ⟨some 124, Op.fieldAddr 50 (Operand.tmp 123) 1, none⟩,
    ⟨some 125, Op.load 3 (Operand.tmp 124), none⟩,
    ⟨some 126, Op.call { callee := Callee.value (Operand.func 13), args := #[Operand.tmp 115, Operand.tmp 120, Operand.tmp 125], argTypes := #[23, 3, 3] }, none⟩,
    ⟨some 114, Op.move (Operand.tmp 126), none⟩,
    ⟨some 127, Op.extract (Operand.tmp 114) 0, none⟩,
    ⟨some 128, Op.extract (Operand.tmp 114) 1, none⟩,
    ⟨some 20, Op.alloc 34, none⟩,
    ⟨none, Op.store 34 (Operand.tmp 20) (Operand.tmp 127), none⟩,
    ⟨some 21, Op.assign (Operand.tmp 128), none⟩] [(0, 15), (1, 15), (2, 15), (3, 15), (4, 15), (5, 15), (6, 15), (7, 15), (8, 15), (9, 15), (10, 15), (11, 15), (12, 15), (13, 15), (14, 15), (14, 16)])
  (.seq (.ops [⟨some 129, Op.move (Operand.tmp 21), none⟩,
    ⟨some 130, Op.unOp UnOp.not 4 (Operand.tmp 129), none⟩,
    ⟨some 131, Op.move (Operand.tmp 130), none⟩,
    ⟨some 132, Op.fieldAddr 34 (Operand.tmp 20) 0, some (131, false)⟩,
    ⟨some 133, Op.load 3 (Operand.tmp 132), some (131, false)⟩,
    ⟨some 134, Op.move (Operand.tmp 17), some (131, false)⟩,
    ⟨some 135, Op.binOp BinOp.neq 3 (Operand.tmp 133) (Operand.tmp 134) 3, some (131, false)⟩,
    ⟨some 136, Op.pick (Operand.tmp 131) (Operand.const (Value.bool true)) (Operand.tmp 135), none⟩,
    ⟨some 137, Op.move (Operand.tmp 136), none⟩,
    ⟨some 138, Op.move (Operand.tmp 3), some (137, false)⟩,
    ⟨some 139, Op.move (Operand.tmp 17), some (137, false)⟩,
    ⟨some 140, Op.call { callee := Callee.value (Operand.func 20), args := #[Operand.tmp 138, Operand.tmp 139], argTypes := #[23, 3] }, some (137, false)⟩,
    ⟨some 141, Op.move (Operand.tmp 18), some (137, false)⟩,
    ⟨some 142, Op.call { callee := Callee.builtin Builtin.len, args := #[Operand.tmp 141], argTypes := #[46] }, some (137, false)⟩,
    ⟨some 143, Op.binOp BinOp.neq 3 (Operand.tmp 140) (Operand.tmp 142) 3, some (137, false)⟩,
    ⟨some 144, Op.pick (Operand.tmp 137) (Operand.const (Value.bool true)) (Operand.tmp 143), none⟩])
  (.cond (Operand.tmp 144)
  (.seq (.ops [⟨some 2, Op.assign (Operand.const (Value.bool false)), none⟩])
  .ret)
  .skip))))
  (.ops [⟨some 112, Op.move (Operand.tmp 19), none⟩,
    ⟨some 113, Op.binOp BinOp.add 3 (Operand.tmp 112) (Operand.const (Value.int IntKind.i64 1)) 3, none⟩,
    ⟨some 19, Op.assign (Operand.tmp 113), none⟩])))
def ir5_l4 : LC := (.seq (.seq (.ops [⟨some 96, Op.move (Operand.tmp 17), none⟩,
    ⟨some 97, Op.binOp BinOp.lss 3 (Operand.tmp 96) (Operand.const (Value.int IntKind.i64 256)) 3, none⟩])
  (.cond (Operand.tmp 97)
  .skip
  (.exit 6)))
  (.seq (.block 7 (.seq (.ops [⟨some 100, Op.move (Operand.tmp 3), none⟩,
    ⟨some 101, Op.move (Operand.tmp 17), none⟩,
    ⟨some 102, Op.call { callee := Callee.value (Operand.func 19), args := #[Operand.tmp 100, Operand.tmp 101], argTypes := #[23, 3] }, none⟩,
    ⟨some 18, Op.assign (Operand.tmp 102), none⟩])
  (.seq (.ops [⟨some 103, Op.move (Operand.tmp 7), none⟩,
    ⟨some 104, Op.move (Operand.tmp 3), none⟩,
    ⟨some 105, Op.move (Operand.tmp 17), none⟩,
    ⟨some 106, Op.call { callee := Callee.value (Operand.func 20), args := #[Operand.tmp 104, Operand.tmp 105], argTypes := #[23, 3] }, none⟩,
    ⟨some 107, Op.binOp BinOp.add 3 (Operand.tmp 103) (Operand.tmp 106) 3, none⟩,
    ⟨some 7, Op.assign (Operand.tmp 107), none⟩])
  (.seq (.ops [⟨some 19, Op.assign (Operand.const (Value.int IntKind.i64 0)), none⟩])
  (.block 8 (.loop ir5_l3))))))
  (.ops [⟨some 98, Op.move (Operand.tmp 17), none⟩,
    ⟨some 99, Op.binOp BinOp.add 3 (Operand.tmp 98) (Operand.const (Value.int IntKind.i64 1)) 3, none⟩,
    ⟨some 17, Op.assign (Operand.tmp 99), none⟩])))
def ir5 : LC := (.seq (.ops [⟨some 2, Op.assign (Operand.const (Value.bool false)), none⟩])
  (.seq (.seq (.ops [⟨some 22, Op.call { callee := Callee.value (Operand.func 14), args := #[], argTypes := #[] }, none⟩,
    ⟨some 23, Op.unOp UnOp.not 4 (Operand.tmp 22), none⟩])
  (.cond (Operand.tmp 23)
  (.seq (.ops [⟨some 2, Op.assign (Operand.const (Value.bool false)), none⟩])
  .ret)
  .skip))
  (.seq (.ops [⟨some 25, Op.move (Operand.tmp 0), none⟩,
    ⟨some 26, Op.call { callee := Callee.value (Operand.func 9), args := #[Operand.tmp 25], argTypes := #[22] }, none⟩,
    ⟨some 24, Op.move (Operand.tmp 26), none⟩,
    ⟨some 27, Op.extract (Operand.tmp 24) 0, none⟩,
    ⟨some 28, Op.extract (Operand.tmp 24) 1, none⟩,
    ⟨some 29, Op.extract (Operand.tmp 24) 2, none⟩,
    ⟨some 3, Op.assign (Operand.tmp 27), none⟩,
    ⟨some 4, Op.assign (Operand.tmp 28), none⟩,
    ⟨some 5, Op.assign (Operand.tmp 29), none⟩])
  (.seq (.seq (.ops [⟨some 30, Op.move (Operand.tmp 5), none⟩,
    ⟨some 31, Op.unOp UnOp.not 4 (Operand.tmp 30), none⟩])
  (.cond (Operand.tmp 31)
  (.seq (.ops [⟨some 2, Op.assign (Operand.const (Value.bool false)), none⟩])
  .ret)
  .skip))
  (.seq (.ops [⟨some 6, Op.assign (Operand.const (Value.int IntKind.i64 0)), none⟩,
    ⟨some 7, Op.assign (Operand.const (Value.int IntKind.i64 0)), none⟩])
  (.seq (.seq (.ops [⟨some 8, Op.assign (Operand.const (Value.int IntKind.i64 0)), none⟩])
  (.block 0 (.loop ir5_l2)))
  (.seq (.seq (.ops [⟨some 17, Op.assign (Operand.const (Value.int IntKind.i64 0)), none⟩])
  (.block 6 (.loop ir5_l4)))
  (.seq (.ops [⟨some 145, Op.move (Operand.tmp 6), none⟩,
    ⟨some 146, Op.move (Operand.tmp 7), none⟩,
    ⟨some 147, Op.binOp BinOp.eql 3 (Operand.tmp 145) (Operand.tmp 146) 3, none⟩,
    ⟨some 2, Op.assign (Operand.tmp 147), none⟩])
  .ret))))))))
theorem ir5_eq : (Try.f5.body.map low, Try.f5.ntmps, Try.f5.results.toList) = (some ir5, 148, [.tmp 2]) := by kernel_rfl

end Go.Proofs.Ytkfhdaimememiaa
