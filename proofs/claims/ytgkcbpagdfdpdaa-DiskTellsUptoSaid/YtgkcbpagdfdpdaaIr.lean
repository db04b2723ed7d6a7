/- The code of this seat struck bare (printed by program). -/
import Derived.Test.YtgkcbpagdfdpdaaProg
import Derived.Test.YtgkcbpagdfdpdaaV4
import Derived.KernelRfl
set_option linter.unusedVariables false
set_option linter.unusedSimpArgs false
set_option linter.unusedSimpArgs false
set_option maxRecDepth 100000
namespace Go.Proofs.Ytgkcbpagdfdpdaa
open Go Go.Vm
def ir9_l0 : LC := (.seq (.seq (.ops [⟨some 5, Op.move (Operand.tmp 4), none⟩,
    ⟨some 6, Op.move (Operand.tmp 0), none⟩,
    ⟨some 7, Op.call { callee := Callee.builtin Builtin.len, args := #[Operand.tmp 6], argTypes := #[22] }, none⟩,
    ⟨some 8, Op.binOp BinOp.lss 3 (Operand.tmp 5) (Operand.tmp 7) 3, none⟩,
    ⟨some 9, Op.move (Operand.tmp 8), none⟩,
    ⟨some 10, Op.move (Operand.tmp 4), some (9, true)⟩,
    ⟨some 11, Op.binOp BinOp.lss 3 (Operand.tmp 10) (Operand.const (Value.int IntKind.i64 60)) 3, some (9, true)⟩,
    ⟨some 12, Op.pick (Operand.tmp 9) (Operand.tmp 11) (Operand.const (Value.bool false)), none⟩])
  (.cond (Operand.tmp 12)
  .skip
  (.exit 0)))
  (.seq (.block 1 (.draw [⟨some 15, Op.move (Operand.tmp 3), none⟩,
    ⟨some 16, Op.move (Operand.tmp 0), none⟩,
    ⟨some 17, Op.move (Operand.tmp 4), none⟩,
    ⟨some 18, Op.indexAddr 22 (Operand.tmp 16) (Operand.tmp 17), none⟩,
    ⟨some 19, Op.fieldAddr 36 (Operand.tmp 18) 3, none⟩,
    ⟨some 20, Op.load 33 (Operand.tmp 19), none⟩,
    ⟨some 21, Op.call { callee := Callee.builtin Builtin.len, args := #[Operand.tmp 20], argTypes := #[33] }, none⟩,
    ⟨some 22, Op.call { callee := Callee.builtin Builtin.min, args := #[Operand.tmp 21, Operand.const (Value.int IntKind.i64 9000)], argTypes := #[3, 3] }, none⟩,
    ⟨some 23, Op.binOp BinOp.add 3 (Operand.tmp 15) (Operand.tmp 22) 3, none⟩,
    ⟨some 24, Op.move (Operand.tmp 0), none⟩,
    ⟨some 25, Op.move (Operand.tmp 4), none⟩,
    ⟨some 26, Op.indexAddr 22 (Operand.tmp 24) (Operand.tmp 25), none⟩,
    ⟨some 27, Op.fieldAddr 36 (Operand.tmp 26) 4, none⟩,
    ⟨some 28, Op.load 23 (Operand.tmp 27), none⟩,
    ⟨some 29, Op.call { callee := Callee.builtin Builtin.len, args := #[Operand.tmp 28], argTypes := #[23] }, none⟩,
    ⟨some 30, Op.call { callee := Callee.builtin Builtin.min, args := #[Operand.tmp 29, Operand.const (Value.int IntKind.i64 9000)], argTypes := #[3, 3] }, none⟩,
    ⟨some 31, Op.binOp BinOp.add 3 (Operand.tmp 23) (Operand.tmp 30) 3, none⟩,
    ⟨some 3, Op.assign (Operand.tmp 31), none⟩] []))
  (.ops [⟨some 13, Op.move (Operand.tmp 4), none⟩,
    ⟨some 14, Op.binOp BinOp.add 3 (Operand.tmp 13) (Operand.const (Value.int IntKind.i64 1)) 3, none⟩,
    ⟨some 4, Op.assign (Operand.tmp 14), none⟩])))
def ir9 : LC := (.seq (.ops [⟨some 2, Op.assign (Operand.const (Value.bool false)), none⟩])
  (.seq (.ops [⟨some 3, Op.assign (Operand.const (Value.int IntKind.i64 0)), none⟩])
  (.seq (.seq (.ops [⟨some 4, Op.assign (Operand.const (Value.int IntKind.i64 0)), none⟩])
  (.block 0 (.loop ir9_l0)))
  (.seq (.ops [⟨some 32, Op.move (Operand.tmp 3), none⟩,
    ⟨some 33, Op.binOp BinOp.gtr 3 (Operand.tmp 32) (Operand.const (Value.int IntKind.i64 60000)) 3, none⟩,
    ⟨some 2, Op.assign (Operand.tmp 33), none⟩])
  .ret))))
theorem ir9_eq : (Try.f9.body.map low, Try.f9.ntmps, Try.f9.results.toList) = (some ir9, 34, [.tmp 2]) := by kernel_rfl
def ir10 : LC := (.seq (.ops [⟨some 2, Op.assign (Operand.const (Value.pointer none)), none⟩,
    ⟨some 3, Op.assign (Operand.const (Value.int IntKind.i64 0)), none⟩])
  (.seq (.seq (.ops [⟨some 4, Op.move (Operand.tmp 0), none⟩,
    ⟨some 5, Op.binOp BinOp.lss 3 (Operand.tmp 4) (Operand.const (Value.int IntKind.i64 1)) 3, none⟩,
    ⟨some 6, Op.move (Operand.tmp 5), none⟩,
    ⟨some 7, Op.move (Operand.tmp 0), some (6, false)⟩,
    ⟨some 8, Op.binOp BinOp.gtr 3 (Operand.tmp 7) (Operand.const (Value.int IntKind.i64 4096)) 3, some (6, false)⟩,
    ⟨some 9, Op.pick (Operand.tmp 6) (Operand.const (Value.bool true)) (Operand.tmp 8), none⟩])
  (.cond (Operand.tmp 9)
  (.seq (.ops [⟨some 2, Op.assign (Operand.const (Value.pointer none)), none⟩,
    ⟨some 3, Op.assign (Operand.const (Value.int IntKind.i64 2)), none⟩])
  .ret)
  .skip))
  (.seq (.ops [⟨some 10, Op.move (Operand.tmp 0), none⟩,
    ⟨some 11, Op.makeSlice 51 (Operand.tmp 10) (Operand.tmp 10), none⟩,
    ⟨some 12, Op.makeMap 52 none, none⟩,
    ⟨some 13, Op.build 54 #[(0, Operand.tmp 11), (1, Operand.tmp 12)], none⟩,
    ⟨some 14, Op.box 54 (Operand.tmp 13), none⟩,
    ⟨some 2, Op.assign (Operand.tmp 14), none⟩,
    ⟨some 3, Op.assign (Operand.const (Value.int IntKind.i64 0)), none⟩])
  .ret)))
theorem ir10_eq : (Try.f10.body.map low, Try.f10.ntmps, Try.f10.results.toList) = (some ir10, 15, [.tmp 2, .tmp 3]) := by kernel_rfl
def ir11 : LC := (.seq (.ops [⟨some 2, Op.assign (Operand.const (Value.int IntKind.i64 0)), none⟩])
  (.seq (.ops [⟨some 3, Op.move (Operand.tmp 0), none⟩,
    ⟨some 2, Op.assign (Operand.tmp 3), none⟩])
  .ret))
theorem ir11_eq : (Try.f11.body.map low, Try.f11.ntmps, Try.f11.results.toList) = (some ir11, 4, [.tmp 2]) := by kernel_rfl
def ir12_l0 : LC := (.seq (.seq (.ops [⟨some 6, Op.move (Operand.tmp 4), none⟩,
    ⟨some 7, Op.binOp BinOp.lss 3 (Operand.tmp 6) (Operand.const (Value.int IntKind.i64 128)) 3, none⟩])
  (.cond (Operand.tmp 7)
  .skip
  (.exit 0)))
  (.seq (.block 1 (.ops [⟨some 10, Op.move (Operand.tmp 3), none⟩,
    ⟨some 11, Op.move (Operand.tmp 4), none⟩,
    ⟨some 12, Op.move (Operand.tmp 0), none⟩,
    ⟨some 13, Op.indexAddr 33 (Operand.tmp 10) (Operand.tmp 11), none⟩,
    ⟨none, Op.store 5 (Operand.tmp 13) (Operand.tmp 12), none⟩]))
  (.ops [⟨some 8, Op.move (Operand.tmp 4), none⟩,
    ⟨some 9, Op.binOp BinOp.add 3 (Operand.tmp 8) (Operand.const (Value.int IntKind.i64 1)) 3, none⟩,
    ⟨some 4, Op.assign (Operand.tmp 9), none⟩])))
def ir12 : LC := (.seq (.ops [⟨some 2, Op.assign (Operand.const (Value.slice none 0 0)), none⟩])
  (.seq (.ops [⟨some 5, Op.makeSlice 33 (Operand.const (Value.int IntKind.i64 128)) (Operand.const (Value.int IntKind.i64 128)), none⟩,
    ⟨some 3, Op.assign (Operand.tmp 5), none⟩])
  (.seq (.seq (.ops [⟨some 4, Op.assign (Operand.const (Value.int IntKind.i64 0)), none⟩])
  (.block 0 (.loop ir12_l0)))
  (.seq (.ops [⟨some 14, Op.move (Operand.tmp 3), none⟩,
    ⟨some 2, Op.assign (Operand.tmp 14), none⟩])
  .ret))))
theorem ir12_eq : (Try.f12.body.map low, Try.f12.ntmps, Try.f12.results.toList) = (some ir12, 15, [.tmp 2]) := by kernel_rfl
def ir13 : LC := (.seq (.ops [⟨some 6, Op.assign (Operand.const (Value.int IntKind.i64 0)), none⟩])
  (.seq (.seq (.ops [⟨some 8, Op.move (Operand.tmp 0), none⟩,
    ⟨some 9, Op.move (Operand.tmp 1), none⟩,
    ⟨some 10, Op.call { callee := Callee.value (Operand.func 28), args := #[Operand.tmp 8, Operand.tmp 9], argTypes := #[26, 3] }, none⟩,
    ⟨some 7, Op.assign (Operand.tmp 10), none⟩])
  (.seq (.ops [⟨some 11, Op.move (Operand.tmp 7), none⟩,
    ⟨some 12, Op.binOp BinOp.neq 27 (Operand.tmp 11) (Operand.const (Value.int IntKind.i64 0)) 27, none⟩])
  (.cond (Operand.tmp 12)
  (.seq (.ops [⟨some 13, Op.move (Operand.tmp 7), none⟩,
    ⟨some 6, Op.assign (Operand.tmp 13), none⟩])
  .ret)
  .skip)))
  (.seq (.seq (.ops [⟨some 14, Op.move (Operand.tmp 2), none⟩,
    ⟨some 15, Op.call { callee := Callee.builtin Builtin.len, args := #[Operand.tmp 14], argTypes := #[33] }, none⟩,
    ⟨some 16, Op.binOp BinOp.neq 3 (Operand.tmp 15) (Operand.const (Value.int IntKind.i64 128)) 3, none⟩])
  (.cond (Operand.tmp 16)
  (.seq (.ops [⟨some 6, Op.assign (Operand.const (Value.int IntKind.i64 2)), none⟩])
  .ret)
  .skip))
  (.seq (.draw [⟨some 17, Op.move (Operand.tmp 0), none⟩,
    ⟨some 18, Op.nilCheck (Operand.tmp 17), none⟩,
    ⟨some 19, Op.fieldAddr 54 (Operand.tmp 18) 1, none⟩,
    ⟨some 20, Op.load 52 (Operand.tmp 19), none⟩,
    ⟨some 21, Op.move (Operand.tmp 1), none⟩,
    ⟨some 22, Op.move (Operand.tmp 0), none⟩,
    ⟨some 23, Op.nilCheck (Operand.tmp 22), none⟩,
    ⟨some 24, Op.fieldAddr 54 (Operand.tmp 23) 1, none⟩,
    ⟨some 25, Op.load 52 (Operand.tmp 24), none⟩,
    ⟨some 26, Op.move (Operand.tmp 1), none⟩,
    ⟨some 27, Op.lookup 52 (Operand.tmp 25) (Operand.tmp 26) false, none⟩,
    ⟨some 28, Op.move (Operand.tmp 2), none⟩,
    ⟨some 29, Op.sliceToArrayPointer 67 (Operand.tmp 28), none⟩,
    ⟨some 30, Op.load 67 (Operand.tmp 29), none⟩,
    ⟨some 31, Op.buildSlice 51 1 #[(0, Operand.tmp 30)], none⟩,
    ⟨some 32, Op.call { callee := Callee.builtin Builtin.append, args := #[Operand.tmp 27, Operand.tmp 31], argTypes := #[51, 51] }, none⟩,
    ⟨none, Op.mapUpdate 52 (Operand.tmp 20) (Operand.tmp 21) (Operand.tmp 32), none⟩] [(0, 14), (1, 14), (2, 14), (3, 14), (4, 14), (5, 14), (6, 14), (7, 14), (8, 14), (9, 14), (10, 14), (0, 15), (1, 15), (2, 15), (3, 15), (4, 15)])
  (.seq (.ops [⟨some 33, Op.move (Operand.tmp 0), none⟩,
    ⟨some 34, Op.nilCheck (Operand.tmp 33), none⟩,
    ⟨some 35, Op.fieldAddr 54 (Operand.tmp 34) 2, none⟩,
    ⟨some 36, Op.load 2 (Operand.tmp 35), none⟩,
    ⟨some 37, Op.binOp BinOp.add 2 (Operand.tmp 36) (Operand.const (Value.int IntKind.i64 1)) 2, none⟩,
    ⟨some 38, Op.nilCheck (Operand.tmp 33), none⟩,
    ⟨some 39, Op.fieldAddr 54 (Operand.tmp 38) 2, none⟩,
    ⟨none, Op.store 2 (Operand.tmp 39) (Operand.tmp 37), none⟩])
  (.seq (.ops [⟨some 6, Op.assign (Operand.const (Value.int IntKind.i64 0)), none⟩])
  .ret))))))
theorem ir13_eq : (Try.f13.body.map low, Try.f13.ntmps, Try.f13.results.toList) = (some ir13, 40, [.tmp 6]) := by kernel_rfl
def ir14_l0 : LC := (.seq (.seq (.ops [⟨some 40, Op.move (Operand.tmp 7), none⟩,
    ⟨some 41, Op.move (Operand.tmp 1), none⟩,
    ⟨some 42, Op.move (Operand.tmp 2), none⟩,
    ⟨some 43, Op.binOp BinOp.add 3 (Operand.tmp 41) (Operand.tmp 42) 3, none⟩,
    ⟨some 44, Op.binOp BinOp.lss 3 (Operand.tmp 40) (Operand.tmp 43) 3, none⟩])
  (.cond (Operand.tmp 44)
  .skip
  (.exit 1)))
  (.seq (.block 2 (.seq (.draw [⟨some 47, Op.move (Operand.tmp 0), none⟩,
    ⟨some 48, Op.nilCheck (Operand.tmp 47), none⟩,
    ⟨some 49, Op.fieldAddr 54 (Operand.tmp 48) 0, none⟩,
    ⟨some 50, Op.load 51 (Operand.tmp 49), none⟩,
    ⟨some 51, Op.move (Operand.tmp 7), none⟩,
    ⟨some 52, Op.move (Operand.tmp 0), none⟩,
    ⟨some 53, Op.move (Operand.tmp 7), none⟩,
    ⟨some 54, Op.call { callee := Callee.value (Operand.func 30), args := #[Operand.tmp 52, Operand.tmp 53], argTypes := #[26, 3] }, none⟩,
    ⟨some 55, Op.indexAddr 51 (Operand.tmp 50) (Operand.tmp 51), none⟩,
    ⟨none, Op.store 67 (Operand.tmp 55) (Operand.tmp 54), none⟩] [(0, 7), (1, 7), (2, 7), (3, 7), (4, 7)])
  (.ops [⟨some 56, Op.move (Operand.tmp 0), none⟩,
    ⟨some 57, Op.nilCheck (Operand.tmp 56), none⟩,
    ⟨some 58, Op.fieldAddr 54 (Operand.tmp 57) 1, none⟩,
    ⟨some 59, Op.load 52 (Operand.tmp 58), none⟩,
    ⟨some 60, Op.move (Operand.tmp 7), none⟩,
    ⟨none, Op.call { callee := Callee.builtin Builtin.delete, args := #[Operand.tmp 59, Operand.tmp 60], argTypes := #[52, 3] }, none⟩])))
  (.ops [⟨some 45, Op.move (Operand.tmp 7), none⟩,
    ⟨some 46, Op.binOp BinOp.add 3 (Operand.tmp 45) (Operand.const (Value.int IntKind.i64 1)) 3, none⟩,
    ⟨some 7, Op.assign (Operand.tmp 46), none⟩])))
def ir14 : LC := (.seq (.ops [⟨some 6, Op.assign (Operand.const (Value.int IntKind.i64 0)), none⟩])
  (.seq (.block 0 (.seq (.ops [⟨some 9, Op.move (Operand.tmp 0), none⟩,
    ⟨some 10, Op.call { callee := Callee.value (Operand.func 29), args := #[Operand.tmp 9], argTypes := #[26] }, none⟩,
    ⟨some 11, Op.unOp UnOp.not 4 (Operand.tmp 10), none⟩,
    ⟨some 8, Op.assign (Operand.tmp 11), none⟩])
  (.cond (Operand.tmp 8)
  (.seq (.ops [⟨some 6, Op.assign (Operand.const (Value.int IntKind.i64 1)), none⟩])
  .ret)
  (.seq (.ops [⟨some 13, Op.move (Operand.tmp 2), none⟩,
    ⟨some 14, Op.binOp BinOp.lss 3 (Operand.tmp 13) (Operand.const (Value.int IntKind.i64 0)) 3, none⟩,
    ⟨some 15, Op.move (Operand.tmp 14), none⟩,
    ⟨some 16, Op.move (Operand.tmp 1), some (15, false)⟩,
    ⟨some 17, Op.binOp BinOp.lss 3 (Operand.tmp 16) (Operand.const (Value.int IntKind.i64 0)) 3, some (15, false)⟩,
    ⟨some 18, Op.pick (Operand.tmp 15) (Operand.const (Value.bool true)) (Operand.tmp 17), none⟩,
    ⟨some 19, Op.move (Operand.tmp 18), none⟩,
    ⟨some 20, Op.move (Operand.tmp 1), some (19, false)⟩,
    ⟨some 21, Op.move (Operand.tmp 0), some (19, false)⟩,
    ⟨some 22, Op.nilCheck (Operand.tmp 21), some (19, false)⟩,
    ⟨some 23, Op.fieldAddr 54 (Operand.tmp 22) 0, some (19, false)⟩,
    ⟨some 24, Op.load 51 (Operand.tmp 23), some (19, false)⟩,
    ⟨some 25, Op.call { callee := Callee.builtin Builtin.len, args := #[Operand.tmp 24], argTypes := #[51] }, some (19, false)⟩,
    ⟨some 26, Op.binOp BinOp.gtr 3 (Operand.tmp 20) (Operand.tmp 25) 3, some (19, false)⟩,
    ⟨some 27, Op.pick (Operand.tmp 19) (Operand.const (Value.bool true)) (Operand.tmp 26), none⟩,
    ⟨some 28, Op.move (Operand.tmp 27), none⟩,
    ⟨some 29, Op.move (Operand.tmp 2), some (28, false)⟩,
    ⟨some 30, Op.move (Operand.tmp 0), some (28, false)⟩,
    ⟨some 31, Op.nilCheck (Operand.tmp 30), some (28, false)⟩,
    ⟨some 32, Op.fieldAddr 54 (Operand.tmp 31) 0, some (28, false)⟩,
    ⟨some 33, Op.load 51 (Operand.tmp 32), some (28, false)⟩,
    ⟨some 34, Op.call { callee := Callee.builtin Builtin.len, args := #[Operand.tmp 33], argTypes := #[51] }, some (28, false)⟩,
    ⟨some 35, Op.move (Operand.tmp 1), some (28, false)⟩,
    ⟨some 36, Op.binOp BinOp.sub 3 (Operand.tmp 34) (Operand.tmp 35) 3, some (28, false)⟩,
    ⟨some 37, Op.binOp BinOp.gtr 3 (Operand.tmp 29) (Operand.tmp 36) 3, some (28, false)⟩,
    ⟨some 38, Op.pick (Operand.tmp 28) (Operand.const (Value.bool true)) (Operand.tmp 37), none⟩,
    ⟨some 12, Op.assign (Operand.tmp 38), none⟩])
  (.cond (Operand.tmp 12)
  (.seq (.ops [⟨some 6, Op.assign (Operand.const (Value.int IntKind.i64 2)), none⟩])
  .ret)
  .skip)))))
  (.seq (.seq (.ops [⟨some 39, Op.move (Operand.tmp 1), none⟩,
    ⟨some 7, Op.assign (Operand.tmp 39), none⟩])
  (.block 1 (.loop ir14_l0)))
  (.seq (.ops [⟨some 6, Op.assign (Operand.const (Value.int IntKind.i64 0)), none⟩])
  .ret))))
theorem ir14_eq : (Try.f14.body.map low, Try.f14.ntmps, Try.f14.results.toList) = (some ir14, 61, [.tmp 6]) := by kernel_rfl
def ir15_l0 : LC := (.seq (.ops [⟨some 30, Op.binOp BinOp.lss 3 (Operand.tmp 29) (Operand.tmp 28) 3, none⟩])
  (.seq (.cond (Operand.tmp 30)
  .skip
  (.exit 0))
  (.seq (.block 1 (.seq (.ops [⟨some 31, Op.indexAddr 23 (Operand.tmp 27) (Operand.tmp 29), none⟩,
    ⟨some 32, Op.load 63 (Operand.tmp 31), none⟩,
    ⟨some 10, Op.alloc 63, none⟩,
    ⟨none, Op.store 63 (Operand.tmp 10) (Operand.tmp 32), none⟩])
  (.seq (.seq (.draw [⟨some 33, Op.move (Operand.tmp 0), none⟩,
    ⟨some 34, Op.fieldAddr 63 (Operand.tmp 10) 0, none⟩,
    ⟨some 35, Op.load 3 (Operand.tmp 34), none⟩,
    ⟨some 36, Op.call { callee := Callee.value (Operand.func 28), args := #[Operand.tmp 33, Operand.tmp 35], argTypes := #[26, 3] }, none⟩,
    ⟨some 37, Op.binOp BinOp.neq 27 (Operand.tmp 36) (Operand.const (Value.int IntKind.i64 0)) 27, none⟩,
    ⟨some 38, Op.move (Operand.tmp 37), none⟩,
    ⟨some 39, Op.fieldAddr 63 (Operand.tmp 10) 1, some (38, false)⟩,
    ⟨some 40, Op.load 3 (Operand.tmp 39), some (38, false)⟩,
    ⟨some 41, Op.binOp BinOp.lss 3 (Operand.tmp 40) (Operand.const (Value.int IntKind.i64 0)) 3, some (38, false)⟩,
    ⟨some 42, Op.pick (Operand.tmp 38) (Operand.const (Value.bool true)) (Operand.tmp 41), none⟩,
    ⟨some 43, Op.move (Operand.tmp 42), none⟩,
    ⟨some 44, Op.fieldAddr 63 (Operand.tmp 10) 1, some (43, false)⟩,
    ⟨some 45, Op.load 3 (Operand.tmp 44), some (43, false)⟩,
    ⟨some 46, Op.move (Operand.tmp 0), some (43, false)⟩,
    ⟨some 47, Op.nilCheck (Operand.tmp 46), some (43, false)⟩,
    ⟨some 48, Op.fieldAddr 54 (Operand.tmp 47) 1, some (43, false)⟩,
    ⟨some 49, Op.load 52 (Operand.tmp 48), some (43, false)⟩,
    ⟨some 50, Op.fieldAddr 63 (Operand.tmp 10) 0, some (43, false)⟩,
    ⟨some 51, Op.load 3 (Operand.tmp 50), some (43, false)⟩,
    ⟨some 52, Op.lookup 52 (Operand.tmp 49) (Operand.tmp 51) false, some (43, false)⟩,
    ⟨some 53, Op.call { callee := Callee.builtin Builtin.len, args := #[Operand.tmp 52], argTypes := #[51] }, some (43, false)⟩,
    ⟨some 54, Op.binOp BinOp.gtr 3 (Operand.tmp 45) (Operand.tmp 53) 3, some (43, false)⟩,
    ⟨some 55, Op.pick (Operand.tmp 43) (Operand.const (Value.bool true)) (Operand.tmp 54), none⟩,
    ⟨some 56, Op.move (Operand.tmp 55), none⟩,
    ⟨some 57, Op.move (Operand.tmp 7), some (56, false)⟩,
    ⟨some 58, Op.fieldAddr 63 (Operand.tmp 10) 0, some (56, false)⟩,
    ⟨some 59, Op.load 3 (Operand.tmp 58), some (56, false)⟩,
    ⟨some 60, Op.lookup 70 (Operand.tmp 57) (Operand.tmp 59) false, some (56, false)⟩,
    ⟨some 61, Op.pick (Operand.tmp 56) (Operand.const (Value.bool true)) (Operand.tmp 60), none⟩] [])
  (.cond (Operand.tmp 61)
  (.seq (.ops [⟨some 8, Op.assign (Operand.const (Value.bool true)), none⟩])
  (.exit 0))
  .skip))
  (.seq (.ops [⟨some 62, Op.move (Operand.tmp 7), none⟩,
    ⟨some 63, Op.fieldAddr 63 (Operand.tmp 10) 0, none⟩,
    ⟨some 64, Op.load 3 (Operand.tmp 63), none⟩,
    ⟨none, Op.mapUpdate 70 (Operand.tmp 62) (Operand.tmp 64) (Operand.const (Value.bool true)), none⟩])
  (.seq (.ops [⟨some 65, Op.fieldAddr 63 (Operand.tmp 10) 1, none⟩,
    ⟨some 66, Op.load 3 (Operand.tmp 65), none⟩,
    ⟨some 67, Op.binOp BinOp.gtr 3 (Operand.tmp 66) (Operand.const (Value.int IntKind.i64 0)) 3, none⟩])
  (.cond (Operand.tmp 67)
  (.draw [⟨some 68, Op.move (Operand.tmp 6), none⟩,
    ⟨some 69, Op.nilCheck (Operand.tmp 68), none⟩,
    ⟨some 70, Op.fieldAddr 54 (Operand.tmp 69) 0, none⟩,
    ⟨some 71, Op.load 51 (Operand.tmp 70), none⟩,
    ⟨some 72, Op.fieldAddr 63 (Operand.tmp 10) 0, none⟩,
    ⟨some 73, Op.load 3 (Operand.tmp 72), none⟩,
    ⟨some 74, Op.move (Operand.tmp 0), none⟩,
    ⟨some 75, Op.nilCheck (Operand.tmp 74), none⟩,
    ⟨some 76, Op.fieldAddr 54 (Operand.tmp 75) 1, none⟩,
    ⟨some 77, Op.load 52 (Operand.tmp 76), none⟩,
    ⟨some 78, Op.fieldAddr 63 (Operand.tmp 10) 0, none⟩,
    ⟨some 79, Op.load 3 (Operand.tmp 78), none⟩,
    ⟨some 80, Op.lookup 52 (Operand.tmp 77) (Operand.tmp 79) false, none⟩,
    ⟨some 81, Op.fieldAddr 63 (Operand.tmp 10) 1, none⟩,
    ⟨some 82, Op.load 3 (Operand.tmp 81), none⟩,
    ⟨some 83, Op.binOp BinOp.sub 3 (Operand.tmp 82) (Operand.const (Value.int IntKind.i64 1)) 3, none⟩,
    ⟨some 84, Op.indexAddr 51 (Operand.tmp 80) (Operand.tmp 83), none⟩,
    ⟨some 85, Op.load 67 (Operand.tmp 84), none⟩,
    ⟨some 86, Op.indexAddr 51 (Operand.tmp 71) (Operand.tmp 73), none⟩,
    ⟨none, Op.store 67 (Operand.tmp 86) (Operand.tmp 85), none⟩] [])
  .skip))))))
  (.ops [⟨some 87, Op.binOp BinOp.add 3 (Operand.tmp 29) (Operand.const (Value.int IntKind.i64 1)) 3, none⟩,
    ⟨some 29, Op.move (Operand.tmp 87), none⟩]))))
def ir15 : LC := (.seq (.ops [⟨some 4, Op.assign (Operand.const (Value.pointer none)), none⟩,
    ⟨some 5, Op.assign (Operand.const (Value.int IntKind.i64 0)), none⟩])
  (.seq (.seq (.ops [⟨some 11, Op.move (Operand.tmp 0), none⟩,
    ⟨some 12, Op.call { callee := Callee.value (Operand.func 29), args := #[Operand.tmp 11], argTypes := #[26] }, none⟩,
    ⟨some 13, Op.unOp UnOp.not 4 (Operand.tmp 12), none⟩])
  (.cond (Operand.tmp 13)
  (.seq (.ops [⟨some 4, Op.assign (Operand.const (Value.pointer none)), none⟩,
    ⟨some 5, Op.assign (Operand.const (Value.int IntKind.i64 1)), none⟩])
  .ret)
  .skip))
  (.seq (.draw [⟨some 14, Op.move (Operand.tmp 0), none⟩,
    ⟨some 15, Op.nilCheck (Operand.tmp 14), none⟩,
    ⟨some 16, Op.fieldAddr 54 (Operand.tmp 15) 0, none⟩,
    ⟨some 17, Op.load 51 (Operand.tmp 16), none⟩,
    ⟨some 18, Op.call { callee := Callee.value (Operand.func 31), args := #[Operand.tmp 17], argTypes := #[51] }, none⟩,
    ⟨some 19, Op.makeMap 52 none, none⟩,
    ⟨some 20, Op.move (Operand.tmp 0), none⟩,
    ⟨some 21, Op.nilCheck (Operand.tmp 20), none⟩,
    ⟨some 22, Op.fieldAddr 54 (Operand.tmp 21) 2, none⟩,
    ⟨some 23, Op.load 2 (Operand.tmp 22), none⟩,
    ⟨some 24, Op.build 54 #[(0, Operand.tmp 18), (1, Operand.tmp 19), (2, Operand.tmp 23)], none⟩,
    ⟨some 25, Op.box 54 (Operand.tmp 24), none⟩,
    ⟨some 6, Op.assign (Operand.tmp 25), none⟩] [(0, 5), (1, 5), (2, 5), (3, 5), (4, 5), (4, 6), (5, 6), (4, 7), (5, 7), (4, 8), (5, 8), (4, 9), (5, 9)])
  (.seq (.ops [⟨some 26, Op.makeMap 70 none, none⟩,
    ⟨some 7, Op.assign (Operand.tmp 26), none⟩])
  (.seq (.ops [⟨some 8, Op.assign (Operand.const (Value.bool false)), none⟩])
  (.seq .skip
  (.seq (.seq (.ops [⟨some 27, Op.move (Operand.tmp 1), none⟩,
    ⟨some 28, Op.call { callee := Callee.builtin Builtin.len, args := #[Operand.tmp 27], argTypes := #[23] }, none⟩,
    ⟨some 29, Op.move (Operand.const (Value.int IntKind.i64 0)), none⟩])
  (.block 0 (.loop ir15_l0)))
  (.seq (.seq (.ops [⟨some 88, Op.move (Operand.tmp 8), none⟩])
  (.cond (Operand.tmp 88)
  (.seq (.ops [⟨some 4, Op.assign (Operand.const (Value.pointer none)), none⟩,
    ⟨some 5, Op.assign (Operand.const (Value.int IntKind.i64 2)), none⟩])
  .ret)
  .skip))
  (.seq (.ops [⟨some 89, Op.move (Operand.tmp 6), none⟩,
    ⟨some 4, Op.assign (Operand.tmp 89), none⟩,
    ⟨some 5, Op.assign (Operand.const (Value.int IntKind.i64 0)), none⟩])
  .ret)))))))))
theorem ir15_eq : (Try.f15.body.map low, Try.f15.ntmps, Try.f15.results.toList) = (some ir15, 90, [.tmp 4, .tmp 5]) := by kernel_rfl
def ir16 : LC := (.seq (.ops [⟨some 4, Op.assign (Operand.const (Value.bool false)), none⟩])
  (.seq (.seq (.ops [⟨some 5, Op.move (Operand.tmp 0), none⟩,
    ⟨some 6, Op.call { callee := Callee.value (Operand.func 29), args := #[Operand.tmp 5], argTypes := #[26] }, none⟩,
    ⟨some 7, Op.unOp UnOp.not 4 (Operand.tmp 6), none⟩,
    ⟨some 8, Op.move (Operand.tmp 7), none⟩,
    ⟨some 9, Op.move (Operand.tmp 1), some (8, false)⟩,
    ⟨some 10, Op.call { callee := Callee.value (Operand.func 29), args := #[Operand.tmp 9], argTypes := #[26] }, some (8, false)⟩,
    ⟨some 11, Op.unOp UnOp.not 4 (Operand.tmp 10), some (8, false)⟩,
    ⟨some 12, Op.pick (Operand.tmp 8) (Operand.const (Value.bool true)) (Operand.tmp 11), none⟩])
  (.cond (Operand.tmp 12)
  (.seq (.ops [⟨some 13, Op.move (Operand.tmp 0), none⟩,
    ⟨some 14, Op.call { callee := Callee.value (Operand.func 29), args := #[Operand.tmp 13], argTypes := #[26] }, none⟩,
    ⟨some 15, Op.move (Operand.tmp 1), none⟩,
    ⟨some 16, Op.call { callee := Callee.value (Operand.func 29), args := #[Operand.tmp 15], argTypes := #[26] }, none⟩,
    ⟨some 17, Op.binOp BinOp.eql 4 (Operand.tmp 14) (Operand.tmp 16) 4, none⟩,
    ⟨some 4, Op.assign (Operand.tmp 17), none⟩])
  .ret)
  .skip))
  (.seq (.draw [⟨some 18, Op.move (Operand.tmp 0), none⟩,
    ⟨some 19, Op.nilCheck (Operand.tmp 18), none⟩,
    ⟨some 20, Op.fieldAddr 54 (Operand.tmp 19) 0, none⟩,
    ⟨some 21, Op.load 51 (Operand.tmp 20), none⟩,
    ⟨some 22, Op.move (Operand.tmp 1), none⟩,
    ⟨some 23, Op.nilCheck (Operand.tmp 22), none⟩,
    ⟨some 24, Op.fieldAddr 54 (Operand.tmp 23) 0, none⟩,
    ⟨some 25, Op.load 51 (Operand.tmp 24), none⟩,
    ⟨some 26, Op.call { callee := Callee.value (Operand.func 32), args := #[Operand.tmp 21, Operand.tmp 25], argTypes := #[51, 51] }, none⟩,
    ⟨some 27, Op.move (Operand.tmp 26), none⟩,
    ⟨some 28, Op.move (Operand.tmp 0), some (27, true)⟩,
    ⟨some 29, Op.nilCheck (Operand.tmp 28), some (27, true)⟩,
    ⟨some 30, Op.fieldAddr 54 (Operand.tmp 29) 1, some (27, true)⟩,
    ⟨some 31, Op.load 52 (Operand.tmp 30), some (27, true)⟩,
    ⟨some 32, Op.move (Operand.tmp 1), some (27, true)⟩,
    ⟨some 33, Op.nilCheck (Operand.tmp 32), some (27, true)⟩,
    ⟨some 34, Op.fieldAddr 54 (Operand.tmp 33) 1, some (27, true)⟩,
    ⟨some 35, Op.load 52 (Operand.tmp 34), some (27, true)⟩,
    ⟨some 36, Op.call { callee := Callee.value (Operand.func 33), args := #[Operand.tmp 31, Operand.tmp 35, Operand.func 34], argTypes := #[52, 52, 71] }, some (27, true)⟩,
    ⟨some 37, Op.pick (Operand.tmp 27) (Operand.tmp 36) (Operand.const (Value.bool false)), none⟩,
    ⟨some 4, Op.assign (Operand.tmp 37), none⟩] [])
  .ret)))
theorem ir16_eq : (Try.f16.body.map low, Try.f16.ntmps, Try.f16.results.toList) = (some ir16, 38, [.tmp 4]) := by kernel_rfl
def ir17 : LC := (.seq (.ops [⟨some 4, Op.assign (Operand.const (Value.string { data := #[] })), none⟩])
  (.seq (.ops [⟨some 8, Op.move (Operand.tmp 0), none⟩,
    ⟨some 9, Op.move (Operand.tmp 1), none⟩,
    ⟨some 10, Op.call { callee := Callee.value (Operand.func 35), args := #[Operand.tmp 8, Operand.tmp 9], argTypes := #[26, 3] }, none⟩,
    ⟨some 7, Op.move (Operand.tmp 10), none⟩,
    ⟨some 11, Op.extract (Operand.tmp 7) 0, none⟩,
    ⟨some 12, Op.extract (Operand.tmp 7) 1, none⟩,
    ⟨some 5, Op.assign (Operand.tmp 11), none⟩,
    ⟨some 6, Op.assign (Operand.tmp 12), none⟩])
  (.seq (.seq (.ops [⟨some 13, Op.move (Operand.tmp 6), none⟩,
    ⟨some 14, Op.call { callee := Callee.value (Operand.func 11), args := #[Operand.tmp 13], argTypes := #[27] }, none⟩,
    ⟨some 15, Op.binOp BinOp.neq 3 (Operand.tmp 14) (Operand.const (Value.int IntKind.i64 0)) 3, none⟩])
  (.cond (Operand.tmp 15)
  (.seq (.ops [⟨some 4, Op.assign (Operand.const (Value.string { data := #[45] })), none⟩])
  .ret)
  .skip))
  (.seq (.ops [⟨some 16, Op.move (Operand.tmp 5), none⟩,
    ⟨some 17, Op.convert 33 9 (Operand.tmp 16), none⟩,
    ⟨some 4, Op.assign (Operand.tmp 17), none⟩])
  .ret))))
theorem ir17_eq : (Try.f17.body.map low, Try.f17.ntmps, Try.f17.results.toList) = (some ir17, 18, [.tmp 4]) := by kernel_rfl
def ir18_l0 : LC := (.seq (.ops [⟨some 21, Op.binOp BinOp.lss 3 (Operand.tmp 20) (Operand.tmp 19) 3, none⟩])
  (.seq (.cond (Operand.tmp 21)
  .skip
  (.exit 0))
  (.seq (.block 1 (.seq (.ops [⟨some 22, Op.move (Operand.tmp 20), none⟩,
    ⟨some 4, Op.assign (Operand.tmp 22), none⟩])
  (.ops [⟨some 23, Op.move (Operand.tmp 3), none⟩,
    ⟨some 24, Op.move (Operand.tmp 0), none⟩,
    ⟨some 25, Op.nilCheck (Operand.tmp 24), none⟩,
    ⟨some 26, Op.fieldAddr 54 (Operand.tmp 25) 0, none⟩,
    ⟨some 27, Op.load 51 (Operand.tmp 26), none⟩,
    ⟨some 28, Op.move (Operand.tmp 4), none⟩,
    ⟨some 29, Op.indexAddr 51 (Operand.tmp 27) (Operand.tmp 28), none⟩,
    ⟨some 30, Op.slice 67 (Operand.tmp 29) none none none, none⟩,
    ⟨some 31, Op.call { callee := Callee.builtin Builtin.append, args := #[Operand.tmp 23, Operand.tmp 30], argTypes := #[33, 33] }, none⟩,
    ⟨some 3, Op.assign (Operand.tmp 31), none⟩])))
  (.ops [⟨some 32, Op.binOp BinOp.add 3 (Operand.tmp 20) (Operand.const (Value.int IntKind.i64 1)) 3, none⟩,
    ⟨some 20, Op.move (Operand.tmp 32), none⟩]))))
def ir18 : LC := (.seq (.ops [⟨some 2, Op.assign (Operand.const (Value.slice none 0 0)), none⟩])
  (.seq (.seq (.ops [⟨some 5, Op.move (Operand.tmp 0), none⟩,
    ⟨some 6, Op.call { callee := Callee.value (Operand.func 29), args := #[Operand.tmp 5], argTypes := #[26] }, none⟩,
    ⟨some 7, Op.unOp UnOp.not 4 (Operand.tmp 6), none⟩])
  (.cond (Operand.tmp 7)
  (.seq (.ops [⟨some 2, Op.assign (Operand.const (Value.slice none 0 0)), none⟩])
  .ret)
  .skip))
  (.seq (.ops [⟨some 8, Op.move (Operand.tmp 0), none⟩,
    ⟨some 9, Op.nilCheck (Operand.tmp 8), none⟩,
    ⟨some 10, Op.fieldAddr 54 (Operand.tmp 9) 0, none⟩,
    ⟨some 11, Op.load 51 (Operand.tmp 10), none⟩,
    ⟨some 12, Op.call { callee := Callee.builtin Builtin.len, args := #[Operand.tmp 11], argTypes := #[51] }, none⟩,
    ⟨some 13, Op.binOp BinOp.mul 3 (Operand.tmp 12) (Operand.const (Value.int IntKind.i64 128)) 3, none⟩,
    ⟨some 14, Op.makeSlice 33 (Operand.const (Value.int IntKind.i64 0)) (Operand.tmp 13), none⟩,
    ⟨some 3, Op.assign (Operand.tmp 14), none⟩])
  (.seq (.seq (.ops [⟨some 15, Op.move (Operand.tmp 0), none⟩,
    ⟨some 16, Op.nilCheck (Operand.tmp 15), none⟩,
    ⟨some 17, Op.fieldAddr 54 (Operand.tmp 16) 0, none⟩,
    ⟨some 18, Op.load 51 (Operand.tmp 17), none⟩,
    ⟨some 19, Op.call { callee := Callee.builtin Builtin.len, args := #[Operand.tmp 18], argTypes := #[51] }, none⟩,
    ⟨some 20, Op.move (Operand.const (Value.int IntKind.i64 0)), none⟩])
  (.block 0 (.loop ir18_l0)))
  (.seq (.ops [⟨some 33, Op.move (Operand.tmp 3), none⟩,
    ⟨some 2, Op.assign (Operand.tmp 33), none⟩])
  .ret)))))
theorem ir18_eq : (Try.f18.body.map low, Try.f18.ntmps, Try.f18.results.toList) = (some ir18, 34, [.tmp 2]) := by kernel_rfl
def ir27 : LC := (.seq (.ops [⟨some 4, Op.assign (Operand.const (Value.int IntKind.i64 0)), none⟩])
  (.seq (.seq (.ops [⟨some 5, Op.move (Operand.tmp 0), none⟩,
    ⟨some 6, Op.move (Operand.tmp 1), none⟩,
    ⟨some 7, Op.call { callee := Callee.value (Operand.func 28), args := #[Operand.tmp 5, Operand.tmp 6], argTypes := #[26, 3] }, none⟩,
    ⟨some 8, Op.binOp BinOp.neq 27 (Operand.tmp 7) (Operand.const (Value.int IntKind.i64 0)) 27, none⟩])
  (.cond (Operand.tmp 8)
  (.seq (.ops [⟨some 4, Op.assign (Operand.const (Value.int IntKind.i64 0)), none⟩])
  .ret)
  .skip))
  (.seq (.ops [⟨some 9, Op.move (Operand.tmp 0), none⟩,
    ⟨some 10, Op.nilCheck (Operand.tmp 9), none⟩,
    ⟨some 11, Op.fieldAddr 54 (Operand.tmp 10) 1, none⟩,
    ⟨some 12, Op.load 52 (Operand.tmp 11), none⟩,
    ⟨some 13, Op.move (Operand.tmp 1), none⟩,
    ⟨some 14, Op.lookup 52 (Operand.tmp 12) (Operand.tmp 13) false, none⟩,
    ⟨some 15, Op.call { callee := Callee.builtin Builtin.len, args := #[Operand.tmp 14], argTypes := #[51] }, none⟩,
    ⟨some 4, Op.assign (Operand.tmp 15), none⟩])
  .ret)))
theorem ir27_eq : (Try.f27.body.map low, Try.f27.ntmps, Try.f27.results.toList) = (some ir27, 16, [.tmp 4]) := by kernel_rfl
def ir28 : LC := (.seq (.ops [⟨some 4, Op.assign (Operand.const (Value.int IntKind.i64 0)), none⟩])
  (.seq (.block 0 (.seq (.ops [⟨some 6, Op.move (Operand.tmp 0), none⟩,
    ⟨some 7, Op.call { callee := Callee.value (Operand.func 29), args := #[Operand.tmp 6], argTypes := #[26] }, none⟩,
    ⟨some 8, Op.unOp UnOp.not 4 (Operand.tmp 7), none⟩,
    ⟨some 5, Op.assign (Operand.tmp 8), none⟩])
  (.cond (Operand.tmp 5)
  (.seq (.ops [⟨some 4, Op.assign (Operand.const (Value.int IntKind.i64 1)), none⟩])
  .ret)
  (.seq (.ops [⟨some 10, Op.move (Operand.tmp 1), none⟩,
    ⟨some 11, Op.binOp BinOp.lss 3 (Operand.tmp 10) (Operand.const (Value.int IntKind.i64 0)) 3, none⟩,
    ⟨some 12, Op.move (Operand.tmp 11), none⟩,
    ⟨some 13, Op.move (Operand.tmp 1), some (12, false)⟩,
    ⟨some 14, Op.move (Operand.tmp 0), some (12, false)⟩,
    ⟨some 15, Op.nilCheck (Operand.tmp 14), some (12, false)⟩,
    ⟨some 16, Op.fieldAddr 54 (Operand.tmp 15) 0, some (12, false)⟩,
    ⟨some 17, Op.load 51 (Operand.tmp 16), some (12, false)⟩,
    ⟨some 18, Op.call { callee := Callee.builtin Builtin.len, args := #[Operand.tmp 17], argTypes := #[51] }, some (12, false)⟩,
    ⟨some 19, Op.binOp BinOp.geq 3 (Operand.tmp 13) (Operand.tmp 18) 3, some (12, false)⟩,
    ⟨some 20, Op.pick (Operand.tmp 12) (Operand.const (Value.bool true)) (Operand.tmp 19), none⟩,
    ⟨some 9, Op.assign (Operand.tmp 20), none⟩])
  (.cond (Operand.tmp 9)
  (.seq (.ops [⟨some 4, Op.assign (Operand.const (Value.int IntKind.i64 2)), none⟩])
  .ret)
  .skip)))))
  (.seq (.ops [⟨some 4, Op.assign (Operand.const (Value.int IntKind.i64 0)), none⟩])
  .ret)))
theorem ir28_eq : (Try.f28.body.map low, Try.f28.ntmps, Try.f28.results.toList) = (some ir28, 21, [.tmp 4]) := by kernel_rfl
def ir29 : LC := (.seq (.ops [⟨some 2, Op.assign (Operand.const (Value.bool false)), none⟩])
  (.seq (.ops [⟨some 3, Op.move (Operand.tmp 0), none⟩,
    ⟨some 4, Op.binOp BinOp.neq 26 (Operand.tmp 3) (Operand.const (Value.pointer none)) 26, none⟩,
    ⟨some 5, Op.move (Operand.tmp 4), none⟩,
    ⟨some 6, Op.move (Operand.tmp 0), some (5, true)⟩,
    ⟨some 7, Op.nilCheck (Operand.tmp 6), some (5, true)⟩,
    ⟨some 8, Op.fieldAddr 54 (Operand.tmp 7) 0, some (5, true)⟩,
    ⟨some 9, Op.load 51 (Operand.tmp 8), some (5, true)⟩,
    ⟨some 10, Op.call { callee := Callee.builtin Builtin.len, args := #[Operand.tmp 9], argTypes := #[51] }, some (5, true)⟩,
    ⟨some 11, Op.binOp BinOp.gtr 3 (Operand.tmp 10) (Operand.const (Value.int IntKind.i64 0)) 3, some (5, true)⟩,
    ⟨some 12, Op.pick (Operand.tmp 5) (Operand.tmp 11) (Operand.const (Value.bool false)), none⟩,
    ⟨some 2, Op.assign (Operand.tmp 12), none⟩])
  .ret))
theorem ir29_eq : (Try.f29.body.map low, Try.f29.ntmps, Try.f29.results.toList) = (some ir29, 13, [.tmp 2]) := by kernel_rfl
def ir30 : LC := (.seq (.ops [⟨some 4, Op.alloc 67, none⟩])
  (.seq (.seq (.ops [⟨some 6, Op.move (Operand.tmp 0), none⟩,
    ⟨some 7, Op.nilCheck (Operand.tmp 6), none⟩,
    ⟨some 8, Op.fieldAddr 54 (Operand.tmp 7) 1, none⟩,
    ⟨some 9, Op.load 52 (Operand.tmp 8), none⟩,
    ⟨some 10, Op.move (Operand.tmp 1), none⟩,
    ⟨some 11, Op.lookup 52 (Operand.tmp 9) (Operand.tmp 10) false, none⟩,
    ⟨some 5, Op.assign (Operand.tmp 11), none⟩])
  (.seq (.ops [⟨some 12, Op.move (Operand.tmp 5), none⟩,
    ⟨some 13, Op.call { callee := Callee.builtin Builtin.len, args := #[Operand.tmp 12], argTypes := #[51] }, none⟩,
    ⟨some 14, Op.binOp BinOp.gtr 3 (Operand.tmp 13) (Operand.const (Value.int IntKind.i64 0)) 3, none⟩])
  (.cond (Operand.tmp 14)
  (.seq (.ops [⟨some 15, Op.move (Operand.tmp 5), none⟩,
    ⟨some 16, Op.move (Operand.tmp 5), none⟩,
    ⟨some 17, Op.call { callee := Callee.builtin Builtin.len, args := #[Operand.tmp 16], argTypes := #[51] }, none⟩,
    ⟨some 18, Op.binOp BinOp.sub 3 (Operand.tmp 17) (Operand.const (Value.int IntKind.i64 1)) 3, none⟩,
    ⟨some 19, Op.indexAddr 51 (Operand.tmp 15) (Operand.tmp 18), none⟩,
    ⟨some 20, Op.load 67 (Operand.tmp 19), none⟩,
    ⟨none, Op.store 67 (Operand.tmp 4) (Operand.tmp 20), none⟩])
  .ret)
  .skip)))
  (.seq (.ops [⟨some 21, Op.move (Operand.tmp 0), none⟩,
    ⟨some 22, Op.nilCheck (Operand.tmp 21), none⟩,
    ⟨some 23, Op.fieldAddr 54 (Operand.tmp 22) 0, none⟩,
    ⟨some 24, Op.load 51 (Operand.tmp 23), none⟩,
    ⟨some 25, Op.move (Operand.tmp 1), none⟩,
    ⟨some 26, Op.indexAddr 51 (Operand.tmp 24) (Operand.tmp 25), none⟩,
    ⟨some 27, Op.load 67 (Operand.tmp 26), none⟩,
    ⟨none, Op.store 67 (Operand.tmp 4) (Operand.tmp 27), none⟩])
  .ret)))
theorem ir30_eq : (Try.f30.body.map low, Try.f30.ntmps, Try.f30.results.toList) = (some ir30, 28, [.cell 4 67]) := by kernel_rfl
def ir31 : LC := (.seq (.ops [⟨some 2, Op.assign (Operand.const (Value.slice none 0 0)), none⟩])
  (.seq (.seq (.ops [⟨some 3, Op.move (Operand.tmp 0), none⟩,
    ⟨some 4, Op.binOp BinOp.eql 51 (Operand.tmp 3) (Operand.const (Value.slice none 0 0)) 51, none⟩])
  (.cond (Operand.tmp 4)
  (.seq (.ops [⟨some 2, Op.assign (Operand.const (Value.slice none 0 0)), none⟩])
  .ret)
  .skip))
  (.seq (.ops [⟨some 5, Op.buildSlice 51 0 #[], none⟩,
    ⟨some 6, Op.move (Operand.tmp 0), none⟩,
    ⟨some 7, Op.call { callee := Callee.builtin Builtin.append, args := #[Operand.tmp 5, Operand.tmp 6], argTypes := #[51, 51] }, none⟩,
    ⟨some 2, Op.assign (Operand.tmp 7), none⟩])
  .ret)))
theorem ir31_eq : (Try.f31.body.map low, Try.f31.ntmps, Try.f31.results.toList) = (some ir31, 8, [.tmp 2]) := by kernel_rfl
def ir32_l0 : LC := (.seq (.ops [⟨some 14, Op.binOp BinOp.lss 3 (Operand.tmp 13) (Operand.tmp 12) 3, none⟩])
  (.seq (.cond (Operand.tmp 14)
  .skip
  (.exit 0))
  (.seq (.block 1 (.seq (.ops [⟨some 15, Op.move (Operand.tmp 13), none⟩,
    ⟨some 5, Op.assign (Operand.tmp 15), none⟩])
  (.seq (.draw [⟨some 16, Op.move (Operand.tmp 0), none⟩,
    ⟨some 17, Op.move (Operand.tmp 5), none⟩,
    ⟨some 18, Op.indexAddr 51 (Operand.tmp 16) (Operand.tmp 17), none⟩,
    ⟨some 19, Op.load 67 (Operand.tmp 18), none⟩,
    ⟨some 20, Op.move (Operand.tmp 1), none⟩,
    ⟨some 21, Op.move (Operand.tmp 5), none⟩,
    ⟨some 22, Op.indexAddr 51 (Operand.tmp 20) (Operand.tmp 21), none⟩,
    ⟨some 23, Op.load 67 (Operand.tmp 22), none⟩,
    ⟨some 24, Op.binOp BinOp.neq 67 (Operand.tmp 19) (Operand.tmp 23) 67, none⟩] [])
  (.cond (Operand.tmp 24)
  (.seq (.ops [⟨some 4, Op.assign (Operand.const (Value.bool false)), none⟩])
  .ret)
  .skip))))
  (.ops [⟨some 25, Op.binOp BinOp.add 3 (Operand.tmp 13) (Operand.const (Value.int IntKind.i64 1)) 3, none⟩,
    ⟨some 13, Op.move (Operand.tmp 25), none⟩]))))
def ir32 : LC := (.seq (.ops [⟨some 4, Op.assign (Operand.const (Value.bool false)), none⟩])
  (.seq (.seq (.ops [⟨some 6, Op.move (Operand.tmp 0), none⟩,
    ⟨some 7, Op.call { callee := Callee.builtin Builtin.len, args := #[Operand.tmp 6], argTypes := #[51] }, none⟩,
    ⟨some 8, Op.move (Operand.tmp 1), none⟩,
    ⟨some 9, Op.call { callee := Callee.builtin Builtin.len, args := #[Operand.tmp 8], argTypes := #[51] }, none⟩,
    ⟨some 10, Op.binOp BinOp.neq 3 (Operand.tmp 7) (Operand.tmp 9) 3, none⟩])
  (.cond (Operand.tmp 10)
  (.seq (.ops [⟨some 4, Op.assign (Operand.const (Value.bool false)), none⟩])
  .ret)
  .skip))
  (.seq (.seq (.ops [⟨some 11, Op.move (Operand.tmp 0), none⟩,
    ⟨some 12, Op.call { callee := Callee.builtin Builtin.len, args := #[Operand.tmp 11], argTypes := #[51] }, none⟩,
    ⟨some 13, Op.move (Operand.const (Value.int IntKind.i64 0)), none⟩])
  (.block 0 (.loop ir32_l0)))
  (.seq (.ops [⟨some 4, Op.assign (Operand.const (Value.bool true)), none⟩])
  .ret))))
theorem ir32_eq : (Try.f32.body.map low, Try.f32.ntmps, Try.f32.results.toList) = (some ir32, 26, [.tmp 4]) := by kernel_rfl
def ir33_l0 : LC := (.seq (.ops [⟨some 18, Op.next (Operand.tmp 17) false, none⟩,
    ⟨some 19, Op.extract (Operand.tmp 18) 0, none⟩])
  (.seq (.cond (Operand.tmp 19)
  .skip
  (.exit 0))
  (.block 1 (.seq (.ops [⟨some 20, Op.entry (Operand.tmp 17), none⟩,
    ⟨some 21, Op.extract (Operand.tmp 20) 0, none⟩,
    ⟨some 22, Op.extract (Operand.tmp 20) 1, none⟩,
    ⟨some 7, Op.assign (Operand.tmp 21), none⟩,
    ⟨some 8, Op.assign (Operand.tmp 22), none⟩])
  (.seq (.ops [⟨some 24, Op.move (Operand.tmp 1), none⟩,
    ⟨some 25, Op.move (Operand.tmp 7), none⟩,
    ⟨some 26, Op.lookup 52 (Operand.tmp 24) (Operand.tmp 25) true, none⟩,
    ⟨some 23, Op.move (Operand.tmp 26), none⟩,
    ⟨some 27, Op.extract (Operand.tmp 23) 0, none⟩,
    ⟨some 28, Op.extract (Operand.tmp 23) 1, none⟩,
    ⟨some 9, Op.assign (Operand.tmp 27), none⟩,
    ⟨some 10, Op.assign (Operand.tmp 28), none⟩])
  (.seq (.ops [⟨some 29, Op.move (Operand.tmp 10), none⟩,
    ⟨some 30, Op.unOp UnOp.not 4 (Operand.tmp 29), none⟩,
    ⟨some 31, Op.move (Operand.tmp 30), none⟩,
    ⟨some 32, Op.move (Operand.tmp 2), some (31, false)⟩,
    ⟨some 33, Op.move (Operand.tmp 8), some (31, false)⟩,
    ⟨some 34, Op.move (Operand.tmp 9), some (31, false)⟩,
    ⟨some 35, Op.call { callee := Callee.value (Operand.tmp 32), args := #[Operand.tmp 33, Operand.tmp 34], argTypes := #[51, 51] }, some (31, false)⟩,
    ⟨some 36, Op.unOp UnOp.not 4 (Operand.tmp 35), some (31, false)⟩,
    ⟨some 37, Op.pick (Operand.tmp 31) (Operand.const (Value.bool true)) (Operand.tmp 36), none⟩])
  (.cond (Operand.tmp 37)
  (.seq (.ops [⟨some 6, Op.assign (Operand.const (Value.bool false)), none⟩])
  .ret)
  .skip)))))))
def ir33 : LC := (.seq (.ops [⟨some 6, Op.assign (Operand.const (Value.bool false)), none⟩])
  (.seq (.seq (.ops [⟨some 11, Op.move (Operand.tmp 0), none⟩,
    ⟨some 12, Op.call { callee := Callee.builtin Builtin.len, args := #[Operand.tmp 11], argTypes := #[52] }, none⟩,
    ⟨some 13, Op.move (Operand.tmp 1), none⟩,
    ⟨some 14, Op.call { callee := Callee.builtin Builtin.len, args := #[Operand.tmp 13], argTypes := #[52] }, none⟩,
    ⟨some 15, Op.binOp BinOp.neq 3 (Operand.tmp 12) (Operand.tmp 14) 3, none⟩])
  (.cond (Operand.tmp 15)
  (.seq (.ops [⟨some 6, Op.assign (Operand.const (Value.bool false)), none⟩])
  .ret)
  .skip))
  (.seq (.seq (.ops [⟨some 16, Op.move (Operand.tmp 0), none⟩,
    ⟨some 17, Op.range 52 (Operand.tmp 16), none⟩])
  (.block 0 (.loop ir33_l0)))
  (.seq (.ops [⟨some 6, Op.assign (Operand.const (Value.bool true)), none⟩])
  .ret))))
theorem ir33_eq : (Try.f33.body.map low, Try.f33.ntmps, Try.f33.results.toList) = (some ir33, 38, [.tmp 6]) := by kernel_rfl
def ir34 : LC := (.seq (.ops [⟨some 4, Op.assign (Operand.const (Value.bool false)), none⟩])
  (.seq (.ops [⟨some 5, Op.move (Operand.tmp 0), none⟩,
    ⟨some 6, Op.move (Operand.tmp 1), none⟩,
    ⟨some 7, Op.call { callee := Callee.value (Operand.func 32), args := #[Operand.tmp 5, Operand.tmp 6], argTypes := #[51, 51] }, none⟩,
    ⟨some 4, Op.assign (Operand.tmp 7), none⟩])
  .ret))
theorem ir34_eq : (Try.f34.body.map low, Try.f34.ntmps, Try.f34.results.toList) = (some ir34, 8, [.tmp 4]) := by kernel_rfl
def ir35 : LC := (.seq (.ops [⟨some 4, Op.assign (Operand.const (Value.slice none 0 0)), none⟩,
    ⟨some 5, Op.assign (Operand.const (Value.int IntKind.i64 0)), none⟩])
  (.seq (.seq (.ops [⟨some 8, Op.move (Operand.tmp 0), none⟩,
    ⟨some 9, Op.move (Operand.tmp 1), none⟩,
    ⟨some 10, Op.call { callee := Callee.value (Operand.func 28), args := #[Operand.tmp 8, Operand.tmp 9], argTypes := #[26, 3] }, none⟩,
    ⟨some 6, Op.assign (Operand.tmp 10), none⟩])
  (.seq (.ops [⟨some 11, Op.move (Operand.tmp 6), none⟩,
    ⟨some 12, Op.binOp BinOp.neq 27 (Operand.tmp 11) (Operand.const (Value.int IntKind.i64 0)) 27, none⟩])
  (.cond (Operand.tmp 12)
  (.seq (.ops [⟨some 13, Op.move (Operand.tmp 6), none⟩,
    ⟨some 4, Op.assign (Operand.const (Value.slice none 0 0)), none⟩,
    ⟨some 5, Op.assign (Operand.tmp 13), none⟩])
  .ret)
  .skip)))
  (.seq (.ops [⟨some 14, Op.move (Operand.tmp 0), none⟩,
    ⟨some 15, Op.move (Operand.tmp 1), none⟩,
    ⟨some 16, Op.call { callee := Callee.value (Operand.func 30), args := #[Operand.tmp 14, Operand.tmp 15], argTypes := #[26, 3] }, none⟩,
    ⟨some 7, Op.alloc 67, none⟩,
    ⟨none, Op.store 67 (Operand.tmp 7) (Operand.tmp 16), none⟩])
  (.seq (.ops [⟨some 17, Op.slice 67 (Operand.tmp 7) none none none, none⟩,
    ⟨some 4, Op.assign (Operand.tmp 17), none⟩,
    ⟨some 5, Op.assign (Operand.const (Value.int IntKind.i64 0)), none⟩])
  .ret))))
theorem ir35_eq : (Try.f35.body.map low, Try.f35.ntmps, Try.f35.results.toList) = (some ir35, 18, [.tmp 4, .tmp 5]) := by kernel_rfl
def ir38 : LC := (.seq (.ops [⟨some 4, Op.assign (Operand.const (Value.slice none 0 0)), none⟩,
    ⟨some 5, Op.assign (Operand.const (Value.int IntKind.i64 0)), none⟩])
  (.seq (.seq (.ops [⟨some 8, Op.move (Operand.tmp 0), none⟩,
    ⟨some 9, Op.move (Operand.tmp 1), none⟩,
    ⟨some 10, Op.call { callee := Callee.value (Operand.func 28), args := #[Operand.tmp 8, Operand.tmp 9], argTypes := #[26, 3] }, none⟩,
    ⟨some 6, Op.assign (Operand.tmp 10), none⟩])
  (.seq (.ops [⟨some 11, Op.move (Operand.tmp 6), none⟩,
    ⟨some 12, Op.binOp BinOp.neq 27 (Operand.tmp 11) (Operand.const (Value.int IntKind.i64 0)) 27, none⟩])
  (.cond (Operand.tmp 12)
  (.seq (.ops [⟨some 13, Op.move (Operand.tmp 6), none⟩,
    ⟨some 4, Op.assign (Operand.const (Value.slice none 0 0)), none⟩,
    ⟨some 5, Op.assign (Operand.tmp 13), none⟩])
  .ret)
  .skip)))
  (.seq (.ops [⟨some 14, Op.move (Operand.tmp 0), none⟩,
    ⟨some 15, Op.nilCheck (Operand.tmp 14), none⟩,
    ⟨some 16, Op.fieldAddr 54 (Operand.tmp 15) 0, none⟩,
    ⟨some 17, Op.load 51 (Operand.tmp 16), none⟩,
    ⟨some 18, Op.move (Operand.tmp 1), none⟩,
    ⟨some 19, Op.indexAddr 51 (Operand.tmp 17) (Operand.tmp 18), none⟩,
    ⟨some 20, Op.load 67 (Operand.tmp 19), none⟩,
    ⟨some 7, Op.alloc 67, none⟩,
    ⟨none, Op.store 67 (Operand.tmp 7) (Operand.tmp 20), none⟩])
  (.seq (.ops [⟨some 21, Op.slice 67 (Operand.tmp 7) none none none, none⟩,
    ⟨some 4, Op.assign (Operand.tmp 21), none⟩,
    ⟨some 5, Op.assign (Operand.const (Value.int IntKind.i64 0)), none⟩])
  .ret))))
theorem ir38_eq : (Try.f38.body.map low, Try.f38.ntmps, Try.f38.results.toList) = (some ir38, 22, [.tmp 4, .tmp 5]) := by kernel_rfl


end Go.Proofs.Ytgkcbpagdfdpdaa
