/- The code of this seat struck bare (printed by program). -/
import Derived.Test.YtkfhdaimememiaaProg
import Derived.Test.YtkfhdaimememiaaV4
import Derived.KernelRfl
set_option linter.unusedVariables false
set_option linter.unusedSimpArgs false
set_option linter.unusedSimpArgs false
set_option maxRecDepth 100000
namespace Go.Proofs.Ytkfhdaimememiaa
open Go Go.Vm
def ir4 : LC := (.seq (.ops [⟨some 4, Op.assign (Operand.const (Value.bool false)), none⟩])
  (.seq (.ops [⟨some 12, Op.move (Operand.tmp 0), none⟩,
    ⟨some 13, Op.call { callee := Callee.value (Operand.func 9), args := #[Operand.tmp 12], argTypes := #[22] }, none⟩,
    ⟨some 11, Op.move (Operand.tmp 13), none⟩,
    ⟨some 14, Op.extract (Operand.tmp 11) 0, none⟩,
    ⟨some 15, Op.extract (Operand.tmp 11) 1, none⟩,
    ⟨some 16, Op.extract (Operand.tmp 11) 2, none⟩,
    ⟨some 5, Op.assign (Operand.tmp 14), none⟩,
    ⟨some 6, Op.assign (Operand.tmp 15), none⟩,
    ⟨some 7, Op.assign (Operand.tmp 16), none⟩])
  (.seq (.ops [⟨some 18, Op.move (Operand.tmp 1), none⟩,
    ⟨some 19, Op.call { callee := Callee.value (Operand.func 9), args := #[Operand.tmp 18], argTypes := #[22] }, none⟩,
    ⟨some 17, Op.move (Operand.tmp 19), none⟩,
    ⟨some 20, Op.extract (Operand.tmp 17) 0, none⟩,
    ⟨some 21, Op.extract (Operand.tmp 17) 1, none⟩,
    ⟨some 22, Op.extract (Operand.tmp 17) 2, none⟩,
    ⟨some 8, Op.assign (Operand.tmp 20), none⟩,
    ⟨some 9, Op.assign (Operand.tmp 21), none⟩,
    ⟨some 10, Op.assign (Operand.tmp 22), none⟩])
  (.seq (.ops [⟨some 23, Op.move (Operand.tmp 7), none⟩,
    ⟨some 24, Op.move (Operand.tmp 23), none⟩,
    ⟨some 25, Op.move (Operand.tmp 10), some (24, true)⟩,
    ⟨some 26, Op.pick (Operand.tmp 24) (Operand.tmp 25) (Operand.const (Value.bool false)), none⟩,
    ⟨some 27, Op.move (Operand.tmp 26), none⟩,
    ⟨some 28, Op.move (Operand.tmp 5), some (27, true)⟩,
    ⟨some 29, Op.move (Operand.tmp 8), some (27, true)⟩,
    ⟨some 30, Op.call { callee := Callee.value (Operand.func 15), args := #[Operand.tmp 28, Operand.tmp 29], argTypes := #[23, 23] }, some (27, true)⟩,
    ⟨some 31, Op.move (Operand.tmp 6), some (27, true)⟩,
    ⟨some 32, Op.move (Operand.tmp 9), some (27, true)⟩,
    ⟨some 33, Op.call { callee := Callee.value (Operand.func 16), args := #[Operand.tmp 31, Operand.tmp 32], argTypes := #[24, 24] }, some (27, true)⟩,
    ⟨some 34, Op.binOp BinOp.eql 4 (Operand.tmp 30) (Operand.tmp 33) 4, some (27, true)⟩,
    ⟨some 35, Op.pick (Operand.tmp 27) (Operand.tmp 34) (Operand.const (Value.bool false)), none⟩,
    ⟨some 36, Op.move (Operand.tmp 35), none⟩,
    ⟨some 37, Op.move (Operand.tmp 5), some (36, true)⟩,
    ⟨some 38, Op.move (Operand.tmp 5), some (36, true)⟩,
    ⟨some 39, Op.call { callee := Callee.value (Operand.func 15), args := #[Operand.tmp 37, Operand.tmp 38], argTypes := #[23, 23] }, some (36, true)⟩,
    ⟨some 40, Op.pick (Operand.tmp 36) (Operand.tmp 39) (Operand.const (Value.bool false)), none⟩,
    ⟨some 41, Op.move (Operand.tmp 40), none⟩,
    ⟨some 42, Op.call { callee := Callee.value (Operand.func 14), args := #[], argTypes := #[] }, some (41, true)⟩,
    ⟨some 43, Op.pick (Operand.tmp 41) (Operand.tmp 42) (Operand.const (Value.bool false)), none⟩,
    ⟨some 4, Op.assign (Operand.tmp 43), none⟩])
  .ret))))
theorem ir4_eq : (Try.f4.body.map low, Try.f4.ntmps, Try.f4.results.toList) = (some ir4, 44, [.tmp 4]) := by kernel_rfl
def ir6_l0 : LC := (.seq (.seq (.ops [⟨some 20, Op.move (Operand.tmp 7), none⟩,
    ⟨some 21, Op.move (Operand.tmp 0), none⟩,
    ⟨some 22, Op.call { callee := Callee.builtin Builtin.len, args := #[Operand.tmp 21], argTypes := #[22] }, none⟩,
    ⟨some 23, Op.binOp BinOp.lss 3 (Operand.tmp 20) (Operand.tmp 22) 3, none⟩,
    ⟨some 24, Op.move (Operand.tmp 23), none⟩,
    ⟨some 25, Op.move (Operand.tmp 7), some (24, true)⟩,
    ⟨some 26, Op.binOp BinOp.lss 3 (Operand.tmp 25) (Operand.const (Value.int IntKind.i64 100)) 3, some (24, true)⟩,
    ⟨some 27, Op.pick (Operand.tmp 24) (Operand.tmp 26) (Operand.const (Value.bool false)), none⟩])
  (.cond (Operand.tmp 27)
  .skip
  (.exit 0)))
  (.seq (.block 1 (.seq (.ops [⟨some 8, Op.assign (Operand.const (Value.bool true)), none⟩])
  (.seq (.ops [⟨some 31, Op.move (Operand.tmp 5), none⟩,
    ⟨some 32, Op.move (Operand.tmp 6), none⟩,
    ⟨some 33, Op.move (Operand.tmp 0), none⟩,
    ⟨some 34, Op.move (Operand.tmp 7), none⟩,
    ⟨some 35, Op.indexAddr 22 (Operand.tmp 33) (Operand.tmp 34), none⟩,
    ⟨some 36, Op.load 30 (Operand.tmp 35), none⟩,
    ⟨some 37, Op.call { callee := Callee.value (Operand.func 11), args := #[Operand.tmp 31, Operand.tmp 32, Operand.tmp 36], argTypes := #[23, 24, 30] }, none⟩,
    ⟨some 30, Op.move (Operand.tmp 37), none⟩,
    ⟨some 38, Op.extract (Operand.tmp 30) 0, none⟩,
    ⟨some 39, Op.extract (Operand.tmp 30) 1, none⟩,
    ⟨some 40, Op.extract (Operand.tmp 30) 2, none⟩,
    ⟨some 5, Op.assign (Operand.tmp 38), none⟩,
    ⟨some 6, Op.assign (Operand.tmp 39), none⟩,
    ⟨some 8, Op.assign (Operand.tmp 40), none⟩])
  (.seq (.ops [⟨some 41, Op.move (Operand.tmp 8), none⟩,
    ⟨some 42, Op.unOp UnOp.not 4 (Operand.tmp 41), none⟩,
    ⟨some 43, Op.move (Operand.tmp 42), none⟩,
    ⟨some 44, Op.move (Operand.tmp 7), some (43, false)⟩,
    ⟨some 45, Op.binOp BinOp.rem 3 (Operand.tmp 44) (Operand.const (Value.int IntKind.i64 9)) 3, some (43, false)⟩,
    ⟨some 46, Op.binOp BinOp.eql 3 (Operand.tmp 45) (Operand.const (Value.int IntKind.i64 0)) 3, some (43, false)⟩,
    ⟨some 47, Op.move (Operand.tmp 46), some (43, false)⟩,
    ⟨some 48, Op.move (Operand.tmp 5), some (47, true)⟩,
    ⟨some 49, Op.move (Operand.tmp 6), some (47, true)⟩,
    ⟨some 50, Op.move (Operand.tmp 1), some (47, true)⟩,
    ⟨some 51, Op.call { callee := Callee.value (Operand.func 22), args := #[Operand.tmp 48, Operand.tmp 49, Operand.tmp 50], argTypes := #[23, 24, 3] }, some (47, true)⟩,
    ⟨some 52, Op.unOp UnOp.not 4 (Operand.tmp 51), some (47, true)⟩,
    ⟨some 53, Op.pick (Operand.tmp 47) (Operand.tmp 52) (Operand.const (Value.bool false)), some (43, false)⟩,
    ⟨some 54, Op.pick (Operand.tmp 43) (Operand.const (Value.bool true)) (Operand.tmp 53), none⟩])
  (.cond (Operand.tmp 54)
  (.seq (.ops [⟨some 4, Op.assign (Operand.const (Value.bool false)), none⟩])
  .ret)
  .skip)))))
  (.ops [⟨some 28, Op.move (Operand.tmp 7), none⟩,
    ⟨some 29, Op.binOp BinOp.add 3 (Operand.tmp 28) (Operand.const (Value.int IntKind.i64 1)) 3, none⟩,
    ⟨some 7, Op.assign (Operand.tmp 29), none⟩])))
def ir6 : LC := (.seq (.ops [⟨some 4, Op.assign (Operand.const (Value.bool false)), none⟩])
  (.seq (.ops [⟨some 9, Op.call { callee := Callee.value (Operand.func 21), args := #[], argTypes := #[] }, none⟩,
    ⟨some 10, Op.call { callee := Callee.value (Operand.func 12), args := #[], argTypes := #[] }, none⟩,
    ⟨some 5, Op.assign (Operand.tmp 9), none⟩,
    ⟨some 6, Op.assign (Operand.tmp 10), none⟩])
  (.seq (.seq (.ops [⟨some 11, Op.move (Operand.tmp 5), none⟩,
    ⟨some 12, Op.binOp BinOp.eql 23 (Operand.tmp 11) (Operand.const (Value.pointer none)) 23, none⟩,
    ⟨some 13, Op.move (Operand.tmp 12), none⟩,
    ⟨some 14, Op.move (Operand.tmp 5), some (13, false)⟩,
    ⟨some 15, Op.move (Operand.tmp 6), some (13, false)⟩,
    ⟨some 16, Op.move (Operand.tmp 1), some (13, false)⟩,
    ⟨some 17, Op.call { callee := Callee.value (Operand.func 22), args := #[Operand.tmp 14, Operand.tmp 15, Operand.tmp 16], argTypes := #[23, 24, 3] }, some (13, false)⟩,
    ⟨some 18, Op.unOp UnOp.not 4 (Operand.tmp 17), some (13, false)⟩,
    ⟨some 19, Op.pick (Operand.tmp 13) (Operand.const (Value.bool true)) (Operand.tmp 18), none⟩])
  (.cond (Operand.tmp 19)
  (.seq (.ops [⟨some 4, Op.assign (Operand.const (Value.bool false)), none⟩])
  .ret)
  .skip))
  (.seq (.seq (.ops [⟨some 7, Op.assign (Operand.const (Value.int IntKind.i64 0)), none⟩])
  (.block 0 (.loop ir6_l0)))
  (.seq (.ops [⟨some 55, Op.move (Operand.tmp 5), none⟩,
    ⟨some 56, Op.move (Operand.tmp 6), none⟩,
    ⟨some 57, Op.move (Operand.tmp 1), none⟩,
    ⟨some 58, Op.call { callee := Callee.value (Operand.func 22), args := #[Operand.tmp 55, Operand.tmp 56, Operand.tmp 57], argTypes := #[23, 24, 3] }, none⟩,
    ⟨some 59, Op.move (Operand.tmp 58), none⟩,
    ⟨some 60, Op.call { callee := Callee.value (Operand.func 14), args := #[], argTypes := #[] }, some (59, true)⟩,
    ⟨some 61, Op.pick (Operand.tmp 59) (Operand.tmp 60) (Operand.const (Value.bool false)), none⟩,
    ⟨some 4, Op.assign (Operand.tmp 61), none⟩])
  .ret)))))
theorem ir6_eq : (Try.f6.body.map low, Try.f6.ntmps, Try.f6.results.toList) = (some ir6, 62, [.tmp 4]) := by kernel_rfl
def ir9_l0 : LC := (.seq (.seq (.ops [⟨some 13, Op.move (Operand.tmp 8), none⟩,
    ⟨some 14, Op.move (Operand.tmp 0), none⟩,
    ⟨some 15, Op.call { callee := Callee.builtin Builtin.len, args := #[Operand.tmp 14], argTypes := #[22] }, none⟩,
    ⟨some 16, Op.binOp BinOp.lss 3 (Operand.tmp 13) (Operand.tmp 15) 3, none⟩,
    ⟨some 17, Op.move (Operand.tmp 16), none⟩,
    ⟨some 18, Op.move (Operand.tmp 8), some (17, true)⟩,
    ⟨some 19, Op.binOp BinOp.lss 3 (Operand.tmp 18) (Operand.const (Value.int IntKind.i64 60)) 3, some (17, true)⟩,
    ⟨some 20, Op.pick (Operand.tmp 17) (Operand.tmp 19) (Operand.const (Value.bool false)), none⟩,
    ⟨some 21, Op.move (Operand.tmp 20), none⟩,
    ⟨some 22, Op.move (Operand.tmp 7), some (21, true)⟩,
    ⟨some 23, Op.pick (Operand.tmp 21) (Operand.tmp 22) (Operand.const (Value.bool false)), none⟩])
  (.cond (Operand.tmp 23)
  .skip
  (.exit 0)))
  (.seq (.block 1 (.ops [⟨some 27, Op.move (Operand.tmp 5), none⟩,
    ⟨some 28, Op.move (Operand.tmp 6), none⟩,
    ⟨some 29, Op.move (Operand.tmp 0), none⟩,
    ⟨some 30, Op.move (Operand.tmp 8), none⟩,
    ⟨some 31, Op.indexAddr 22 (Operand.tmp 29) (Operand.tmp 30), none⟩,
    ⟨some 32, Op.load 30 (Operand.tmp 31), none⟩,
    ⟨some 33, Op.call { callee := Callee.value (Operand.func 11), args := #[Operand.tmp 27, Operand.tmp 28, Operand.tmp 32], argTypes := #[23, 24, 30] }, none⟩,
    ⟨some 26, Op.move (Operand.tmp 33), none⟩,
    ⟨some 34, Op.extract (Operand.tmp 26) 0, none⟩,
    ⟨some 35, Op.extract (Operand.tmp 26) 1, none⟩,
    ⟨some 36, Op.extract (Operand.tmp 26) 2, none⟩,
    ⟨some 5, Op.assign (Operand.tmp 34), none⟩,
    ⟨some 6, Op.assign (Operand.tmp 35), none⟩,
    ⟨some 7, Op.assign (Operand.tmp 36), none⟩]))
  (.ops [⟨some 24, Op.move (Operand.tmp 8), none⟩,
    ⟨some 25, Op.binOp BinOp.add 3 (Operand.tmp 24) (Operand.const (Value.int IntKind.i64 1)) 3, none⟩,
    ⟨some 8, Op.assign (Operand.tmp 25), none⟩])))
def ir9 : LC := (.seq (.ops [⟨some 2, Op.assign (Operand.const (Value.pointer none)), none⟩,
    ⟨some 3, Op.assign (Operand.const (Value.pointer none)), none⟩,
    ⟨some 4, Op.assign (Operand.const (Value.bool false)), none⟩])
  (.seq (.ops [⟨some 9, Op.call { callee := Callee.value (Operand.func 21), args := #[], argTypes := #[] }, none⟩,
    ⟨some 10, Op.call { callee := Callee.value (Operand.func 12), args := #[], argTypes := #[] }, none⟩,
    ⟨some 5, Op.assign (Operand.tmp 9), none⟩,
    ⟨some 6, Op.assign (Operand.tmp 10), none⟩])
  (.seq (.ops [⟨some 11, Op.move (Operand.tmp 5), none⟩,
    ⟨some 12, Op.binOp BinOp.neq 23 (Operand.tmp 11) (Operand.const (Value.pointer none)) 23, none⟩,
    ⟨some 7, Op.assign (Operand.tmp 12), none⟩])
  (.seq (.seq (.ops [⟨some 8, Op.assign (Operand.const (Value.int IntKind.i64 0)), none⟩])
  (.block 0 (.loop ir9_l0)))
  (.seq (.ops [⟨some 37, Op.move (Operand.tmp 5), none⟩,
    ⟨some 38, Op.move (Operand.tmp 6), none⟩,
    ⟨some 39, Op.move (Operand.tmp 7), none⟩,
    ⟨some 2, Op.assign (Operand.tmp 37), none⟩,
    ⟨some 3, Op.assign (Operand.tmp 38), none⟩,
    ⟨some 4, Op.assign (Operand.tmp 39), none⟩])
  .ret)))))
theorem ir9_eq : (Try.f9.body.map low, Try.f9.ntmps, Try.f9.results.toList) = (some ir9, 40, [.tmp 2, .tmp 3, .tmp 4]) := by kernel_rfl
def ir10_l0 : LC := (.seq (.ops [⟨some 21, Op.next (Operand.tmp 20) false, none⟩,
    ⟨some 22, Op.extract (Operand.tmp 21) 0, none⟩])
  (.seq (.cond (Operand.tmp 22)
  .skip
  (.exit 0))
  (.block 1 (.seq (.ops [⟨some 23, Op.entry (Operand.tmp 20), none⟩,
    ⟨some 24, Op.extract (Operand.tmp 23) 0, none⟩,
    ⟨some 25, Op.extract (Operand.tmp 23) 1, none⟩,
    ⟨some 4, Op.alloc 50, none⟩,
    ⟨none, Op.store 50 (Operand.tmp 4) (Operand.tmp 24), none⟩,
    ⟨some 5, Op.assign (Operand.tmp 25), none⟩])
  (.draw [⟨some 26, Op.move (Operand.tmp 3), none⟩,
    ⟨some 27, Op.nilCheck (Operand.tmp 26), none⟩,
    ⟨some 28, Op.fieldAddr 64 (Operand.tmp 27) 1, none⟩,
    ⟨some 29, Op.load 62 (Operand.tmp 28), none⟩,
    ⟨some 30, Op.load 50 (Operand.tmp 4), none⟩,
    ⟨some 31, Op.move (Operand.tmp 5), none⟩,
    ⟨none, Op.mapUpdate 62 (Operand.tmp 29) (Operand.tmp 30) (Operand.tmp 31), none⟩] [])))))
def ir10 : LC := (.seq (.ops [⟨some 2, Op.assign (Operand.const (Value.pointer none)), none⟩])
  (.seq (.seq (.ops [⟨some 6, Op.move (Operand.tmp 0), none⟩,
    ⟨some 7, Op.call { callee := Callee.value (Operand.func 26), args := #[Operand.tmp 6], argTypes := #[23] }, none⟩,
    ⟨some 8, Op.unOp UnOp.not 4 (Operand.tmp 7), none⟩])
  (.cond (Operand.tmp 8)
  (.seq (.ops [⟨some 2, Op.assign (Operand.const (Value.pointer none)), none⟩])
  .ret)
  .skip))
  (.seq (.ops [⟨some 9, Op.move (Operand.tmp 0), none⟩,
    ⟨some 10, Op.nilCheck (Operand.tmp 9), none⟩,
    ⟨some 11, Op.fieldAddr 64 (Operand.tmp 10) 0, none⟩,
    ⟨some 12, Op.load 61 (Operand.tmp 11), none⟩,
    ⟨some 13, Op.makeMap 62 none, none⟩,
    ⟨some 14, Op.build 64 #[(0, Operand.tmp 12), (1, Operand.tmp 13)], none⟩,
    ⟨some 15, Op.box 64 (Operand.tmp 14), none⟩,
    ⟨some 3, Op.assign (Operand.tmp 15), none⟩])
  (.seq (.seq (.ops [⟨some 16, Op.move (Operand.tmp 0), none⟩,
    ⟨some 17, Op.nilCheck (Operand.tmp 16), none⟩,
    ⟨some 18, Op.fieldAddr 64 (Operand.tmp 17) 1, none⟩,
    ⟨some 19, Op.load 62 (Operand.tmp 18), none⟩,
    ⟨some 20, Op.range 62 (Operand.tmp 19), none⟩])
  (.block 0 (.loop ir10_l0)))
  (.seq (.ops [⟨some 32, Op.move (Operand.tmp 3), none⟩,
    ⟨some 2, Op.assign (Operand.tmp 32), none⟩])
  .ret)))))
theorem ir10_eq : (Try.f10.body.map low, Try.f10.ntmps, Try.f10.results.toList) = (some ir10, 33, [.tmp 2]) := by kernel_rfl
def ir11 : LC := (.seq (.ops [⟨some 5, Op.box 30 (Operand.tmp 2), none⟩,
    ⟨some 6, Op.assign (Operand.const (Value.pointer none)), none⟩,
    ⟨some 7, Op.assign (Operand.const (Value.pointer none)), none⟩,
    ⟨some 8, Op.assign (Operand.const (Value.bool false)), none⟩])
  (.seq (.seq (.ops [⟨some 33, Op.fieldAddr 30 (Operand.tmp 5) 0, none⟩,
    ⟨some 34, Op.load 3 (Operand.tmp 33), none⟩])
  (.block 0 (.seq (.ops [⟨some 36, Op.binOp BinOp.eql 3 (Operand.tmp 34) (Operand.const (Value.int IntKind.i64 1)) 3, none⟩,
    ⟨some 35, Op.assign (Operand.tmp 36), none⟩])
  (.cond (Operand.tmp 35)
  (.seq (.draw [⟨some 37, Op.move (Operand.tmp 0), none⟩,
    ⟨some 38, Op.move (Operand.tmp 1), none⟩,
    ⟨some 39, Op.move (Operand.tmp 0), none⟩,
    ⟨some 40, Op.fieldAddr 30 (Operand.tmp 5) 1, none⟩,
    ⟨some 41, Op.load 3 (Operand.tmp 40), none⟩,
    ⟨some 42, Op.fieldAddr 30 (Operand.tmp 5) 2, none⟩,
    ⟨some 43, Op.load 3 (Operand.tmp 42), none⟩,
    ⟨some 44, Op.fieldAddr 30 (Operand.tmp 5) 3, none⟩,
    ⟨some 45, Op.load 3 (Operand.tmp 44), none⟩,
    ⟨some 46, Op.fieldAddr 30 (Operand.tmp 5) 4, none⟩,
    ⟨some 47, Op.load 3 (Operand.tmp 46), none⟩,
    ⟨some 48, Op.call { callee := Callee.value (Operand.func 23), args := #[Operand.tmp 39, Operand.tmp 41, Operand.tmp 43, Operand.tmp 45, Operand.tmp 47], argTypes := #[23, 3, 3, 3, 3] }, none⟩,
    ⟨some 49, Op.call { callee := Callee.value (Operand.func 18), args := #[Operand.tmp 48], argTypes := #[42] }, none⟩,
    ⟨some 50, Op.move (Operand.tmp 1), none⟩,
    ⟨some 51, Op.fieldAddr 30 (Operand.tmp 5) 1, none⟩,
    ⟨some 52, Op.load 3 (Operand.tmp 51), none⟩,
    ⟨some 53, Op.fieldAddr 30 (Operand.tmp 5) 2, none⟩,
    ⟨some 54, Op.load 3 (Operand.tmp 53), none⟩,
    ⟨some 55, Op.fieldAddr 30 (Operand.tmp 5) 3, none⟩,
    ⟨some 56, Op.load 3 (Operand.tmp 55), none⟩,
    ⟨some 57, Op.fieldAddr 30 (Operand.tmp 5) 4, none⟩,
    ⟨some 58, Op.load 3 (Operand.tmp 57), none⟩,
    ⟨some 59, Op.call { callee := Callee.value (Operand.func 27), args := #[Operand.tmp 50, Operand.tmp 52, Operand.tmp 54, Operand.tmp 56, Operand.tmp 58], argTypes := #[24, 3, 3, 3, 3] }, none⟩,
    ⟨some 60, Op.binOp BinOp.eql 3 (Operand.tmp 49) (Operand.tmp 59) 3, none⟩,
    ⟨some 6, Op.assign (Operand.tmp 37), none⟩,
    ⟨some 7, Op.assign (Operand.tmp 38), none⟩,
    ⟨some 8, Op.assign (Operand.tmp 60), none⟩] [(0, 11), (1, 11), (0, 12), (1, 12), (11, 13), (12, 13), (11, 14), (12, 14), (11, 15), (12, 15), (11, 16), (12, 16), (11, 17), (12, 17), (11, 18), (12, 18), (11, 19), (12, 19), (11, 20), (12, 20), (11, 21), (12, 21), (0, 22), (1, 22)])
  .ret)
  (.seq (.ops [⟨some 62, Op.binOp BinOp.eql 3 (Operand.tmp 34) (Operand.const (Value.int IntKind.i64 2)) 3, none⟩,
    ⟨some 61, Op.assign (Operand.tmp 62), none⟩])
  (.cond (Operand.tmp 61)
  (.seq (.ops [⟨some 64, Op.move (Operand.tmp 0), none⟩,
    ⟨some 65, Op.fieldAddr 30 (Operand.tmp 5) 1, none⟩,
    ⟨some 66, Op.load 3 (Operand.tmp 65), none⟩,
    ⟨some 67, Op.fieldAddr 30 (Operand.tmp 5) 2, none⟩,
    ⟨some 68, Op.load 3 (Operand.tmp 67), none⟩,
    ⟨some 69, Op.call { callee := Callee.value (Operand.func 28), args := #[Operand.tmp 64, Operand.tmp 66, Operand.tmp 68], argTypes := #[23, 3, 3] }, none⟩,
    ⟨some 63, Op.move (Operand.tmp 69), none⟩,
    ⟨some 70, Op.extract (Operand.tmp 63) 0, none⟩,
    ⟨some 71, Op.extract (Operand.tmp 63) 1, none⟩,
    ⟨some 9, Op.alloc 34, none⟩,
    ⟨none, Op.store 34 (Operand.tmp 9) (Operand.tmp 70), none⟩,
    ⟨some 10, Op.assign (Operand.tmp 71), none⟩])
  (.seq (.ops [⟨some 73, Op.move (Operand.tmp 1), none⟩,
    ⟨some 74, Op.fieldAddr 30 (Operand.tmp 5) 1, none⟩,
    ⟨some 75, Op.load 3 (Operand.tmp 74), none⟩,
    ⟨some 76, Op.fieldAddr 30 (Operand.tmp 5) 2, none⟩,
    ⟨some 77, Op.load 3 (Operand.tmp 76), none⟩,
    ⟨some 78, Op.call { callee := Callee.value (Operand.func 29), args := #[Operand.tmp 73, Operand.tmp 75, Operand.tmp 77], argTypes := #[24, 3, 3] }, none⟩,
    ⟨some 72, Op.move (Operand.tmp 78), none⟩,
    ⟨some 79, Op.extract (Operand.tmp 72) 0, none⟩,
    ⟨some 80, Op.extract (Operand.tmp 72) 1, none⟩,
    ⟨some 11, Op.alloc 34, none⟩,
    ⟨none, Op.store 34 (Operand.tmp 11) (Operand.tmp 79), none⟩,
    ⟨some 12, Op.assign (Operand.tmp 80), none⟩])
  (.seq (.ops [⟨some 81, Op.move (Operand.tmp 0), none⟩,
    ⟨some 82, Op.move (Operand.tmp 1), none⟩,
    ⟨some 83, Op.load 34 (Operand.tmp 9), none⟩,
    ⟨some 84, Op.load 34 (Operand.tmp 11), none⟩,
    ⟨some 85, Op.binOp BinOp.eql 34 (Operand.tmp 83) (Operand.tmp 84) 34, none⟩,
    ⟨some 86, Op.move (Operand.tmp 85), none⟩,
    ⟨some 87, Op.move (Operand.tmp 10), some (86, true)⟩,
    ⟨some 88, Op.call { callee := Callee.value (Operand.func 18), args := #[Operand.tmp 87], argTypes := #[42] }, some (86, true)⟩,
    ⟨some 89, Op.move (Operand.tmp 12), some (86, true)⟩,
    ⟨some 90, Op.binOp BinOp.eql 3 (Operand.tmp 88) (Operand.tmp 89) 3, some (86, true)⟩,
    ⟨some 91, Op.pick (Operand.tmp 86) (Operand.tmp 90) (Operand.const (Value.bool false)), none⟩,
    ⟨some 6, Op.assign (Operand.tmp 81), none⟩,
    ⟨some 7, Op.assign (Operand.tmp 82), none⟩,
    ⟨some 8, Op.assign (Operand.tmp 91), none⟩])
  .ret)))
  (.seq (.ops [⟨some 93, Op.binOp BinOp.eql 3 (Operand.tmp 34) (Operand.const (Value.int IntKind.i64 3)) 3, none⟩,
    ⟨some 92, Op.assign (Operand.tmp 93), none⟩])
  (.cond (Operand.tmp 92)
  (.seq (.draw [⟨some 94, Op.move (Operand.tmp 0), none⟩,
    ⟨some 95, Op.move (Operand.tmp 1), none⟩,
    ⟨some 96, Op.move (Operand.tmp 0), none⟩,
    ⟨some 97, Op.fieldAddr 30 (Operand.tmp 5) 1, none⟩,
    ⟨some 98, Op.load 3 (Operand.tmp 97), none⟩,
    ⟨some 99, Op.fieldAddr 30 (Operand.tmp 5) 2, none⟩,
    ⟨some 100, Op.load 3 (Operand.tmp 99), none⟩,
    ⟨some 101, Op.fieldAddr 30 (Operand.tmp 5) 4, none⟩,
    ⟨some 102, Op.load 3 (Operand.tmp 101), none⟩,
    ⟨some 103, Op.call { callee := Callee.value (Operand.func 30), args := #[Operand.tmp 96, Operand.tmp 98, Operand.tmp 100, Operand.tmp 102], argTypes := #[23, 3, 3, 3] }, none⟩,
    ⟨some 104, Op.call { callee := Callee.value (Operand.func 18), args := #[Operand.tmp 103], argTypes := #[42] }, none⟩,
    ⟨some 105, Op.move (Operand.tmp 1), none⟩,
    ⟨some 106, Op.fieldAddr 30 (Operand.tmp 5) 1, none⟩,
    ⟨some 107, Op.load 3 (Operand.tmp 106), none⟩,
    ⟨some 108, Op.fieldAddr 30 (Operand.tmp 5) 2, none⟩,
    ⟨some 109, Op.load 3 (Operand.tmp 108), none⟩,
    ⟨some 110, Op.fieldAddr 30 (Operand.tmp 5) 4, none⟩,
    ⟨some 111, Op.load 3 (Operand.tmp 110), none⟩,
    ⟨some 112, Op.call { callee := Callee.value (Operand.func 31), args := #[Operand.tmp 105, Operand.tmp 107, Operand.tmp 109, Operand.tmp 111], argTypes := #[24, 3, 3, 3] }, none⟩,
    ⟨some 113, Op.binOp BinOp.eql 3 (Operand.tmp 104) (Operand.tmp 112) 3, none⟩,
    ⟨some 6, Op.assign (Operand.tmp 94), none⟩,
    ⟨some 7, Op.assign (Operand.tmp 95), none⟩,
    ⟨some 8, Op.assign (Operand.tmp 113), none⟩] [(0, 9), (1, 9), (0, 10), (1, 10), (9, 11), (10, 11), (9, 12), (10, 12), (9, 13), (10, 13), (9, 14), (10, 14), (9, 15), (10, 15), (9, 16), (10, 16), (9, 17), (10, 17), (0, 18), (1, 18)])
  .ret)
  (.seq (.ops [⟨some 115, Op.binOp BinOp.eql 3 (Operand.tmp 34) (Operand.const (Value.int IntKind.i64 4)) 3, none⟩,
    ⟨some 114, Op.assign (Operand.tmp 115), none⟩])
  (.cond (Operand.tmp 114)
  (.seq (.ops [⟨some 117, Op.move (Operand.tmp 0), none⟩,
    ⟨some 118, Op.fieldAddr 30 (Operand.tmp 5) 1, none⟩,
    ⟨some 119, Op.load 3 (Operand.tmp 118), none⟩,
    ⟨some 120, Op.fieldAddr 30 (Operand.tmp 5) 5, none⟩,
    ⟨some 121, Op.load 28 (Operand.tmp 120), none⟩,
    ⟨some 122, Op.fieldAddr 30 (Operand.tmp 5) 4, none⟩,
    ⟨some 123, Op.load 3 (Operand.tmp 122), none⟩,
    ⟨some 124, Op.call { callee := Callee.value (Operand.func 17), args := #[Operand.tmp 117, Operand.tmp 119, Operand.tmp 121, Operand.tmp 123], argTypes := #[23, 3, 28, 3] }, none⟩,
    ⟨some 116, Op.move (Operand.tmp 124), none⟩,
    ⟨some 125, Op.extract (Operand.tmp 116) 0, none⟩,
    ⟨some 126, Op.extract (Operand.tmp 116) 1, none⟩,
    ⟨some 127, Op.extract (Operand.tmp 116) 2, none⟩,
    ⟨some 13, Op.assign (Operand.tmp 125), none⟩,
    ⟨some 14, Op.assign (Operand.tmp 126), none⟩,
    ⟨some 15, Op.assign (Operand.tmp 127), none⟩])
  (.seq (.ops [⟨some 129, Op.move (Operand.tmp 1), none⟩,
    ⟨some 130, Op.fieldAddr 30 (Operand.tmp 5) 1, none⟩,
    ⟨some 131, Op.load 3 (Operand.tmp 130), none⟩,
    ⟨some 132, Op.fieldAddr 30 (Operand.tmp 5) 5, none⟩,
    ⟨some 133, Op.load 28 (Operand.tmp 132), none⟩,
    ⟨some 134, Op.fieldAddr 30 (Operand.tmp 5) 4, none⟩,
    ⟨some 135, Op.load 3 (Operand.tmp 134), none⟩,
    ⟨some 136, Op.call { callee := Callee.value (Operand.func 32), args := #[Operand.tmp 129, Operand.tmp 131, Operand.tmp 133, Operand.tmp 135], argTypes := #[24, 3, 28, 3] }, none⟩,
    ⟨some 128, Op.move (Operand.tmp 136), none⟩,
    ⟨some 137, Op.extract (Operand.tmp 128) 0, none⟩,
    ⟨some 138, Op.extract (Operand.tmp 128) 1, none⟩,
    ⟨some 139, Op.extract (Operand.tmp 128) 2, none⟩,
    ⟨some 16, Op.assign (Operand.tmp 137), none⟩,
    ⟨some 17, Op.assign (Operand.tmp 138), none⟩,
    ⟨some 18, Op.assign (Operand.tmp 139), none⟩])
  (.seq (.ops [⟨some 140, Op.move (Operand.tmp 0), none⟩,
    ⟨some 141, Op.move (Operand.tmp 1), none⟩,
    ⟨some 142, Op.move (Operand.tmp 13), none⟩,
    ⟨some 143, Op.move (Operand.tmp 16), none⟩,
    ⟨some 144, Op.binOp BinOp.eql 3 (Operand.tmp 142) (Operand.tmp 143) 3, none⟩,
    ⟨some 145, Op.move (Operand.tmp 144), none⟩,
    ⟨some 146, Op.move (Operand.tmp 14), some (145, true)⟩,
    ⟨some 147, Op.move (Operand.tmp 17), some (145, true)⟩,
    ⟨some 148, Op.binOp BinOp.eql 3 (Operand.tmp 146) (Operand.tmp 147) 3, some (145, true)⟩,
    ⟨some 149, Op.pick (Operand.tmp 145) (Operand.tmp 148) (Operand.const (Value.bool false)), none⟩,
    ⟨some 150, Op.move (Operand.tmp 149), none⟩,
    ⟨some 151, Op.move (Operand.tmp 15), some (150, true)⟩,
    ⟨some 152, Op.call { callee := Callee.value (Operand.func 18), args := #[Operand.tmp 151], argTypes := #[42] }, some (150, true)⟩,
    ⟨some 153, Op.move (Operand.tmp 18), some (150, true)⟩,
    ⟨some 154, Op.binOp BinOp.eql 3 (Operand.tmp 152) (Operand.tmp 153) 3, some (150, true)⟩,
    ⟨some 155, Op.pick (Operand.tmp 150) (Operand.tmp 154) (Operand.const (Value.bool false)), none⟩,
    ⟨some 6, Op.assign (Operand.tmp 140), none⟩,
    ⟨some 7, Op.assign (Operand.tmp 141), none⟩,
    ⟨some 8, Op.assign (Operand.tmp 155), none⟩])
  .ret)))
  (.seq (.ops [⟨some 157, Op.binOp BinOp.eql 3 (Operand.tmp 34) (Operand.const (Value.int IntKind.i64 5)) 3, none⟩,
    ⟨some 156, Op.assign (Operand.tmp 157), none⟩])
  (.cond (Operand.tmp 156)
  (.seq (.ops [⟨some 159, Op.move (Operand.tmp 0), none⟩,
    ⟨some 160, Op.fieldAddr 30 (Operand.tmp 5) 1, none⟩,
    ⟨some 161, Op.load 3 (Operand.tmp 160), none⟩,
    ⟨some 162, Op.fieldAddr 30 (Operand.tmp 5) 2, none⟩,
    ⟨some 163, Op.load 3 (Operand.tmp 162), none⟩,
    ⟨some 164, Op.call { callee := Callee.value (Operand.func 33), args := #[Operand.tmp 159, Operand.tmp 161, Operand.tmp 163], argTypes := #[23, 3, 3] }, none⟩,
    ⟨some 158, Op.move (Operand.tmp 164), none⟩,
    ⟨some 165, Op.extract (Operand.tmp 158) 0, none⟩,
    ⟨some 166, Op.extract (Operand.tmp 158) 1, none⟩,
    ⟨some 19, Op.alloc 34, none⟩,
    ⟨none, Op.store 34 (Operand.tmp 19) (Operand.tmp 165), none⟩,
    ⟨some 20, Op.assign (Operand.tmp 166), none⟩])
  (.seq (.ops [⟨some 168, Op.move (Operand.tmp 1), none⟩,
    ⟨some 169, Op.fieldAddr 30 (Operand.tmp 5) 1, none⟩,
    ⟨some 170, Op.load 3 (Operand.tmp 169), none⟩,
    ⟨some 171, Op.fieldAddr 30 (Operand.tmp 5) 2, none⟩,
    ⟨some 172, Op.load 3 (Operand.tmp 171), none⟩,
    ⟨some 173, Op.call { callee := Callee.value (Operand.func 34), args := #[Operand.tmp 168, Operand.tmp 170, Operand.tmp 172], argTypes := #[24, 3, 3] }, none⟩,
    ⟨some 167, Op.move (Operand.tmp 173), none⟩,
    ⟨some 174, Op.extract (Operand.tmp 167) 0, none⟩,
    ⟨some 175, Op.extract (Operand.tmp 167) 1, none⟩,
    ⟨some 21, Op.alloc 34, none⟩,
    ⟨none, Op.store 34 (Operand.tmp 21) (Operand.tmp 174), none⟩,
    ⟨some 22, Op.assign (Operand.tmp 175), none⟩])
  (.seq (.ops [⟨some 176, Op.move (Operand.tmp 0), none⟩,
    ⟨some 177, Op.move (Operand.tmp 1), none⟩,
    ⟨some 178, Op.load 34 (Operand.tmp 19), none⟩,
    ⟨some 179, Op.load 34 (Operand.tmp 21), none⟩,
    ⟨some 180, Op.binOp BinOp.eql 34 (Operand.tmp 178) (Operand.tmp 179) 34, none⟩,
    ⟨some 181, Op.move (Operand.tmp 180), none⟩,
    ⟨some 182, Op.move (Operand.tmp 20), some (181, true)⟩,
    ⟨some 183, Op.call { callee := Callee.value (Operand.func 18), args := #[Operand.tmp 182], argTypes := #[42] }, some (181, true)⟩,
    ⟨some 184, Op.move (Operand.tmp 22), some (181, true)⟩,
    ⟨some 185, Op.binOp BinOp.eql 3 (Operand.tmp 183) (Operand.tmp 184) 3, some (181, true)⟩,
    ⟨some 186, Op.pick (Operand.tmp 181) (Operand.tmp 185) (Operand.const (Value.bool false)), none⟩,
    ⟨some 6, Op.assign (Operand.tmp 176), none⟩,
    ⟨some 7, Op.assign (Operand.tmp 177), none⟩,
    ⟨some 8, Op.assign (Operand.tmp 186), none⟩])
  .ret)))
  (.seq (.ops [⟨some 188, Op.binOp BinOp.eql 3 (Operand.tmp 34) (Operand.const (Value.int IntKind.i64 6)) 3, none⟩,
    ⟨some 187, Op.assign (Operand.tmp 188), none⟩])
  (.cond (Operand.tmp 187)
  (.seq (.ops [⟨some 190, Op.move (Operand.tmp 0), none⟩,
    ⟨some 191, Op.fieldAddr 30 (Operand.tmp 5) 1, none⟩,
    ⟨some 192, Op.load 3 (Operand.tmp 191), none⟩,
    ⟨some 193, Op.fieldAddr 30 (Operand.tmp 5) 2, none⟩,
    ⟨some 194, Op.load 3 (Operand.tmp 193), none⟩,
    ⟨some 195, Op.call { callee := Callee.value (Operand.func 24), args := #[Operand.tmp 190, Operand.tmp 192, Operand.tmp 194], argTypes := #[23, 3, 3] }, none⟩,
    ⟨some 189, Op.move (Operand.tmp 195), none⟩,
    ⟨some 196, Op.extract (Operand.tmp 189) 0, none⟩,
    ⟨some 197, Op.extract (Operand.tmp 189) 1, none⟩,
    ⟨some 23, Op.assign (Operand.tmp 196), none⟩,
    ⟨some 24, Op.assign (Operand.tmp 197), none⟩])
  (.seq (.ops [⟨some 199, Op.move (Operand.tmp 1), none⟩,
    ⟨some 200, Op.fieldAddr 30 (Operand.tmp 5) 1, none⟩,
    ⟨some 201, Op.load 3 (Operand.tmp 200), none⟩,
    ⟨some 202, Op.fieldAddr 30 (Operand.tmp 5) 2, none⟩,
    ⟨some 203, Op.load 3 (Operand.tmp 202), none⟩,
    ⟨some 204, Op.call { callee := Callee.value (Operand.func 35), args := #[Operand.tmp 199, Operand.tmp 201, Operand.tmp 203], argTypes := #[24, 3, 3] }, none⟩,
    ⟨some 198, Op.move (Operand.tmp 204), none⟩,
    ⟨some 205, Op.extract (Operand.tmp 198) 0, none⟩,
    ⟨some 206, Op.extract (Operand.tmp 198) 1, none⟩,
    ⟨some 25, Op.assign (Operand.tmp 205), none⟩,
    ⟨some 26, Op.assign (Operand.tmp 206), none⟩])
  (.seq (.ops [⟨some 207, Op.move (Operand.tmp 0), none⟩,
    ⟨some 208, Op.move (Operand.tmp 1), none⟩,
    ⟨some 209, Op.move (Operand.tmp 23), none⟩,
    ⟨some 210, Op.move (Operand.tmp 25), none⟩,
    ⟨some 211, Op.binOp BinOp.eql 3 (Operand.tmp 209) (Operand.tmp 210) 3, none⟩,
    ⟨some 212, Op.move (Operand.tmp 211), none⟩,
    ⟨some 213, Op.move (Operand.tmp 24), some (212, true)⟩,
    ⟨some 214, Op.call { callee := Callee.value (Operand.func 18), args := #[Operand.tmp 213], argTypes := #[42] }, some (212, true)⟩,
    ⟨some 215, Op.move (Operand.tmp 26), some (212, true)⟩,
    ⟨some 216, Op.binOp BinOp.eql 3 (Operand.tmp 214) (Operand.tmp 215) 3, some (212, true)⟩,
    ⟨some 217, Op.pick (Operand.tmp 212) (Operand.tmp 216) (Operand.const (Value.bool false)), none⟩,
    ⟨some 6, Op.assign (Operand.tmp 207), none⟩,
    ⟨some 7, Op.assign (Operand.tmp 208), none⟩,
    ⟨some 8, Op.assign (Operand.tmp 217), none⟩])
  .ret)))
  (.seq (.ops [⟨some 219, Op.binOp BinOp.eql 3 (Operand.tmp 34) (Operand.const (Value.int IntKind.i64 7)) 3, none⟩,
    ⟨some 218, Op.assign (Operand.tmp 219), none⟩])
  (.cond (Operand.tmp 218)
  (.seq (.ops [⟨some 221, Op.move (Operand.tmp 0), none⟩,
    ⟨some 222, Op.fieldAddr 30 (Operand.tmp 5) 1, none⟩,
    ⟨some 223, Op.load 3 (Operand.tmp 222), none⟩,
    ⟨some 224, Op.call { callee := Callee.value (Operand.func 36), args := #[Operand.tmp 221, Operand.tmp 223], argTypes := #[23, 3] }, none⟩,
    ⟨some 220, Op.move (Operand.tmp 224), none⟩,
    ⟨some 225, Op.extract (Operand.tmp 220) 0, none⟩,
    ⟨some 226, Op.extract (Operand.tmp 220) 1, none⟩,
    ⟨some 27, Op.assign (Operand.tmp 225), none⟩,
    ⟨some 28, Op.assign (Operand.tmp 226), none⟩])
  (.seq (.ops [⟨some 228, Op.move (Operand.tmp 1), none⟩,
    ⟨some 229, Op.fieldAddr 30 (Operand.tmp 5) 1, none⟩,
    ⟨some 230, Op.load 3 (Operand.tmp 229), none⟩,
    ⟨some 231, Op.call { callee := Callee.value (Operand.func 37), args := #[Operand.tmp 228, Operand.tmp 230], argTypes := #[24, 3] }, none⟩,
    ⟨some 227, Op.move (Operand.tmp 231), none⟩,
    ⟨some 232, Op.extract (Operand.tmp 227) 0, none⟩,
    ⟨some 233, Op.extract (Operand.tmp 227) 1, none⟩,
    ⟨some 29, Op.assign (Operand.tmp 232), none⟩,
    ⟨some 30, Op.assign (Operand.tmp 233), none⟩])
  (.seq (.ops [⟨some 234, Op.move (Operand.tmp 0), none⟩,
    ⟨some 235, Op.move (Operand.tmp 1), none⟩,
    ⟨some 236, Op.move (Operand.tmp 27), none⟩,
    ⟨some 237, Op.move (Operand.tmp 29), none⟩,
    ⟨some 238, Op.call { callee := Callee.value (Operand.func 38), args := #[Operand.tmp 236, Operand.tmp 237], argTypes := #[76, 76] }, none⟩,
    ⟨some 239, Op.move (Operand.tmp 238), none⟩,
    ⟨some 240, Op.move (Operand.tmp 28), some (239, true)⟩,
    ⟨some 241, Op.call { callee := Callee.value (Operand.func 18), args := #[Operand.tmp 240], argTypes := #[42] }, some (239, true)⟩,
    ⟨some 242, Op.move (Operand.tmp 30), some (239, true)⟩,
    ⟨some 243, Op.binOp BinOp.eql 3 (Operand.tmp 241) (Operand.tmp 242) 3, some (239, true)⟩,
    ⟨some 244, Op.pick (Operand.tmp 239) (Operand.tmp 243) (Operand.const (Value.bool false)), none⟩,
    ⟨some 6, Op.assign (Operand.tmp 234), none⟩,
    ⟨some 7, Op.assign (Operand.tmp 235), none⟩,
    ⟨some 8, Op.assign (Operand.tmp 244), none⟩])
  .ret)))
  (.seq (.ops [⟨some 246, Op.binOp BinOp.eql 3 (Operand.tmp 34) (Operand.const (Value.int IntKind.i64 8)) 3, none⟩,
    ⟨some 245, Op.assign (Operand.tmp 246), none⟩])
  (.cond (Operand.tmp 245)
  (.seq (.ops [⟨some 247, Op.move (Operand.tmp 0), none⟩,
    ⟨some 248, Op.call { callee := Callee.value (Operand.func 10), args := #[Operand.tmp 247], argTypes := #[23] }, none⟩,
    ⟨some 31, Op.assign (Operand.tmp 248), none⟩])
  (.seq (.ops [⟨some 249, Op.move (Operand.tmp 31), none⟩,
    ⟨some 250, Op.binOp BinOp.neq 23 (Operand.tmp 249) (Operand.const (Value.pointer none)) 23, none⟩,
    ⟨some 251, Op.move (Operand.tmp 250), none⟩,
    ⟨some 252, Op.move (Operand.tmp 31), some (251, true)⟩,
    ⟨some 253, Op.move (Operand.tmp 0), some (251, true)⟩,
    ⟨some 254, Op.call { callee := Callee.value (Operand.func 15), args := #[Operand.tmp 252, Operand.tmp 253], argTypes := #[23, 23] }, some (251, true)⟩,
    ⟨some 255, Op.pick (Operand.tmp 251) (Operand.tmp 254) (Operand.const (Value.bool false)), none⟩,
    ⟨some 32, Op.assign (Operand.tmp 255), none⟩])
  (.seq (.ops [⟨some 256, Op.move (Operand.tmp 0), none⟩,
    ⟨some 257, Op.call { callee := Callee.value (Operand.func 23), args := #[Operand.tmp 256, Operand.const (Value.int IntKind.i64 15), Operand.const (Value.int IntKind.i64 31), Operand.const (Value.int IntKind.i64 1), Operand.const (Value.int IntKind.i64 1)], argTypes := #[23, 3, 3, 3, 3] }, none⟩])
  (.seq (.ops [⟨some 258, Op.move (Operand.tmp 0), none⟩,
    ⟨some 259, Op.call { callee := Callee.value (Operand.func 36), args := #[Operand.tmp 258, Operand.const (Value.int IntKind.i64 0)], argTypes := #[23, 3] }, none⟩])
  (.seq (.ops [⟨some 260, Op.move (Operand.tmp 31), none⟩,
    ⟨some 261, Op.move (Operand.tmp 1), none⟩,
    ⟨some 262, Op.move (Operand.tmp 32), none⟩,
    ⟨some 6, Op.assign (Operand.tmp 260), none⟩,
    ⟨some 7, Op.assign (Operand.tmp 261), none⟩,
    ⟨some 8, Op.assign (Operand.tmp 262), none⟩])
  .ret)))))
  .skip))))))))))))))))))
  (.seq (.ops [⟨some 263, Op.move (Operand.tmp 0), none⟩,
    ⟨some 264, Op.move (Operand.tmp 1), none⟩,
    ⟨some 6, Op.assign (Operand.tmp 263), none⟩,
    ⟨some 7, Op.assign (Operand.tmp 264), none⟩,
    ⟨some 8, Op.assign (Operand.const (Value.bool true)), none⟩])
  .ret)))
theorem ir11_eq : (Try.f11.body.map low, Try.f11.ntmps, Try.f11.results.toList) = (some ir11, 265, [.tmp 6, .tmp 7, .tmp 8]) := by kernel_rfl
def ir12 : LC := (.seq (.ops [⟨some 0, Op.assign (Operand.const (Value.pointer none)), none⟩])
  (.seq (.ops [⟨some 1, Op.build 87 #[], none⟩,
    ⟨some 2, Op.box 87 (Operand.tmp 1), none⟩,
    ⟨some 0, Op.assign (Operand.tmp 2), none⟩])
  .ret))
theorem ir12_eq : (Try.f12.body.map low, Try.f12.ntmps, Try.f12.results.toList) = (some ir12, 3, [.tmp 0]) := by kernel_rfl
def ir13 : LC := (.seq (.ops [⟨some 6, Op.alloc 34, none⟩,
    ⟨some 7, Op.assign (Operand.const (Value.bool false)), none⟩])
  (.seq (.ops [⟨some 11, Op.move (Operand.tmp 0), none⟩,
    ⟨some 12, Op.move (Operand.tmp 1), none⟩,
    ⟨some 13, Op.move (Operand.tmp 2), none⟩,
    ⟨some 14, Op.call { callee := Callee.value (Operand.func 39), args := #[Operand.tmp 11, Operand.tmp 12, Operand.tmp 13, Operand.const (Value.int IntKind.i64 0)], argTypes := #[23, 3, 3, 3] }, none⟩,
    ⟨some 10, Op.move (Operand.tmp 14), none⟩,
    ⟨some 15, Op.extract (Operand.tmp 10) 0, none⟩,
    ⟨some 16, Op.extract (Operand.tmp 10) 1, none⟩,
    ⟨some 8, Op.assign (Operand.tmp 15), none⟩,
    ⟨some 9, Op.assign (Operand.tmp 16), none⟩])
  (.seq (.seq (.ops [⟨some 17, Op.move (Operand.tmp 9), none⟩,
    ⟨some 18, Op.binOp BinOp.neq 42 (Operand.tmp 17) (Operand.const (Value.int IntKind.i64 0)) 42, none⟩])
  (.cond (Operand.tmp 18)
  (.seq (.ops [⟨some 19, Op.build 34 #[], none⟩,
    ⟨none, Op.store 34 (Operand.tmp 6) (Operand.tmp 19), none⟩,
    ⟨some 7, Op.assign (Operand.const (Value.bool false)), none⟩])
  .ret)
  .skip))
  (.seq (.ops [⟨some 20, Op.move (Operand.tmp 8), none⟩,
    ⟨some 21, Op.nilCheck (Operand.tmp 20), none⟩,
    ⟨some 22, Op.fieldAddr 59 (Operand.tmp 21) 1, none⟩,
    ⟨some 23, Op.load 34 (Operand.tmp 22), none⟩,
    ⟨none, Op.store 34 (Operand.tmp 6) (Operand.tmp 23), none⟩,
    ⟨some 7, Op.assign (Operand.const (Value.bool true)), none⟩])
  .ret))))
theorem ir13_eq : (Try.f13.body.map low, Try.f13.ntmps, Try.f13.results.toList) = (some ir13, 24, [.cell 6 34, .tmp 7]) := by kernel_rfl
def ir15 : LC := (.seq (.ops [⟨some 4, Op.assign (Operand.const (Value.bool false)), none⟩])
  (.seq (.seq (.ops [⟨some 5, Op.move (Operand.tmp 0), none⟩,
    ⟨some 6, Op.call { callee := Callee.value (Operand.func 26), args := #[Operand.tmp 5], argTypes := #[23] }, none⟩,
    ⟨some 7, Op.unOp UnOp.not 4 (Operand.tmp 6), none⟩,
    ⟨some 8, Op.move (Operand.tmp 7), none⟩,
    ⟨some 9, Op.move (Operand.tmp 1), some (8, false)⟩,
    ⟨some 10, Op.call { callee := Callee.value (Operand.func 26), args := #[Operand.tmp 9], argTypes := #[23] }, some (8, false)⟩,
    ⟨some 11, Op.unOp UnOp.not 4 (Operand.tmp 10), some (8, false)⟩,
    ⟨some 12, Op.pick (Operand.tmp 8) (Operand.const (Value.bool true)) (Operand.tmp 11), none⟩])
  (.cond (Operand.tmp 12)
  (.seq (.ops [⟨some 13, Op.move (Operand.tmp 0), none⟩,
    ⟨some 14, Op.call { callee := Callee.value (Operand.func 26), args := #[Operand.tmp 13], argTypes := #[23] }, none⟩,
    ⟨some 15, Op.move (Operand.tmp 1), none⟩,
    ⟨some 16, Op.call { callee := Callee.value (Operand.func 26), args := #[Operand.tmp 15], argTypes := #[23] }, none⟩,
    ⟨some 17, Op.binOp BinOp.eql 4 (Operand.tmp 14) (Operand.tmp 16) 4, none⟩,
    ⟨some 4, Op.assign (Operand.tmp 17), none⟩])
  .ret)
  .skip))
  (.seq (.draw [⟨some 18, Op.move (Operand.tmp 0), none⟩,
    ⟨some 19, Op.nilCheck (Operand.tmp 18), none⟩,
    ⟨some 20, Op.fieldAddr 64 (Operand.tmp 19) 0, none⟩,
    ⟨some 21, Op.load 61 (Operand.tmp 20), none⟩,
    ⟨some 22, Op.move (Operand.tmp 1), none⟩,
    ⟨some 23, Op.nilCheck (Operand.tmp 22), none⟩,
    ⟨some 24, Op.fieldAddr 64 (Operand.tmp 23) 0, none⟩,
    ⟨some 25, Op.load 61 (Operand.tmp 24), none⟩,
    ⟨some 26, Op.binOp BinOp.eql 61 (Operand.tmp 21) (Operand.tmp 25) 61, none⟩,
    ⟨some 4, Op.assign (Operand.tmp 26), none⟩] [])
  .ret)))
theorem ir15_eq : (Try.f15.body.map low, Try.f15.ntmps, Try.f15.results.toList) = (some ir15, 27, [.tmp 4]) := by kernel_rfl
def ir16 : LC := (.seq (.ops [⟨some 4, Op.assign (Operand.const (Value.bool false)), none⟩])
  (.seq (.seq (.ops [⟨some 5, Op.move (Operand.tmp 0), none⟩,
    ⟨some 6, Op.binOp BinOp.eql 24 (Operand.tmp 5) (Operand.const (Value.pointer none)) 24, none⟩,
    ⟨some 7, Op.move (Operand.tmp 6), none⟩,
    ⟨some 8, Op.move (Operand.tmp 1), some (7, false)⟩,
    ⟨some 9, Op.binOp BinOp.eql 24 (Operand.tmp 8) (Operand.const (Value.pointer none)) 24, some (7, false)⟩,
    ⟨some 10, Op.pick (Operand.tmp 7) (Operand.const (Value.bool true)) (Operand.tmp 9), none⟩])
  (.cond (Operand.tmp 10)
  (.seq (.ops [⟨some 11, Op.move (Operand.tmp 0), none⟩,
    ⟨some 12, Op.binOp BinOp.eql 24 (Operand.tmp 11) (Operand.const (Value.pointer none)) 24, none⟩,
    ⟨some 13, Op.move (Operand.tmp 12), none⟩,
    ⟨some 14, Op.move (Operand.tmp 1), some (13, true)⟩,
    ⟨some 15, Op.binOp BinOp.eql 24 (Operand.tmp 14) (Operand.const (Value.pointer none)) 24, some (13, true)⟩,
    ⟨some 16, Op.pick (Operand.tmp 13) (Operand.tmp 15) (Operand.const (Value.bool false)), none⟩,
    ⟨some 4, Op.assign (Operand.tmp 16), none⟩])
  .ret)
  .skip))
  (.seq (.draw [⟨some 17, Op.move (Operand.tmp 0), none⟩,
    ⟨some 18, Op.nilCheck (Operand.tmp 17), none⟩,
    ⟨some 19, Op.load 87 (Operand.tmp 18), none⟩,
    ⟨some 20, Op.move (Operand.tmp 1), none⟩,
    ⟨some 21, Op.nilCheck (Operand.tmp 20), none⟩,
    ⟨some 22, Op.load 87 (Operand.tmp 21), none⟩,
    ⟨some 23, Op.binOp BinOp.eql 87 (Operand.tmp 19) (Operand.tmp 22) 87, none⟩,
    ⟨some 4, Op.assign (Operand.tmp 23), none⟩] [])
  .ret)))
theorem ir16_eq : (Try.f16.body.map low, Try.f16.ntmps, Try.f16.results.toList) = (some ir16, 24, [.tmp 4]) := by kernel_rfl
def ir17 : LC := (.seq (.ops [⟨some 8, Op.assign (Operand.const (Value.int IntKind.i64 0)), none⟩,
    ⟨some 9, Op.assign (Operand.const (Value.int IntKind.i64 0)), none⟩,
    ⟨some 10, Op.assign (Operand.const (Value.int IntKind.i64 0)), none⟩])
  (.seq (.block 0 (.seq (.ops [⟨some 13, Op.move (Operand.tmp 0), none⟩,
    ⟨some 14, Op.call { callee := Callee.value (Operand.func 26), args := #[Operand.tmp 13], argTypes := #[23] }, none⟩,
    ⟨some 15, Op.unOp UnOp.not 4 (Operand.tmp 14), none⟩,
    ⟨some 12, Op.assign (Operand.tmp 15), none⟩])
  (.cond (Operand.tmp 12)
  (.seq (.ops [⟨some 8, Op.assign (Operand.const (Value.int IntKind.i64 0)), none⟩,
    ⟨some 9, Op.assign (Operand.const (Value.int IntKind.i64 0)), none⟩,
    ⟨some 10, Op.assign (Operand.const (Value.int IntKind.i64 1)), none⟩])
  .ret)
  (.seq (.ops [⟨some 17, Op.move (Operand.tmp 1), none⟩,
    ⟨some 18, Op.buildSlice 76 1 #[(0, Operand.tmp 17)], none⟩,
    ⟨some 19, Op.call { callee := Callee.value (Operand.func 40), args := #[Operand.tmp 18], argTypes := #[76] }, none⟩,
    ⟨some 20, Op.unOp UnOp.not 4 (Operand.tmp 19), none⟩,
    ⟨some 21, Op.move (Operand.tmp 20), none⟩,
    ⟨some 22, Op.move (Operand.tmp 3), some (21, false)⟩,
    ⟨some 23, Op.binOp BinOp.neq 3 (Operand.tmp 22) (Operand.const (Value.int IntKind.i64 1)) 3, some (21, false)⟩,
    ⟨some 24, Op.move (Operand.tmp 23), some (21, false)⟩,
    ⟨some 25, Op.move (Operand.tmp 3), some (24, true)⟩,
    ⟨some 26, Op.binOp BinOp.neq 3 (Operand.tmp 25) (Operand.const (Value.int IntKind.i64 2)) 3, some (24, true)⟩,
    ⟨some 27, Op.pick (Operand.tmp 24) (Operand.tmp 26) (Operand.const (Value.bool false)), some (21, false)⟩,
    ⟨some 28, Op.move (Operand.tmp 27), some (21, false)⟩,
    ⟨some 29, Op.move (Operand.tmp 3), some (28, true)⟩,
    ⟨some 30, Op.binOp BinOp.neq 3 (Operand.tmp 29) (Operand.const (Value.int IntKind.i64 4)) 3, some (28, true)⟩,
    ⟨some 31, Op.pick (Operand.tmp 28) (Operand.tmp 30) (Operand.const (Value.bool false)), some (21, false)⟩,
    ⟨some 32, Op.pick (Operand.tmp 21) (Operand.const (Value.bool true)) (Operand.tmp 31), none⟩,
    ⟨some 16, Op.assign (Operand.tmp 32), none⟩])
  (.cond (Operand.tmp 16)
  (.seq (.ops [⟨some 8, Op.assign (Operand.const (Value.int IntKind.i64 0)), none⟩,
    ⟨some 9, Op.assign (Operand.const (Value.int IntKind.i64 0)), none⟩,
    ⟨some 10, Op.assign (Operand.const (Value.int IntKind.i64 2)), none⟩])
  .ret)
  .skip)))))
  (.seq (.ops [⟨some 34, Op.move (Operand.tmp 0), none⟩,
    ⟨some 35, Op.move (Operand.tmp 1), none⟩,
    ⟨some 36, Op.move (Operand.tmp 2), none⟩,
    ⟨some 37, Op.binOp BinOp.shr 28 (Operand.tmp 36) (Operand.const (Value.int IntKind.u64 8)) 92, none⟩,
    ⟨some 38, Op.convert 28 3 (Operand.tmp 37), none⟩,
    ⟨some 39, Op.call { callee := Callee.value (Operand.func 39), args := #[Operand.tmp 34, Operand.tmp 35, Operand.tmp 38, Operand.const (Value.int IntKind.i64 0)], argTypes := #[23, 3, 3, 3] }, none⟩,
    ⟨some 33, Op.move (Operand.tmp 39), none⟩,
    ⟨some 40, Op.extract (Operand.tmp 33) 0, none⟩,
    ⟨some 41, Op.extract (Operand.tmp 33) 1, none⟩,
    ⟨some 11, Op.assign (Operand.tmp 40), none⟩,
    ⟨some 10, Op.assign (Operand.tmp 41), none⟩])
  (.seq (.block 1 (.seq (.ops [⟨some 43, Op.move (Operand.tmp 10), none⟩,
    ⟨some 44, Op.binOp BinOp.neq 42 (Operand.tmp 43) (Operand.const (Value.int IntKind.i64 0)) 42, none⟩,
    ⟨some 42, Op.assign (Operand.tmp 44), none⟩])
  (.cond (Operand.tmp 42)
  (.seq (.ops [⟨some 8, Op.assign (Operand.const (Value.int IntKind.i64 0)), none⟩,
    ⟨some 9, Op.assign (Operand.const (Value.int IntKind.i64 0)), none⟩,
    ⟨some 10, Op.assign (Operand.const (Value.int IntKind.i64 10)), none⟩])
  .ret)
  (.seq (.ops [⟨some 46, Op.move (Operand.tmp 11), none⟩,
    ⟨some 47, Op.nilCheck (Operand.tmp 46), none⟩,
    ⟨some 48, Op.fieldAddr 59 (Operand.tmp 47) 1, none⟩,
    ⟨some 49, Op.fieldAddr 34 (Operand.tmp 48) 1, none⟩,
    ⟨some 50, Op.load 3 (Operand.tmp 49), none⟩,
    ⟨some 51, Op.move (Operand.tmp 3), none⟩,
    ⟨some 52, Op.binOp BinOp.and 3 (Operand.tmp 50) (Operand.tmp 51) 3, none⟩,
    ⟨some 53, Op.binOp BinOp.eql 3 (Operand.tmp 52) (Operand.const (Value.int IntKind.i64 0)) 3, none⟩,
    ⟨some 45, Op.assign (Operand.tmp 53), none⟩])
  (.cond (Operand.tmp 45)
  (.seq (.ops [⟨some 8, Op.assign (Operand.const (Value.int IntKind.i64 0)), none⟩,
    ⟨some 9, Op.assign (Operand.const (Value.int IntKind.i64 0)), none⟩,
    ⟨some 10, Op.assign (Operand.const (Value.int IntKind.i64 8)), none⟩])
  .ret)
  .skip)))))
  (.seq (.ops [⟨some 54, Op.move (Operand.tmp 11), none⟩,
    ⟨some 55, Op.nilCheck (Operand.tmp 54), none⟩,
    ⟨some 56, Op.fieldAddr 59 (Operand.tmp 55) 1, none⟩,
    ⟨some 57, Op.fieldAddr 34 (Operand.tmp 56) 2, none⟩,
    ⟨none, Op.store 4 (Operand.tmp 57) (Operand.const (Value.bool true)), none⟩])
  (.seq (.ops [⟨some 58, Op.move (Operand.tmp 11), none⟩,
    ⟨some 59, Op.move (Operand.tmp 11), none⟩,
    ⟨some 60, Op.nilCheck (Operand.tmp 59), none⟩,
    ⟨some 61, Op.fieldAddr 59 (Operand.tmp 60) 1, none⟩,
    ⟨some 62, Op.fieldAddr 34 (Operand.tmp 61) 3, none⟩,
    ⟨some 63, Op.load 4 (Operand.tmp 62), none⟩,
    ⟨some 64, Op.move (Operand.tmp 63), none⟩,
    ⟨some 65, Op.move (Operand.tmp 3), some (64, false)⟩,
    ⟨some 66, Op.binOp BinOp.eql 3 (Operand.tmp 65) (Operand.const (Value.int IntKind.i64 2)) 3, some (64, false)⟩,
    ⟨some 67, Op.pick (Operand.tmp 64) (Operand.const (Value.bool true)) (Operand.tmp 66), none⟩,
    ⟨some 68, Op.nilCheck (Operand.tmp 58), none⟩,
    ⟨some 69, Op.fieldAddr 59 (Operand.tmp 68) 1, none⟩,
    ⟨some 70, Op.fieldAddr 34 (Operand.tmp 69) 3, none⟩,
    ⟨none, Op.store 4 (Operand.tmp 70) (Operand.tmp 67), none⟩])
  (.seq (.ops [⟨some 71, Op.move (Operand.tmp 11), none⟩,
    ⟨some 72, Op.nilCheck (Operand.tmp 71), none⟩,
    ⟨some 73, Op.fieldAddr 59 (Operand.tmp 72) 1, none⟩,
    ⟨some 74, Op.fieldAddr 34 (Operand.tmp 73) 0, none⟩,
    ⟨some 75, Op.load 3 (Operand.tmp 74), none⟩,
    ⟨some 76, Op.move (Operand.tmp 2), none⟩,
    ⟨some 77, Op.binOp BinOp.and 28 (Operand.tmp 76) (Operand.const (Value.int IntKind.u32 255)) 28, none⟩,
    ⟨some 78, Op.convert 28 3 (Operand.tmp 77), none⟩,
    ⟨some 8, Op.assign (Operand.tmp 75), none⟩,
    ⟨some 9, Op.assign (Operand.tmp 78), none⟩,
    ⟨some 10, Op.assign (Operand.const (Value.int IntKind.i64 0)), none⟩])
  .ret)))))))
theorem ir17_eq : (Try.f17.body.map low, Try.f17.ntmps, Try.f17.results.toList) = (some ir17, 79, [.tmp 8, .tmp 9, .tmp 10]) := by kernel_rfl
def ir18 : LC := (.seq (.ops [⟨some 2, Op.assign (Operand.const (Value.int IntKind.i64 0)), none⟩])
  (.seq (.ops [⟨some 3, Op.move (Operand.tmp 0), none⟩,
    ⟨some 2, Op.assign (Operand.tmp 3), none⟩])
  .ret))
theorem ir18_eq : (Try.f18.body.map low, Try.f18.ntmps, Try.f18.results.toList) = (some ir18, 4, [.tmp 2]) := by kernel_rfl
def ir19_l0 : LC := (.seq (.ops [⟨some 16, Op.next (Operand.tmp 15) false, none⟩,
    ⟨some 17, Op.extract (Operand.tmp 16) 0, none⟩])
  (.seq (.cond (Operand.tmp 17)
  .skip
  (.exit 0))
  (.block 1 (.seq (.ops [⟨some 18, Op.entry (Operand.tmp 15), none⟩,
    ⟨some 19, Op.extract (Operand.tmp 18) 0, none⟩,
    ⟨some 20, Op.extract (Operand.tmp 18) 1, none⟩,
    ⟨some 6, Op.alloc 50, none⟩,
    ⟨none, Op.store 50 (Operand.tmp 6) (Operand.tmp 19), none⟩,
    ⟨some 7, Op.assign (Operand.tmp 20), none⟩])
  (.seq (.ops [⟨some 21, Op.move (Operand.tmp 7), none⟩,
    ⟨some 22, Op.move (Operand.tmp 1), none⟩,
    ⟨some 23, Op.binOp BinOp.eql 3 (Operand.tmp 21) (Operand.tmp 22) 3, none⟩])
  (.cond (Operand.tmp 23)
  (.ops [⟨some 24, Op.move (Operand.tmp 5), none⟩,
    ⟨some 25, Op.load 50 (Operand.tmp 6), none⟩,
    ⟨some 26, Op.buildSlice 46 1 #[(0, Operand.tmp 25)], none⟩,
    ⟨some 27, Op.call { callee := Callee.builtin Builtin.append, args := #[Operand.tmp 24, Operand.tmp 26], argTypes := #[46, 46] }, none⟩,
    ⟨some 5, Op.assign (Operand.tmp 27), none⟩])
  .skip))))))
def ir19 : LC := (.seq (.ops [⟨some 4, Op.assign (Operand.const (Value.slice none 0 0)), none⟩])
  (.seq (.ops [⟨some 5, Op.assign (Operand.const (Value.slice none 0 0)), none⟩])
  (.seq (.seq (.ops [⟨some 8, Op.move (Operand.tmp 0), none⟩,
    ⟨some 9, Op.call { callee := Callee.value (Operand.func 26), args := #[Operand.tmp 8], argTypes := #[23] }, none⟩,
    ⟨some 10, Op.unOp UnOp.not 4 (Operand.tmp 9), none⟩])
  (.cond (Operand.tmp 10)
  (.seq (.ops [⟨some 4, Op.assign (Operand.const (Value.slice none 0 0)), none⟩])
  .ret)
  .skip))
  (.seq (.seq (.ops [⟨some 11, Op.move (Operand.tmp 0), none⟩,
    ⟨some 12, Op.nilCheck (Operand.tmp 11), none⟩,
    ⟨some 13, Op.fieldAddr 64 (Operand.tmp 12) 1, none⟩,
    ⟨some 14, Op.load 62 (Operand.tmp 13), none⟩,
    ⟨some 15, Op.range 62 (Operand.tmp 14), none⟩])
  (.block 0 (.loop ir19_l0)))
  (.seq (.ops [⟨some 28, Op.move (Operand.tmp 5), none⟩,
    ⟨some 29, Op.call { callee := Callee.value (Operand.func 41), args := #[Operand.tmp 28, Operand.func 42], argTypes := #[46, 94] }, none⟩])
  (.seq (.ops [⟨some 30, Op.move (Operand.tmp 5), none⟩,
    ⟨some 4, Op.assign (Operand.tmp 30), none⟩])
  .ret))))))
theorem ir19_eq : (Try.f19.body.map low, Try.f19.ntmps, Try.f19.results.toList) = (some ir19, 31, [.tmp 4]) := by kernel_rfl
def ir20 : LC := (.seq (.ops [⟨some 4, Op.assign (Operand.const (Value.int IntKind.i64 0)), none⟩])
  (.seq (.ops [⟨some 5, Op.move (Operand.tmp 0), none⟩,
    ⟨some 6, Op.move (Operand.tmp 1), none⟩,
    ⟨some 7, Op.call { callee := Callee.value (Operand.func 19), args := #[Operand.tmp 5, Operand.tmp 6], argTypes := #[23, 3] }, none⟩,
    ⟨some 8, Op.call { callee := Callee.builtin Builtin.len, args := #[Operand.tmp 7], argTypes := #[46] }, none⟩,
    ⟨some 4, Op.assign (Operand.tmp 8), none⟩])
  .ret))
theorem ir20_eq : (Try.f20.body.map low, Try.f20.ntmps, Try.f20.results.toList) = (some ir20, 9, [.tmp 4]) := by kernel_rfl
def ir21 : LC := (.seq (.ops [⟨some 0, Op.assign (Operand.const (Value.pointer none)), none⟩])
  (.seq (.ops [⟨some 1, Op.makeMap 62 none, none⟩,
    ⟨some 2, Op.build 64 #[(1, Operand.tmp 1)], none⟩,
    ⟨some 3, Op.box 64 (Operand.tmp 2), none⟩,
    ⟨some 0, Op.assign (Operand.tmp 3), none⟩])
  .ret))
theorem ir21_eq : (Try.f21.body.map low, Try.f21.ntmps, Try.f21.results.toList) = (some ir21, 4, [.tmp 0]) := by kernel_rfl
def ir22_l0 : LC := (.seq (.seq (.ops [⟨some 21, Op.move (Operand.tmp 8), none⟩,
    ⟨some 22, Op.binOp BinOp.leq 3 (Operand.tmp 21) (Operand.const (Value.int IntKind.i64 32)) 3, none⟩])
  (.cond (Operand.tmp 22)
  .skip
  (.exit 2)))
  (.seq (.block 3 (.seq (.ops [⟨some 26, Op.move (Operand.tmp 0), none⟩,
    ⟨some 27, Op.move (Operand.tmp 7), none⟩,
    ⟨some 28, Op.move (Operand.tmp 8), none⟩,
    ⟨some 29, Op.call { callee := Callee.value (Operand.func 13), args := #[Operand.tmp 26, Operand.tmp 27, Operand.tmp 28], argTypes := #[23, 3, 3] }, none⟩,
    ⟨some 25, Op.move (Operand.tmp 29), none⟩,
    ⟨some 30, Op.extract (Operand.tmp 25) 0, none⟩,
    ⟨some 31, Op.extract (Operand.tmp 25) 1, none⟩,
    ⟨some 9, Op.alloc 34, none⟩,
    ⟨none, Op.store 34 (Operand.tmp 9) (Operand.tmp 30), none⟩,
    ⟨some 10, Op.assign (Operand.tmp 31), none⟩])
  (.seq (.ops [⟨some 33, Op.move (Operand.tmp 1), none⟩,
    ⟨some 34, Op.move (Operand.tmp 7), none⟩,
    ⟨some 35, Op.move (Operand.tmp 8), none⟩,
    ⟨some 36, Op.call { callee := Callee.value (Operand.func 43), args := #[Operand.tmp 33, Operand.tmp 34, Operand.tmp 35], argTypes := #[24, 3, 3] }, none⟩,
    ⟨some 32, Op.move (Operand.tmp 36), none⟩,
    ⟨some 37, Op.extract (Operand.tmp 32) 0, none⟩,
    ⟨some 38, Op.extract (Operand.tmp 32) 1, none⟩,
    ⟨some 11, Op.alloc 34, none⟩,
    ⟨none, Op.store 34 (Operand.tmp 11) (Operand.tmp 37), none⟩,
    ⟨some 12, Op.assign (Operand.tmp 38), none⟩])
  (.seq (.ops [⟨some 39, Op.load 34 (Operand.tmp 9), none⟩,
    ⟨some 40, Op.load 34 (Operand.tmp 11), none⟩,
    ⟨some 41, Op.binOp BinOp.neq 34 (Operand.tmp 39) (Operand.tmp 40) 34, none⟩,
    ⟨some 42, Op.move (Operand.tmp 41), none⟩,
    ⟨some 43, Op.move (Operand.tmp 10), some (42, false)⟩,
    ⟨some 44, Op.move (Operand.tmp 12), some (42, false)⟩,
    ⟨some 45, Op.binOp BinOp.neq 4 (Operand.tmp 43) (Operand.tmp 44) 4, some (42, false)⟩,
    ⟨some 46, Op.pick (Operand.tmp 42) (Operand.const (Value.bool true)) (Operand.tmp 45), none⟩])
  (.cond (Operand.tmp 46)
  (.seq (.ops [⟨some 6, Op.assign (Operand.const (Value.bool false)), none⟩])
  .ret)
  .skip)))))
  (.ops [⟨some 23, Op.move (Operand.tmp 8), none⟩,
    ⟨some 24, Op.binOp BinOp.add 3 (Operand.tmp 23) (Operand.const (Value.int IntKind.i64 1)) 3, none⟩,
    ⟨some 8, Op.assign (Operand.tmp 24), none⟩])))
def ir22_l1 : LC := (.seq (.seq (.ops [⟨some 17, Op.move (Operand.tmp 7), none⟩,
    ⟨some 18, Op.binOp BinOp.leq 3 (Operand.tmp 17) (Operand.const (Value.int IntKind.i64 16)) 3, none⟩])
  (.cond (Operand.tmp 18)
  .skip
  (.exit 0)))
  (.seq (.block 1 (.seq (.seq (.ops [⟨some 8, Op.assign (Operand.const (Value.int IntKind.i64 (-1))), none⟩])
  (.block 2 (.loop ir22_l0)))
  (.seq (.ops [⟨some 47, Op.move (Operand.tmp 0), none⟩,
    ⟨some 48, Op.move (Operand.tmp 1), none⟩,
    ⟨some 49, Op.move (Operand.tmp 7), none⟩,
    ⟨some 50, Op.move (Operand.tmp 2), none⟩,
    ⟨some 51, Op.call { callee := Callee.value (Operand.func 44), args := #[Operand.tmp 47, Operand.tmp 48, Operand.tmp 49, Operand.tmp 50], argTypes := #[23, 24, 3, 3] }, none⟩,
    ⟨some 52, Op.unOp UnOp.not 4 (Operand.tmp 51), none⟩])
  (.cond (Operand.tmp 52)
  (.seq (.ops [⟨some 6, Op.assign (Operand.const (Value.bool false)), none⟩])
  .ret)
  .skip))))
  (.ops [⟨some 19, Op.move (Operand.tmp 7), none⟩,
    ⟨some 20, Op.binOp BinOp.add 3 (Operand.tmp 19) (Operand.const (Value.int IntKind.i64 1)) 3, none⟩,
    ⟨some 7, Op.assign (Operand.tmp 20), none⟩])))
def ir22_l2 : LC := (.seq (.seq (.ops [⟨some 76, Op.move (Operand.tmp 16), none⟩,
    ⟨some 77, Op.move (Operand.tmp 14), none⟩,
    ⟨some 78, Op.call { callee := Callee.builtin Builtin.len, args := #[Operand.tmp 77], argTypes := #[46] }, none⟩,
    ⟨some 79, Op.binOp BinOp.lss 3 (Operand.tmp 76) (Operand.tmp 78) 3, none⟩])
  (.cond (Operand.tmp 79)
  .skip
  (.exit 6)))
  (.seq (.block 7 (.seq (.draw [⟨some 82, Op.move (Operand.tmp 14), none⟩,
    ⟨some 83, Op.move (Operand.tmp 16), none⟩,
    ⟨some 84, Op.indexAddr 46 (Operand.tmp 82) (Operand.tmp 83), none⟩,
    ⟨some 85, Op.load 50 (Operand.tmp 84), none⟩,
    ⟨some 86, Op.move (Operand.tmp 15), none⟩,
    ⟨some 87, Op.move (Operand.tmp 16), none⟩,
    ⟨some 88, Op.indexAddr 46 (Operand.tmp 86) (Operand.tmp 87), none⟩,
    ⟨some 89, Op.load 50 (Operand.tmp 88), none⟩,
    ⟨some 90, Op.binOp BinOp.neq 50 (Operand.tmp 85) (Operand.tmp 89) 50, none⟩] [])
  (.cond (Operand.tmp 90)
  (.seq (.ops [⟨some 6, Op.assign (Operand.const (Value.bool false)), none⟩])
  .ret)
  .skip)))
  (.ops [⟨some 80, Op.move (Operand.tmp 16), none⟩,
    ⟨some 81, Op.binOp BinOp.add 3 (Operand.tmp 80) (Operand.const (Value.int IntKind.i64 1)) 3, none⟩,
    ⟨some 16, Op.assign (Operand.tmp 81), none⟩])))
def ir22_l3 : LC := (.seq (.seq (.ops [⟨some 53, Op.move (Operand.tmp 13), none⟩,
    ⟨some 54, Op.binOp BinOp.leq 3 (Operand.tmp 53) (Operand.const (Value.int IntKind.i64 256)) 3, none⟩])
  (.cond (Operand.tmp 54)
  .skip
  (.exit 4)))
  (.seq (.block 5 (.seq (.ops [⟨some 57, Op.move (Operand.tmp 0), none⟩,
    ⟨some 58, Op.move (Operand.tmp 13), none⟩,
    ⟨some 59, Op.call { callee := Callee.value (Operand.func 19), args := #[Operand.tmp 57, Operand.tmp 58], argTypes := #[23, 3] }, none⟩,
    ⟨some 60, Op.move (Operand.tmp 1), none⟩,
    ⟨some 61, Op.move (Operand.tmp 13), none⟩,
    ⟨some 62, Op.call { callee := Callee.value (Operand.func 45), args := #[Operand.tmp 60, Operand.tmp 61], argTypes := #[24, 3] }, none⟩,
    ⟨some 14, Op.assign (Operand.tmp 59), none⟩,
    ⟨some 15, Op.assign (Operand.tmp 62), none⟩])
  (.seq (.seq (.ops [⟨some 63, Op.move (Operand.tmp 0), none⟩,
    ⟨some 64, Op.move (Operand.tmp 13), none⟩,
    ⟨some 65, Op.call { callee := Callee.value (Operand.func 20), args := #[Operand.tmp 63, Operand.tmp 64], argTypes := #[23, 3] }, none⟩,
    ⟨some 66, Op.move (Operand.tmp 15), none⟩,
    ⟨some 67, Op.call { callee := Callee.builtin Builtin.len, args := #[Operand.tmp 66], argTypes := #[46] }, none⟩,
    ⟨some 68, Op.binOp BinOp.neq 3 (Operand.tmp 65) (Operand.tmp 67) 3, none⟩,
    ⟨some 69, Op.move (Operand.tmp 68), none⟩,
    ⟨some 70, Op.move (Operand.tmp 14), some (69, false)⟩,
    ⟨some 71, Op.call { callee := Callee.builtin Builtin.len, args := #[Operand.tmp 70], argTypes := #[46] }, some (69, false)⟩,
    ⟨some 72, Op.move (Operand.tmp 15), some (69, false)⟩,
    ⟨some 73, Op.call { callee := Callee.builtin Builtin.len, args := #[Operand.tmp 72], argTypes := #[46] }, some (69, false)⟩,
    ⟨some 74, Op.binOp BinOp.neq 3 (Operand.tmp 71) (Operand.tmp 73) 3, some (69, false)⟩,
    ⟨some 75, Op.pick (Operand.tmp 69) (Operand.const (Value.bool true)) (Operand.tmp 74), none⟩])
  (.cond (Operand.tmp 75)
  (.seq (.ops [⟨some 6, Op.assign (Operand.const (Value.bool false)), none⟩])
  .ret)
  .skip))
  (.seq (.ops [⟨some 16, Op.assign (Operand.const (Value.int IntKind.i64 0)), none⟩])
  (.block 6 (.loop ir22_l2))))))
  (.ops [⟨some 55, Op.move (Operand.tmp 13), none⟩,
    ⟨some 56, Op.binOp BinOp.add 3 (Operand.tmp 55) (Operand.const (Value.int IntKind.i64 1)) 3, none⟩,
    ⟨some 13, Op.assign (Operand.tmp 56), none⟩])))
def ir22 : LC := (.seq (.ops [⟨some 6, Op.assign (Operand.const (Value.bool false)), none⟩])
  (.seq (.seq (.ops [⟨some 7, Op.assign (Operand.const (Value.int IntKind.i64 (-1))), none⟩])
  (.block 0 (.loop ir22_l1)))
  (.seq (.seq (.ops [⟨some 13, Op.assign (Operand.const (Value.int IntKind.i64 (-1))), none⟩])
  (.block 4 (.loop ir22_l3)))
  (.seq (.ops [⟨some 91, Op.move (Operand.tmp 0), none⟩,
    ⟨some 92, Op.call { callee := Callee.value (Operand.func 46), args := #[Operand.tmp 91], argTypes := #[23] }, none⟩,
    ⟨some 93, Op.move (Operand.tmp 1), none⟩,
    ⟨some 94, Op.call { callee := Callee.value (Operand.func 47), args := #[Operand.tmp 93], argTypes := #[24] }, none⟩,
    ⟨some 95, Op.call { callee := Callee.value (Operand.func 38), args := #[Operand.tmp 92, Operand.tmp 94], argTypes := #[76, 76] }, none⟩,
    ⟨some 6, Op.assign (Operand.tmp 95), none⟩])
  .ret))))
theorem ir22_eq : (Try.f22.body.map low, Try.f22.ntmps, Try.f22.results.toList) = (some ir22, 96, [.tmp 6]) := by kernel_rfl
def ir23 : LC := (.seq (.ops [⟨some 10, Op.assign (Operand.const (Value.int IntKind.i64 0)), none⟩])
  (.seq (.ops [⟨some 14, Op.move (Operand.tmp 0), none⟩,
    ⟨some 15, Op.move (Operand.tmp 1), none⟩,
    ⟨some 16, Op.move (Operand.tmp 2), none⟩,
    ⟨some 17, Op.move (Operand.tmp 4), none⟩,
    ⟨some 18, Op.call { callee := Callee.value (Operand.func 48), args := #[Operand.tmp 14, Operand.tmp 15, Operand.tmp 16, Operand.tmp 17], argTypes := #[23, 3, 3, 3] }, none⟩,
    ⟨some 13, Op.move (Operand.tmp 18), none⟩,
    ⟨some 19, Op.extract (Operand.tmp 13) 0, none⟩,
    ⟨some 20, Op.extract (Operand.tmp 13) 1, none⟩,
    ⟨some 11, Op.assign (Operand.tmp 19), none⟩,
    ⟨some 12, Op.assign (Operand.tmp 20), none⟩])
  (.seq (.block 0 (.seq (.ops [⟨some 22, Op.move (Operand.tmp 12), none⟩,
    ⟨some 23, Op.binOp BinOp.neq 42 (Operand.tmp 22) (Operand.const (Value.int IntKind.i64 0)) 42, none⟩,
    ⟨some 21, Op.assign (Operand.tmp 23), none⟩])
  (.cond (Operand.tmp 21)
  (.seq (.ops [⟨some 24, Op.move (Operand.tmp 12), none⟩,
    ⟨some 10, Op.assign (Operand.tmp 24), none⟩])
  .ret)
  (.seq (.ops [⟨some 26, Op.move (Operand.tmp 3), none⟩,
    ⟨some 27, Op.binOp BinOp.lss 3 (Operand.tmp 26) (Operand.const (Value.int IntKind.i64 0)) 3, none⟩,
    ⟨some 28, Op.move (Operand.tmp 27), none⟩,
    ⟨some 29, Op.move (Operand.tmp 3), some (28, false)⟩,
    ⟨some 30, Op.binOp BinOp.geq 3 (Operand.tmp 29) (Operand.const (Value.int IntKind.i64 256)) 3, some (28, false)⟩,
    ⟨some 31, Op.pick (Operand.tmp 28) (Operand.const (Value.bool true)) (Operand.tmp 30), none⟩,
    ⟨some 25, Op.assign (Operand.tmp 31), none⟩])
  (.cond (Operand.tmp 25)
  (.seq (.ops [⟨some 10, Op.assign (Operand.const (Value.int IntKind.i64 2)), none⟩])
  .ret)
  (.seq (.ops [⟨some 33, Op.move (Operand.tmp 11), none⟩,
    ⟨some 34, Op.nilCheck (Operand.tmp 33), none⟩,
    ⟨some 35, Op.fieldAddr 59 (Operand.tmp 34) 0, none⟩,
    ⟨some 36, Op.load 4 (Operand.tmp 35), none⟩,
    ⟨some 32, Op.assign (Operand.tmp 36), none⟩])
  (.cond (Operand.tmp 32)
  (.seq (.ops [⟨some 10, Op.assign (Operand.const (Value.int IntKind.i64 7)), none⟩])
  .ret)
  .skip)))))))
  (.seq (.ops [⟨some 37, Op.move (Operand.tmp 11), none⟩,
    ⟨some 38, Op.move (Operand.tmp 3), none⟩,
    ⟨some 39, Op.move (Operand.tmp 4), none⟩,
    ⟨some 40, Op.build 34 #[(0, Operand.tmp 38), (1, Operand.tmp 39)], none⟩,
    ⟨some 41, Op.build 59 #[(0, Operand.const (Value.bool true)), (1, Operand.tmp 40)], none⟩,
    ⟨some 42, Op.nilCheck (Operand.tmp 37), none⟩,
    ⟨none, Op.store 59 (Operand.tmp 42) (Operand.tmp 41), none⟩])
  (.seq (.ops [⟨some 43, Op.move (Operand.tmp 0), none⟩,
    ⟨some 44, Op.nilCheck (Operand.tmp 43), none⟩,
    ⟨some 45, Op.fieldAddr 64 (Operand.tmp 44) 1, none⟩,
    ⟨some 46, Op.load 62 (Operand.tmp 45), none⟩,
    ⟨some 47, Op.move (Operand.tmp 1), none⟩,
    ⟨some 48, Op.move (Operand.tmp 2), none⟩,
    ⟨some 49, Op.build 50 #[(0, Operand.tmp 47), (1, Operand.tmp 48)], none⟩,
    ⟨some 50, Op.move (Operand.tmp 3), none⟩,
    ⟨none, Op.mapUpdate 62 (Operand.tmp 46) (Operand.tmp 49) (Operand.tmp 50), none⟩])
  (.seq (.ops [⟨some 10, Op.assign (Operand.const (Value.int IntKind.i64 0)), none⟩])
  .ret))))))
theorem ir23_eq : (Try.f23.body.map low, Try.f23.ntmps, Try.f23.results.toList) = (some ir23, 51, [.tmp 10]) := by kernel_rfl
noncomputable def rc24 (i : Nat) : Code × Code := (((Try.f24.body.map rangesOf).getD [])[i]?).getD (.skip, .skip)
noncomputable def ir24_a0 : LC := .skip
noncomputable def ir24_b0 : LC := (.block 2 (.seq (.ops [⟨none, Op.store 3 (Operand.tmp 6) (Operand.const (Value.int IntKind.i64 0)), none⟩,
    ⟨none, Op.store 42 (Operand.tmp 7) (Operand.const (Value.int IntKind.i64 7)), none⟩])
  .ret))
theorem ir24_a0_eq : low (rc24 0).1 = ir24_a0 := by kernel_rfl
theorem ir24_b0_eq : low (rc24 0).2 = ir24_b0 := by kernel_rfl
noncomputable def ir24_a1 : LC := (.seq (.ops [⟨some 9, Op.assign (Operand.tmp 34), none⟩])
  (.ops [⟨some 10, Op.alloc 34, none⟩,
    ⟨none, Op.store 34 (Operand.tmp 10) (Operand.tmp 35), none⟩]))
noncomputable def ir24_b1 : LC := (.block 4 (.seq (.ops [⟨some 36, Op.load 23 (Operand.tmp 3), none⟩,
    ⟨some 37, Op.load 3 (Operand.tmp 5), none⟩,
    ⟨some 38, Op.move (Operand.tmp 9), none⟩,
    ⟨some 39, Op.fieldAddr 34 (Operand.tmp 10) 0, none⟩,
    ⟨some 40, Op.load 3 (Operand.tmp 39), none⟩,
    ⟨some 41, Op.fieldAddr 34 (Operand.tmp 10) 1, none⟩,
    ⟨some 42, Op.load 3 (Operand.tmp 41), none⟩,
    ⟨some 43, Op.call { callee := Callee.value (Operand.func 23), args := #[Operand.tmp 36, Operand.tmp 37, Operand.tmp 38, Operand.tmp 40, Operand.tmp 42], argTypes := #[23, 3, 3, 3, 3] }, none⟩])
  (.ops [⟨some 44, Op.load 3 (Operand.tmp 8), none⟩,
    ⟨some 45, Op.binOp BinOp.add 3 (Operand.tmp 44) (Operand.const (Value.int IntKind.i64 1)) 3, none⟩,
    ⟨none, Op.store 3 (Operand.tmp 8) (Operand.tmp 45), none⟩])))
theorem ir24_a1_eq : low (rc24 1).1 = ir24_a1 := by kernel_rfl
theorem ir24_b1_eq : low (rc24 1).2 = ir24_b1 := by kernel_rfl
noncomputable def ir24 : LC := (.seq (.ops [⟨some 3, Op.box 23 (Operand.tmp 0), none⟩,
    ⟨some 5, Op.box 3 (Operand.tmp 2), none⟩,
    ⟨some 6, Op.alloc 3, none⟩,
    ⟨some 7, Op.alloc 42, none⟩])
  (.seq (.block 0 (.seq (.ops [⟨some 12, Op.load 23 (Operand.tmp 3), none⟩,
    ⟨some 13, Op.call { callee := Callee.value (Operand.func 26), args := #[Operand.tmp 12], argTypes := #[23] }, none⟩,
    ⟨some 14, Op.unOp UnOp.not 4 (Operand.tmp 13), none⟩,
    ⟨some 11, Op.assign (Operand.tmp 14), none⟩])
  (.cond (Operand.tmp 11)
  (.seq (.ops [⟨none, Op.store 3 (Operand.tmp 6) (Operand.const (Value.int IntKind.i64 0)), none⟩,
    ⟨none, Op.store 42 (Operand.tmp 7) (Operand.const (Value.int IntKind.i64 1)), none⟩])
  .ret)
  (.seq (.ops [⟨some 16, Op.move (Operand.tmp 1), none⟩,
    ⟨some 17, Op.load 3 (Operand.tmp 5), none⟩,
    ⟨some 18, Op.buildSlice 76 2 #[(0, Operand.tmp 16), (1, Operand.tmp 17)], none⟩,
    ⟨some 19, Op.call { callee := Callee.value (Operand.func 40), args := #[Operand.tmp 18], argTypes := #[76] }, none⟩,
    ⟨some 20, Op.unOp UnOp.not 4 (Operand.tmp 19), none⟩,
    ⟨some 21, Op.move (Operand.tmp 20), none⟩,
    ⟨some 22, Op.move (Operand.tmp 1), some (21, false)⟩,
    ⟨some 23, Op.load 3 (Operand.tmp 5), some (21, false)⟩,
    ⟨some 24, Op.binOp BinOp.eql 3 (Operand.tmp 22) (Operand.tmp 23) 3, some (21, false)⟩,
    ⟨some 25, Op.pick (Operand.tmp 21) (Operand.const (Value.bool true)) (Operand.tmp 24), none⟩,
    ⟨some 15, Op.assign (Operand.tmp 25), none⟩])
  (.cond (Operand.tmp 15)
  (.seq (.ops [⟨none, Op.store 3 (Operand.tmp 6) (Operand.const (Value.int IntKind.i64 0)), none⟩,
    ⟨none, Op.store 42 (Operand.tmp 7) (Operand.const (Value.int IntKind.i64 2)), none⟩])
  .ret)
  .skip)))))
  (.seq (.seq (.ops [⟨some 26, Op.load 23 (Operand.tmp 3), none⟩,
    ⟨some 27, Op.load 3 (Operand.tmp 5), none⟩,
    ⟨some 28, Op.call { callee := Callee.value (Operand.func 49), args := #[Operand.tmp 26, Operand.tmp 27], argTypes := #[23, 3] }, none⟩])
  (.block 1 (.range (Operand.tmp 28) #[29, 30] (rc24 0).1 (rc24 0).2)))
  (.seq (.ops [⟨some 8, Op.alloc 3, none⟩,
    ⟨none, Op.store 3 (Operand.tmp 8) (Operand.const (Value.int IntKind.i64 0)), none⟩])
  (.seq (.seq (.ops [⟨some 31, Op.load 23 (Operand.tmp 3), none⟩,
    ⟨some 32, Op.move (Operand.tmp 1), none⟩,
    ⟨some 33, Op.call { callee := Callee.value (Operand.func 49), args := #[Operand.tmp 31, Operand.tmp 32], argTypes := #[23, 3] }, none⟩])
  (.block 3 (.range (Operand.tmp 33) #[34, 35] (rc24 1).1 (rc24 1).2)))
  (.seq (.ops [⟨some 46, Op.load 3 (Operand.tmp 8), none⟩,
    ⟨none, Op.store 3 (Operand.tmp 6) (Operand.tmp 46), none⟩,
    ⟨none, Op.store 42 (Operand.tmp 7) (Operand.const (Value.int IntKind.i64 0)), none⟩])
  .ret))))))
theorem ir24_eq : (Try.f24.body.map low, Try.f24.ntmps, Try.f24.results.toList) = (some ir24, 47, [.cell 6 3, .cell 7 42]) := by kernel_rfl
def ir26 : LC := (.seq (.ops [⟨some 2, Op.assign (Operand.const (Value.bool false)), none⟩])
  (.seq (.ops [⟨some 3, Op.move (Operand.tmp 0), none⟩,
    ⟨some 4, Op.binOp BinOp.neq 23 (Operand.tmp 3) (Operand.const (Value.pointer none)) 23, none⟩,
    ⟨some 5, Op.move (Operand.tmp 4), none⟩,
    ⟨some 6, Op.move (Operand.tmp 0), some (5, true)⟩,
    ⟨some 7, Op.nilCheck (Operand.tmp 6), some (5, true)⟩,
    ⟨some 8, Op.fieldAddr 64 (Operand.tmp 7) 1, some (5, true)⟩,
    ⟨some 9, Op.load 62 (Operand.tmp 8), some (5, true)⟩,
    ⟨some 10, Op.binOp BinOp.neq 62 (Operand.tmp 9) (Operand.const (Value.map none)) 62, some (5, true)⟩,
    ⟨some 11, Op.pick (Operand.tmp 5) (Operand.tmp 10) (Operand.const (Value.bool false)), none⟩,
    ⟨some 2, Op.assign (Operand.tmp 11), none⟩])
  .ret))
theorem ir26_eq : (Try.f26.body.map low, Try.f26.ntmps, Try.f26.results.toList) = (some ir26, 12, [.tmp 2]) := by kernel_rfl
def ir27 : LC := (.seq (.ops [⟨some 10, Op.assign (Operand.const (Value.int IntKind.i64 0)), none⟩])
  (.seq (.seq (.ops [⟨some 11, Op.move (Operand.tmp 0), none⟩,
    ⟨some 12, Op.binOp BinOp.eql 24 (Operand.tmp 11) (Operand.const (Value.pointer none)) 24, none⟩])
  (.cond (Operand.tmp 12)
  (.seq (.ops [⟨some 10, Op.assign (Operand.const (Value.int IntKind.i64 1)), none⟩])
  .ret)
  .skip))
  (.seq (.seq (.ops [⟨some 13, Op.move (Operand.tmp 1), none⟩,
    ⟨some 14, Op.move (Operand.tmp 2), none⟩,
    ⟨some 15, Op.call { callee := Callee.value (Operand.func 50), args := #[Operand.tmp 13, Operand.tmp 14], argTypes := #[3, 3] }, none⟩,
    ⟨some 16, Op.unOp UnOp.not 4 (Operand.tmp 15), none⟩,
    ⟨some 17, Op.move (Operand.tmp 16), none⟩,
    ⟨some 18, Op.move (Operand.tmp 3), some (17, false)⟩,
    ⟨some 19, Op.binOp BinOp.lss 3 (Operand.tmp 18) (Operand.const (Value.int IntKind.i64 0)) 3, some (17, false)⟩,
    ⟨some 20, Op.pick (Operand.tmp 17) (Operand.const (Value.bool true)) (Operand.tmp 19), none⟩,
    ⟨some 21, Op.move (Operand.tmp 20), none⟩,
    ⟨some 22, Op.move (Operand.tmp 3), some (21, false)⟩,
    ⟨some 23, Op.binOp BinOp.geq 3 (Operand.tmp 22) (Operand.const (Value.int IntKind.i64 256)) 3, some (21, false)⟩,
    ⟨some 24, Op.pick (Operand.tmp 21) (Operand.const (Value.bool true)) (Operand.tmp 23), none⟩,
    ⟨some 25, Op.move (Operand.tmp 24), none⟩,
    ⟨some 26, Op.move (Operand.tmp 4), some (25, false)⟩,
    ⟨some 27, Op.binOp BinOp.lss 3 (Operand.tmp 26) (Operand.const (Value.int IntKind.i64 0)) 3, some (25, false)⟩,
    ⟨some 28, Op.pick (Operand.tmp 25) (Operand.const (Value.bool true)) (Operand.tmp 27), none⟩,
    ⟨some 29, Op.move (Operand.tmp 28), none⟩,
    ⟨some 30, Op.move (Operand.tmp 4), some (29, false)⟩,
    ⟨some 31, Op.binOp BinOp.gtr 3 (Operand.tmp 30) (Operand.const (Value.int IntKind.i64 7)) 3, some (29, false)⟩,
    ⟨some 32, Op.pick (Operand.tmp 29) (Operand.const (Value.bool true)) (Operand.tmp 31), none⟩])
  (.cond (Operand.tmp 32)
  (.seq (.ops [⟨some 10, Op.assign (Operand.const (Value.int IntKind.i64 2)), none⟩])
  .ret)
  .skip))
  (.seq (.seq (.ops [⟨some 33, Op.move (Operand.tmp 0), none⟩,
    ⟨some 34, Op.move (Operand.tmp 1), none⟩,
    ⟨some 35, Op.move (Operand.tmp 2), none⟩,
    ⟨some 36, Op.nilCheck (Operand.tmp 33), none⟩,
    ⟨some 37, Op.fieldAddr 87 (Operand.tmp 36) 0, none⟩,
    ⟨some 38, Op.indexAddr 85 (Operand.tmp 37) (Operand.tmp 34), none⟩,
    ⟨some 39, Op.indexAddr 84 (Operand.tmp 38) (Operand.tmp 35), none⟩,
    ⟨some 40, Op.fieldAddr 83 (Operand.tmp 39) 0, none⟩,
    ⟨some 41, Op.load 4 (Operand.tmp 40), none⟩])
  (.cond (Operand.tmp 41)
  (.seq (.ops [⟨some 10, Op.assign (Operand.const (Value.int IntKind.i64 7)), none⟩])
  .ret)
  .skip))
  (.seq (.ops [⟨some 42, Op.move (Operand.tmp 0), none⟩,
    ⟨some 43, Op.move (Operand.tmp 1), none⟩,
    ⟨some 44, Op.move (Operand.tmp 2), none⟩,
    ⟨some 45, Op.move (Operand.tmp 3), none⟩,
    ⟨some 46, Op.move (Operand.tmp 4), none⟩,
    ⟨some 47, Op.build 34 #[(0, Operand.tmp 45), (1, Operand.tmp 46)], none⟩,
    ⟨some 48, Op.build 83 #[(0, Operand.const (Value.bool true)), (1, Operand.tmp 47)], none⟩,
    ⟨some 49, Op.nilCheck (Operand.tmp 42), none⟩,
    ⟨some 50, Op.fieldAddr 87 (Operand.tmp 49) 0, none⟩,
    ⟨some 51, Op.indexAddr 85 (Operand.tmp 50) (Operand.tmp 43), none⟩,
    ⟨some 52, Op.indexAddr 84 (Operand.tmp 51) (Operand.tmp 44), none⟩,
    ⟨none, Op.store 83 (Operand.tmp 52) (Operand.tmp 48), none⟩])
  (.seq (.ops [⟨some 10, Op.assign (Operand.const (Value.int IntKind.i64 0)), none⟩])
  .ret))))))
theorem ir27_eq : (Try.f27.body.map low, Try.f27.ntmps, Try.f27.results.toList) = (some ir27, 53, [.tmp 10]) := by kernel_rfl
def ir28 : LC := (.seq (.ops [⟨some 6, Op.alloc 34, none⟩,
    ⟨some 7, Op.assign (Operand.const (Value.int IntKind.i64 0)), none⟩])
  (.seq (.ops [⟨some 12, Op.move (Operand.tmp 0), none⟩,
    ⟨some 13, Op.move (Operand.tmp 1), none⟩,
    ⟨some 14, Op.move (Operand.tmp 2), none⟩,
    ⟨some 15, Op.call { callee := Callee.value (Operand.func 39), args := #[Operand.tmp 12, Operand.tmp 13, Operand.tmp 14, Operand.const (Value.int IntKind.i64 0)], argTypes := #[23, 3, 3, 3] }, none⟩,
    ⟨some 11, Op.move (Operand.tmp 15), none⟩,
    ⟨some 16, Op.extract (Operand.tmp 11) 0, none⟩,
    ⟨some 17, Op.extract (Operand.tmp 11) 1, none⟩,
    ⟨some 8, Op.assign (Operand.tmp 16), none⟩,
    ⟨some 9, Op.assign (Operand.tmp 17), none⟩])
  (.seq (.seq (.ops [⟨some 18, Op.move (Operand.tmp 9), none⟩,
    ⟨some 19, Op.binOp BinOp.neq 42 (Operand.tmp 18) (Operand.const (Value.int IntKind.i64 0)) 42, none⟩])
  (.cond (Operand.tmp 19)
  (.seq (.ops [⟨some 20, Op.build 34 #[], none⟩,
    ⟨some 21, Op.move (Operand.tmp 9), none⟩,
    ⟨none, Op.store 34 (Operand.tmp 6) (Operand.tmp 20), none⟩,
    ⟨some 7, Op.assign (Operand.tmp 21), none⟩])
  .ret)
  .skip))
  (.seq (.ops [⟨some 22, Op.move (Operand.tmp 8), none⟩,
    ⟨some 23, Op.nilCheck (Operand.tmp 22), none⟩,
    ⟨some 24, Op.fieldAddr 59 (Operand.tmp 23) 1, none⟩,
    ⟨some 25, Op.load 34 (Operand.tmp 24), none⟩,
    ⟨some 10, Op.alloc 34, none⟩,
    ⟨none, Op.store 34 (Operand.tmp 10) (Operand.tmp 25), none⟩])
  (.seq (.ops [⟨some 26, Op.move (Operand.tmp 8), none⟩,
    ⟨some 27, Op.build 59 #[], none⟩,
    ⟨some 28, Op.nilCheck (Operand.tmp 26), none⟩,
    ⟨none, Op.store 59 (Operand.tmp 28) (Operand.tmp 27), none⟩])
  (.seq (.ops [⟨some 29, Op.move (Operand.tmp 0), none⟩,
    ⟨some 30, Op.nilCheck (Operand.tmp 29), none⟩,
    ⟨some 31, Op.fieldAddr 64 (Operand.tmp 30) 1, none⟩,
    ⟨some 32, Op.load 62 (Operand.tmp 31), none⟩,
    ⟨some 33, Op.move (Operand.tmp 1), none⟩,
    ⟨some 34, Op.move (Operand.tmp 2), none⟩,
    ⟨some 35, Op.build 50 #[(0, Operand.tmp 33), (1, Operand.tmp 34)], none⟩,
    ⟨none, Op.call { callee := Callee.builtin Builtin.delete, args := #[Operand.tmp 32, Operand.tmp 35], argTypes := #[62, 50] }, none⟩])
  (.seq (.ops [⟨some 36, Op.load 34 (Operand.tmp 10), none⟩,
    ⟨none, Op.store 34 (Operand.tmp 6) (Operand.tmp 36), none⟩,
    ⟨some 7, Op.assign (Operand.const (Value.int IntKind.i64 0)), none⟩])
  .ret)))))))
theorem ir28_eq : (Try.f28.body.map low, Try.f28.ntmps, Try.f28.results.toList) = (some ir28, 37, [.cell 6 34, .tmp 7]) := by kernel_rfl
def ir29 : LC := (.seq (.ops [⟨some 6, Op.alloc 34, none⟩,
    ⟨some 7, Op.assign (Operand.const (Value.int IntKind.i64 0)), none⟩])
  (.seq (.seq (.ops [⟨some 10, Op.move (Operand.tmp 0), none⟩,
    ⟨some 11, Op.move (Operand.tmp 1), none⟩,
    ⟨some 12, Op.move (Operand.tmp 2), none⟩,
    ⟨some 13, Op.call { callee := Callee.value (Operand.func 51), args := #[Operand.tmp 10, Operand.tmp 11, Operand.tmp 12, Operand.const (Value.int IntKind.i64 0)], argTypes := #[24, 3, 3, 3] }, none⟩,
    ⟨some 8, Op.assign (Operand.tmp 13), none⟩])
  (.seq (.ops [⟨some 14, Op.move (Operand.tmp 8), none⟩,
    ⟨some 15, Op.binOp BinOp.neq 3 (Operand.tmp 14) (Operand.const (Value.int IntKind.i64 0)) 3, none⟩])
  (.cond (Operand.tmp 15)
  (.seq (.ops [⟨some 16, Op.build 34 #[], none⟩,
    ⟨some 17, Op.move (Operand.tmp 8), none⟩,
    ⟨none, Op.store 34 (Operand.tmp 6) (Operand.tmp 16), none⟩,
    ⟨some 7, Op.assign (Operand.tmp 17), none⟩])
  .ret)
  .skip)))
  (.seq (.ops [⟨some 18, Op.move (Operand.tmp 0), none⟩,
    ⟨some 19, Op.move (Operand.tmp 1), none⟩,
    ⟨some 20, Op.move (Operand.tmp 2), none⟩,
    ⟨some 21, Op.nilCheck (Operand.tmp 18), none⟩,
    ⟨some 22, Op.fieldAddr 87 (Operand.tmp 21) 0, none⟩,
    ⟨some 23, Op.indexAddr 85 (Operand.tmp 22) (Operand.tmp 19), none⟩,
    ⟨some 24, Op.indexAddr 84 (Operand.tmp 23) (Operand.tmp 20), none⟩,
    ⟨some 25, Op.fieldAddr 83 (Operand.tmp 24) 1, none⟩,
    ⟨some 26, Op.load 34 (Operand.tmp 25), none⟩,
    ⟨some 9, Op.alloc 34, none⟩,
    ⟨none, Op.store 34 (Operand.tmp 9) (Operand.tmp 26), none⟩])
  (.seq (.ops [⟨some 27, Op.move (Operand.tmp 0), none⟩,
    ⟨some 28, Op.move (Operand.tmp 1), none⟩,
    ⟨some 29, Op.move (Operand.tmp 2), none⟩,
    ⟨some 30, Op.build 83 #[], none⟩,
    ⟨some 31, Op.nilCheck (Operand.tmp 27), none⟩,
    ⟨some 32, Op.fieldAddr 87 (Operand.tmp 31) 0, none⟩,
    ⟨some 33, Op.indexAddr 85 (Operand.tmp 32) (Operand.tmp 28), none⟩,
    ⟨some 34, Op.indexAddr 84 (Operand.tmp 33) (Operand.tmp 29), none⟩,
    ⟨none, Op.store 83 (Operand.tmp 34) (Operand.tmp 30), none⟩])
  (.seq (.ops [⟨some 35, Op.load 34 (Operand.tmp 9), none⟩,
    ⟨none, Op.store 34 (Operand.tmp 6) (Operand.tmp 35), none⟩,
    ⟨some 7, Op.assign (Operand.const (Value.int IntKind.i64 0)), none⟩])
  .ret)))))
theorem ir29_eq : (Try.f29.body.map low, Try.f29.ntmps, Try.f29.results.toList) = (some ir29, 36, [.cell 6 34, .tmp 7]) := by kernel_rfl
def ir30 : LC := (.seq (.ops [⟨some 8, Op.assign (Operand.const (Value.int IntKind.i64 0)), none⟩])
  (.seq (.ops [⟨some 12, Op.move (Operand.tmp 0), none⟩,
    ⟨some 13, Op.move (Operand.tmp 1), none⟩,
    ⟨some 14, Op.move (Operand.tmp 2), none⟩,
    ⟨some 15, Op.move (Operand.tmp 3), none⟩,
    ⟨some 16, Op.call { callee := Callee.value (Operand.func 39), args := #[Operand.tmp 12, Operand.tmp 13, Operand.tmp 14, Operand.tmp 15], argTypes := #[23, 3, 3, 3] }, none⟩,
    ⟨some 11, Op.move (Operand.tmp 16), none⟩,
    ⟨some 17, Op.extract (Operand.tmp 11) 0, none⟩,
    ⟨some 18, Op.extract (Operand.tmp 11) 1, none⟩,
    ⟨some 9, Op.assign (Operand.tmp 17), none⟩,
    ⟨some 10, Op.assign (Operand.tmp 18), none⟩])
  (.seq (.seq (.ops [⟨some 19, Op.move (Operand.tmp 10), none⟩,
    ⟨some 20, Op.binOp BinOp.neq 42 (Operand.tmp 19) (Operand.const (Value.int IntKind.i64 0)) 42, none⟩])
  (.cond (Operand.tmp 20)
  (.seq (.ops [⟨some 21, Op.move (Operand.tmp 10), none⟩,
    ⟨some 8, Op.assign (Operand.tmp 21), none⟩])
  .ret)
  .skip))
  (.seq (.ops [⟨some 22, Op.move (Operand.tmp 9), none⟩,
    ⟨some 23, Op.move (Operand.tmp 3), none⟩,
    ⟨some 24, Op.nilCheck (Operand.tmp 22), none⟩,
    ⟨some 25, Op.fieldAddr 59 (Operand.tmp 24) 1, none⟩,
    ⟨some 26, Op.fieldAddr 34 (Operand.tmp 25) 1, none⟩,
    ⟨none, Op.store 3 (Operand.tmp 26) (Operand.tmp 23), none⟩])
  (.seq (.ops [⟨some 8, Op.assign (Operand.const (Value.int IntKind.i64 0)), none⟩])
  .ret)))))
theorem ir30_eq : (Try.f30.body.map low, Try.f30.ntmps, Try.f30.results.toList) = (some ir30, 27, [.tmp 8]) := by kernel_rfl
def ir31 : LC := (.seq (.ops [⟨some 8, Op.assign (Operand.const (Value.int IntKind.i64 0)), none⟩])
  (.seq (.seq (.ops [⟨some 10, Op.move (Operand.tmp 0), none⟩,
    ⟨some 11, Op.move (Operand.tmp 1), none⟩,
    ⟨some 12, Op.move (Operand.tmp 2), none⟩,
    ⟨some 13, Op.move (Operand.tmp 3), none⟩,
    ⟨some 14, Op.call { callee := Callee.value (Operand.func 51), args := #[Operand.tmp 10, Operand.tmp 11, Operand.tmp 12, Operand.tmp 13], argTypes := #[24, 3, 3, 3] }, none⟩,
    ⟨some 9, Op.assign (Operand.tmp 14), none⟩])
  (.seq (.ops [⟨some 15, Op.move (Operand.tmp 9), none⟩,
    ⟨some 16, Op.binOp BinOp.neq 3 (Operand.tmp 15) (Operand.const (Value.int IntKind.i64 0)) 3, none⟩])
  (.cond (Operand.tmp 16)
  (.seq (.ops [⟨some 17, Op.move (Operand.tmp 9), none⟩,
    ⟨some 8, Op.assign (Operand.tmp 17), none⟩])
  .ret)
  .skip)))
  (.seq (.ops [⟨some 18, Op.move (Operand.tmp 0), none⟩,
    ⟨some 19, Op.move (Operand.tmp 1), none⟩,
    ⟨some 20, Op.move (Operand.tmp 2), none⟩,
    ⟨some 21, Op.move (Operand.tmp 3), none⟩,
    ⟨some 22, Op.nilCheck (Operand.tmp 18), none⟩,
    ⟨some 23, Op.fieldAddr 87 (Operand.tmp 22) 0, none⟩,
    ⟨some 24, Op.indexAddr 85 (Operand.tmp 23) (Operand.tmp 19), none⟩,
    ⟨some 25, Op.indexAddr 84 (Operand.tmp 24) (Operand.tmp 20), none⟩,
    ⟨some 26, Op.fieldAddr 83 (Operand.tmp 25) 1, none⟩,
    ⟨some 27, Op.fieldAddr 34 (Operand.tmp 26) 1, none⟩,
    ⟨none, Op.store 3 (Operand.tmp 27) (Operand.tmp 21), none⟩])
  (.seq (.ops [⟨some 8, Op.assign (Operand.const (Value.int IntKind.i64 0)), none⟩])
  .ret))))
theorem ir31_eq : (Try.f31.body.map low, Try.f31.ntmps, Try.f31.results.toList) = (some ir31, 28, [.tmp 8]) := by kernel_rfl
def ir32 : LC := (.seq (.ops [⟨some 8, Op.assign (Operand.const (Value.int IntKind.i64 0)), none⟩,
    ⟨some 9, Op.assign (Operand.const (Value.int IntKind.i64 0)), none⟩,
    ⟨some 10, Op.assign (Operand.const (Value.int IntKind.i64 0)), none⟩])
  (.seq (.seq (.ops [⟨some 13, Op.move (Operand.tmp 0), none⟩,
    ⟨some 14, Op.binOp BinOp.eql 24 (Operand.tmp 13) (Operand.const (Value.pointer none)) 24, none⟩])
  (.cond (Operand.tmp 14)
  (.seq (.ops [⟨some 8, Op.assign (Operand.const (Value.int IntKind.i64 0)), none⟩,
    ⟨some 9, Op.assign (Operand.const (Value.int IntKind.i64 0)), none⟩,
    ⟨some 10, Op.assign (Operand.const (Value.int IntKind.i64 1)), none⟩])
  .ret)
  .skip))
  (.seq (.seq (.ops [⟨some 15, Op.move (Operand.tmp 1), none⟩,
    ⟨some 16, Op.binOp BinOp.lss 3 (Operand.tmp 15) (Operand.const (Value.int IntKind.i64 0)) 3, none⟩,
    ⟨some 17, Op.move (Operand.tmp 16), none⟩,
    ⟨some 18, Op.move (Operand.tmp 1), some (17, false)⟩,
    ⟨some 19, Op.binOp BinOp.geq 3 (Operand.tmp 18) (Operand.const (Value.int IntKind.i64 16)) 3, some (17, false)⟩,
    ⟨some 20, Op.pick (Operand.tmp 17) (Operand.const (Value.bool true)) (Operand.tmp 19), none⟩,
    ⟨some 21, Op.move (Operand.tmp 20), none⟩,
    ⟨some 22, Op.move (Operand.tmp 3), some (21, false)⟩,
    ⟨some 23, Op.binOp BinOp.neq 3 (Operand.tmp 22) (Operand.const (Value.int IntKind.i64 1)) 3, some (21, false)⟩,
    ⟨some 24, Op.move (Operand.tmp 23), some (21, false)⟩,
    ⟨some 25, Op.move (Operand.tmp 3), some (24, true)⟩,
    ⟨some 26, Op.binOp BinOp.neq 3 (Operand.tmp 25) (Operand.const (Value.int IntKind.i64 2)) 3, some (24, true)⟩,
    ⟨some 27, Op.pick (Operand.tmp 24) (Operand.tmp 26) (Operand.const (Value.bool false)), some (21, false)⟩,
    ⟨some 28, Op.move (Operand.tmp 27), some (21, false)⟩,
    ⟨some 29, Op.move (Operand.tmp 3), some (28, true)⟩,
    ⟨some 30, Op.binOp BinOp.neq 3 (Operand.tmp 29) (Operand.const (Value.int IntKind.i64 4)) 3, some (28, true)⟩,
    ⟨some 31, Op.pick (Operand.tmp 28) (Operand.tmp 30) (Operand.const (Value.bool false)), some (21, false)⟩,
    ⟨some 32, Op.pick (Operand.tmp 21) (Operand.const (Value.bool true)) (Operand.tmp 31), none⟩])
  (.cond (Operand.tmp 32)
  (.seq (.ops [⟨some 8, Op.assign (Operand.const (Value.int IntKind.i64 0)), none⟩,
    ⟨some 9, Op.assign (Operand.const (Value.int IntKind.i64 0)), none⟩,
    ⟨some 10, Op.assign (Operand.const (Value.int IntKind.i64 2)), none⟩])
  .ret)
  .skip))
  (.seq (.ops [⟨some 33, Op.move (Operand.tmp 2), none⟩,
    ⟨some 34, Op.binOp BinOp.quo 28 (Operand.tmp 33) (Operand.const (Value.int IntKind.u32 256)) 28, none⟩,
    ⟨some 35, Op.convert 28 3 (Operand.tmp 34), none⟩,
    ⟨some 11, Op.assign (Operand.tmp 35), none⟩])
  (.seq (.seq (.ops [⟨some 36, Op.move (Operand.tmp 11), none⟩,
    ⟨some 37, Op.binOp BinOp.geq 3 (Operand.tmp 36) (Operand.const (Value.int IntKind.i64 32)) 3, none⟩,
    ⟨some 38, Op.move (Operand.tmp 37), none⟩,
    ⟨some 39, Op.move (Operand.tmp 0), some (38, false)⟩,
    ⟨some 40, Op.move (Operand.tmp 1), some (38, false)⟩,
    ⟨some 41, Op.move (Operand.tmp 11), some (38, false)⟩,
    ⟨some 42, Op.nilCheck (Operand.tmp 39), some (38, false)⟩,
    ⟨some 43, Op.fieldAddr 87 (Operand.tmp 42) 0, some (38, false)⟩,
    ⟨some 44, Op.indexAddr 85 (Operand.tmp 43) (Operand.tmp 40), some (38, false)⟩,
    ⟨some 45, Op.indexAddr 84 (Operand.tmp 44) (Operand.tmp 41), some (38, false)⟩,
    ⟨some 46, Op.fieldAddr 83 (Operand.tmp 45) 0, some (38, false)⟩,
    ⟨some 47, Op.load 4 (Operand.tmp 46), some (38, false)⟩,
    ⟨some 48, Op.unOp UnOp.not 4 (Operand.tmp 47), some (38, false)⟩,
    ⟨some 49, Op.pick (Operand.tmp 38) (Operand.const (Value.bool true)) (Operand.tmp 48), none⟩])
  (.cond (Operand.tmp 49)
  (.seq (.ops [⟨some 8, Op.assign (Operand.const (Value.int IntKind.i64 0)), none⟩,
    ⟨some 9, Op.assign (Operand.const (Value.int IntKind.i64 0)), none⟩,
    ⟨some 10, Op.assign (Operand.const (Value.int IntKind.i64 10)), none⟩])
  .ret)
  .skip))
  (.seq (.ops [⟨some 50, Op.move (Operand.tmp 0), none⟩,
    ⟨some 51, Op.move (Operand.tmp 1), none⟩,
    ⟨some 52, Op.move (Operand.tmp 11), none⟩,
    ⟨some 53, Op.nilCheck (Operand.tmp 50), none⟩,
    ⟨some 54, Op.fieldAddr 87 (Operand.tmp 53) 0, none⟩,
    ⟨some 55, Op.indexAddr 85 (Operand.tmp 54) (Operand.tmp 51), none⟩,
    ⟨some 56, Op.indexAddr 84 (Operand.tmp 55) (Operand.tmp 52), none⟩,
    ⟨some 57, Op.fieldAddr 83 (Operand.tmp 56) 1, none⟩,
    ⟨some 58, Op.load 34 (Operand.tmp 57), none⟩,
    ⟨some 12, Op.alloc 34, none⟩,
    ⟨none, Op.store 34 (Operand.tmp 12) (Operand.tmp 58), none⟩])
  (.seq (.seq (.ops [⟨some 59, Op.fieldAddr 34 (Operand.tmp 12) 1, none⟩,
    ⟨some 60, Op.load 3 (Operand.tmp 59), none⟩,
    ⟨some 61, Op.move (Operand.tmp 3), none⟩,
    ⟨some 62, Op.binOp BinOp.and 3 (Operand.tmp 60) (Operand.tmp 61) 3, none⟩,
    ⟨some 63, Op.binOp BinOp.eql 3 (Operand.tmp 62) (Operand.const (Value.int IntKind.i64 0)) 3, none⟩])
  (.cond (Operand.tmp 63)
  (.seq (.ops [⟨some 8, Op.assign (Operand.const (Value.int IntKind.i64 0)), none⟩,
    ⟨some 9, Op.assign (Operand.const (Value.int IntKind.i64 0)), none⟩,
    ⟨some 10, Op.assign (Operand.const (Value.int IntKind.i64 8)), none⟩])
  .ret)
  .skip))
  (.seq (.ops [⟨some 64, Op.move (Operand.tmp 0), none⟩,
    ⟨some 65, Op.move (Operand.tmp 1), none⟩,
    ⟨some 66, Op.move (Operand.tmp 11), none⟩,
    ⟨some 67, Op.nilCheck (Operand.tmp 64), none⟩,
    ⟨some 68, Op.fieldAddr 87 (Operand.tmp 67) 0, none⟩,
    ⟨some 69, Op.indexAddr 85 (Operand.tmp 68) (Operand.tmp 65), none⟩,
    ⟨some 70, Op.indexAddr 84 (Operand.tmp 69) (Operand.tmp 66), none⟩,
    ⟨some 71, Op.fieldAddr 83 (Operand.tmp 70) 1, none⟩,
    ⟨some 72, Op.fieldAddr 34 (Operand.tmp 71) 2, none⟩,
    ⟨none, Op.store 4 (Operand.tmp 72) (Operand.const (Value.bool true)), none⟩])
  (.seq (.seq (.ops [⟨some 73, Op.move (Operand.tmp 3), none⟩,
    ⟨some 74, Op.binOp BinOp.eql 3 (Operand.tmp 73) (Operand.const (Value.int IntKind.i64 2)) 3, none⟩])
  (.cond (Operand.tmp 74)
  (.ops [⟨some 75, Op.move (Operand.tmp 0), none⟩,
    ⟨some 76, Op.move (Operand.tmp 1), none⟩,
    ⟨some 77, Op.move (Operand.tmp 11), none⟩,
    ⟨some 78, Op.nilCheck (Operand.tmp 75), none⟩,
    ⟨some 79, Op.fieldAddr 87 (Operand.tmp 78) 0, none⟩,
    ⟨some 80, Op.indexAddr 85 (Operand.tmp 79) (Operand.tmp 76), none⟩,
    ⟨some 81, Op.indexAddr 84 (Operand.tmp 80) (Operand.tmp 77), none⟩,
    ⟨some 82, Op.fieldAddr 83 (Operand.tmp 81) 1, none⟩,
    ⟨some 83, Op.fieldAddr 34 (Operand.tmp 82) 3, none⟩,
    ⟨none, Op.store 4 (Operand.tmp 83) (Operand.const (Value.bool true)), none⟩])
  .skip))
  (.seq (.ops [⟨some 84, Op.fieldAddr 34 (Operand.tmp 12) 0, none⟩,
    ⟨some 85, Op.load 3 (Operand.tmp 84), none⟩,
    ⟨some 86, Op.move (Operand.tmp 2), none⟩,
    ⟨some 87, Op.binOp BinOp.rem 28 (Operand.tmp 86) (Operand.const (Value.int IntKind.u32 256)) 28, none⟩,
    ⟨some 88, Op.convert 28 3 (Operand.tmp 87), none⟩,
    ⟨some 8, Op.assign (Operand.tmp 85), none⟩,
    ⟨some 9, Op.assign (Operand.tmp 88), none⟩,
    ⟨some 10, Op.assign (Operand.const (Value.int IntKind.i64 0)), none⟩])
  .ret))))))))))
theorem ir32_eq : (Try.f32.body.map low, Try.f32.ntmps, Try.f32.results.toList) = (some ir32, 89, [.tmp 8, .tmp 9, .tmp 10]) := by kernel_rfl
def ir33 : LC := (.seq (.ops [⟨some 6, Op.alloc 34, none⟩,
    ⟨some 7, Op.assign (Operand.const (Value.int IntKind.i64 0)), none⟩])
  (.seq (.ops [⟨some 12, Op.move (Operand.tmp 0), none⟩,
    ⟨some 13, Op.move (Operand.tmp 1), none⟩,
    ⟨some 14, Op.move (Operand.tmp 2), none⟩,
    ⟨some 15, Op.call { callee := Callee.value (Operand.func 39), args := #[Operand.tmp 12, Operand.tmp 13, Operand.tmp 14, Operand.const (Value.int IntKind.i64 0)], argTypes := #[23, 3, 3, 3] }, none⟩,
    ⟨some 11, Op.move (Operand.tmp 15), none⟩,
    ⟨some 16, Op.extract (Operand.tmp 11) 0, none⟩,
    ⟨some 17, Op.extract (Operand.tmp 11) 1, none⟩,
    ⟨some 8, Op.assign (Operand.tmp 16), none⟩,
    ⟨some 9, Op.assign (Operand.tmp 17), none⟩])
  (.seq (.seq (.ops [⟨some 18, Op.move (Operand.tmp 9), none⟩,
    ⟨some 19, Op.binOp BinOp.neq 42 (Operand.tmp 18) (Operand.const (Value.int IntKind.i64 0)) 42, none⟩])
  (.cond (Operand.tmp 19)
  (.seq (.ops [⟨some 20, Op.build 34 #[], none⟩,
    ⟨some 21, Op.move (Operand.tmp 9), none⟩,
    ⟨none, Op.store 34 (Operand.tmp 6) (Operand.tmp 20), none⟩,
    ⟨some 7, Op.assign (Operand.tmp 21), none⟩])
  .ret)
  .skip))
  (.seq (.ops [⟨some 22, Op.move (Operand.tmp 8), none⟩,
    ⟨some 23, Op.nilCheck (Operand.tmp 22), none⟩,
    ⟨some 24, Op.fieldAddr 59 (Operand.tmp 23) 1, none⟩,
    ⟨some 25, Op.load 34 (Operand.tmp 24), none⟩,
    ⟨some 10, Op.alloc 34, none⟩,
    ⟨none, Op.store 34 (Operand.tmp 10) (Operand.tmp 25), none⟩])
  (.seq (.ops [⟨some 26, Op.move (Operand.tmp 8), none⟩,
    ⟨some 27, Op.move (Operand.tmp 8), none⟩,
    ⟨some 28, Op.nilCheck (Operand.tmp 26), none⟩,
    ⟨some 29, Op.fieldAddr 59 (Operand.tmp 28) 1, none⟩,
    ⟨some 30, Op.fieldAddr 34 (Operand.tmp 29) 2, none⟩,
    ⟨none, Op.store 4 (Operand.tmp 30) (Operand.const (Value.bool false)), none⟩,
    ⟨some 31, Op.nilCheck (Operand.tmp 27), none⟩,
    ⟨some 32, Op.fieldAddr 59 (Operand.tmp 31) 1, none⟩,
    ⟨some 33, Op.fieldAddr 34 (Operand.tmp 32) 3, none⟩,
    ⟨none, Op.store 4 (Operand.tmp 33) (Operand.const (Value.bool false)), none⟩])
  (.seq (.ops [⟨some 34, Op.load 34 (Operand.tmp 10), none⟩,
    ⟨none, Op.store 34 (Operand.tmp 6) (Operand.tmp 34), none⟩,
    ⟨some 7, Op.assign (Operand.const (Value.int IntKind.i64 0)), none⟩])
  .ret))))))
theorem ir33_eq : (Try.f33.body.map low, Try.f33.ntmps, Try.f33.results.toList) = (some ir33, 35, [.cell 6 34, .tmp 7]) := by kernel_rfl
def ir34 : LC := (.seq (.ops [⟨some 6, Op.alloc 34, none⟩,
    ⟨some 7, Op.assign (Operand.const (Value.int IntKind.i64 0)), none⟩])
  (.seq (.seq (.ops [⟨some 10, Op.move (Operand.tmp 0), none⟩,
    ⟨some 11, Op.move (Operand.tmp 1), none⟩,
    ⟨some 12, Op.move (Operand.tmp 2), none⟩,
    ⟨some 13, Op.call { callee := Callee.value (Operand.func 51), args := #[Operand.tmp 10, Operand.tmp 11, Operand.tmp 12, Operand.const (Value.int IntKind.i64 0)], argTypes := #[24, 3, 3, 3] }, none⟩,
    ⟨some 8, Op.assign (Operand.tmp 13), none⟩])
  (.seq (.ops [⟨some 14, Op.move (Operand.tmp 8), none⟩,
    ⟨some 15, Op.binOp BinOp.neq 3 (Operand.tmp 14) (Operand.const (Value.int IntKind.i64 0)) 3, none⟩])
  (.cond (Operand.tmp 15)
  (.seq (.ops [⟨some 16, Op.build 34 #[], none⟩,
    ⟨some 17, Op.move (Operand.tmp 8), none⟩,
    ⟨none, Op.store 34 (Operand.tmp 6) (Operand.tmp 16), none⟩,
    ⟨some 7, Op.assign (Operand.tmp 17), none⟩])
  .ret)
  .skip)))
  (.seq (.ops [⟨some 18, Op.move (Operand.tmp 0), none⟩,
    ⟨some 19, Op.move (Operand.tmp 1), none⟩,
    ⟨some 20, Op.move (Operand.tmp 2), none⟩,
    ⟨some 21, Op.nilCheck (Operand.tmp 18), none⟩,
    ⟨some 22, Op.fieldAddr 87 (Operand.tmp 21) 0, none⟩,
    ⟨some 23, Op.indexAddr 85 (Operand.tmp 22) (Operand.tmp 19), none⟩,
    ⟨some 24, Op.indexAddr 84 (Operand.tmp 23) (Operand.tmp 20), none⟩,
    ⟨some 25, Op.fieldAddr 83 (Operand.tmp 24) 1, none⟩,
    ⟨some 26, Op.load 34 (Operand.tmp 25), none⟩,
    ⟨some 9, Op.alloc 34, none⟩,
    ⟨none, Op.store 34 (Operand.tmp 9) (Operand.tmp 26), none⟩])
  (.seq (.draw [⟨some 27, Op.move (Operand.tmp 0), none⟩,
    ⟨some 28, Op.move (Operand.tmp 1), none⟩,
    ⟨some 29, Op.move (Operand.tmp 2), none⟩,
    ⟨some 30, Op.move (Operand.tmp 0), none⟩,
    ⟨some 31, Op.move (Operand.tmp 1), none⟩,
    ⟨some 32, Op.move (Operand.tmp 2), none⟩,
    ⟨some 33, Op.nilCheck (Operand.tmp 27), none⟩,
    ⟨some 34, Op.fieldAddr 87 (Operand.tmp 33) 0, none⟩,
    ⟨some 35, Op.indexAddr 85 (Operand.tmp 34) (Operand.tmp 28), none⟩,
    ⟨some 36, Op.indexAddr 84 (Operand.tmp 35) (Operand.tmp 29), none⟩,
    ⟨some 37, Op.fieldAddr 83 (Operand.tmp 36) 1, none⟩,
    ⟨some 38, Op.fieldAddr 34 (Operand.tmp 37) 2, none⟩,
    ⟨none, Op.store 4 (Operand.tmp 38) (Operand.const (Value.bool false)), none⟩,
    ⟨some 39, Op.nilCheck (Operand.tmp 30), none⟩,
    ⟨some 40, Op.fieldAddr 87 (Operand.tmp 39) 0, none⟩,
    ⟨some 41, Op.indexAddr 85 (Operand.tmp 40) (Operand.tmp 31), none⟩,
    ⟨some 42, Op.indexAddr 84 (Operand.tmp 41) (Operand.tmp 32), none⟩,
    ⟨some 43, Op.fieldAddr 83 (Operand.tmp 42) 1, none⟩,
    ⟨some 44, Op.fieldAddr 34 (Operand.tmp 43) 3, none⟩,
    ⟨none, Op.store 4 (Operand.tmp 44) (Operand.const (Value.bool false)), none⟩] [(3, 12), (4, 12), (5, 12), (12, 13), (12, 14), (12, 15)])
  (.seq (.ops [⟨some 45, Op.load 34 (Operand.tmp 9), none⟩,
    ⟨none, Op.store 34 (Operand.tmp 6) (Operand.tmp 45), none⟩,
    ⟨some 7, Op.assign (Operand.const (Value.int IntKind.i64 0)), none⟩])
  .ret)))))
theorem ir34_eq : (Try.f34.body.map low, Try.f34.ntmps, Try.f34.results.toList) = (some ir34, 46, [.cell 6 34, .tmp 7]) := by kernel_rfl
def ir35_l0 : LC := (.seq (.seq (.ops [⟨some 34, Op.move (Operand.tmp 9), none⟩,
    ⟨some 35, Op.move (Operand.tmp 8), none⟩,
    ⟨some 36, Op.call { callee := Callee.builtin Builtin.len, args := #[Operand.tmp 35], argTypes := #[76] }, none⟩,
    ⟨some 37, Op.binOp BinOp.lss 3 (Operand.tmp 34) (Operand.tmp 36) 3, none⟩])
  (.cond (Operand.tmp 37)
  .skip
  (.exit 0)))
  (.seq (.block 1 (.seq (.draw [⟨some 40, Op.move (Operand.tmp 0), none⟩,
    ⟨some 41, Op.move (Operand.tmp 1), none⟩,
    ⟨some 42, Op.move (Operand.tmp 8), none⟩,
    ⟨some 43, Op.move (Operand.tmp 9), none⟩,
    ⟨some 44, Op.indexAddr 76 (Operand.tmp 42) (Operand.tmp 43), none⟩,
    ⟨some 45, Op.load 3 (Operand.tmp 44), none⟩,
    ⟨some 46, Op.nilCheck (Operand.tmp 40), none⟩,
    ⟨some 47, Op.fieldAddr 87 (Operand.tmp 46) 0, none⟩,
    ⟨some 48, Op.indexAddr 85 (Operand.tmp 47) (Operand.tmp 41), none⟩,
    ⟨some 49, Op.indexAddr 84 (Operand.tmp 48) (Operand.tmp 45), none⟩,
    ⟨some 50, Op.fieldAddr 83 (Operand.tmp 49) 1, none⟩,
    ⟨some 51, Op.load 34 (Operand.tmp 50), none⟩,
    ⟨some 10, Op.alloc 34, none⟩,
    ⟨none, Op.store 34 (Operand.tmp 10) (Operand.tmp 51), none⟩] [(0, 12), (1, 12), (2, 12), (3, 12), (4, 12), (5, 12), (6, 12), (7, 12), (8, 12), (9, 12), (10, 12), (11, 12)])
  (.draw [⟨some 52, Op.move (Operand.tmp 0), none⟩,
    ⟨some 53, Op.move (Operand.tmp 2), none⟩,
    ⟨some 54, Op.move (Operand.tmp 8), none⟩,
    ⟨some 55, Op.move (Operand.tmp 9), none⟩,
    ⟨some 56, Op.indexAddr 76 (Operand.tmp 54) (Operand.tmp 55), none⟩,
    ⟨some 57, Op.load 3 (Operand.tmp 56), none⟩,
    ⟨some 58, Op.fieldAddr 34 (Operand.tmp 10) 0, none⟩,
    ⟨some 59, Op.load 3 (Operand.tmp 58), none⟩,
    ⟨some 60, Op.fieldAddr 34 (Operand.tmp 10) 1, none⟩,
    ⟨some 61, Op.load 3 (Operand.tmp 60), none⟩,
    ⟨some 62, Op.build 34 #[(0, Operand.tmp 59), (1, Operand.tmp 61)], none⟩,
    ⟨some 63, Op.build 83 #[(0, Operand.const (Value.bool true)), (1, Operand.tmp 62)], none⟩,
    ⟨some 64, Op.nilCheck (Operand.tmp 52), none⟩,
    ⟨some 65, Op.fieldAddr 87 (Operand.tmp 64) 0, none⟩,
    ⟨some 66, Op.indexAddr 85 (Operand.tmp 65) (Operand.tmp 53), none⟩,
    ⟨some 67, Op.indexAddr 84 (Operand.tmp 66) (Operand.tmp 57), none⟩,
    ⟨none, Op.store 83 (Operand.tmp 67) (Operand.tmp 63), none⟩] [])))
  (.ops [⟨some 38, Op.move (Operand.tmp 9), none⟩,
    ⟨some 39, Op.binOp BinOp.add 3 (Operand.tmp 38) (Operand.const (Value.int IntKind.i64 1)) 3, none⟩,
    ⟨some 9, Op.assign (Operand.tmp 39), none⟩])))
def ir35 : LC := (.seq (.ops [⟨some 6, Op.assign (Operand.const (Value.int IntKind.i64 0)), none⟩,
    ⟨some 7, Op.assign (Operand.const (Value.int IntKind.i64 0)), none⟩])
  (.seq (.seq (.ops [⟨some 11, Op.move (Operand.tmp 0), none⟩,
    ⟨some 12, Op.binOp BinOp.eql 24 (Operand.tmp 11) (Operand.const (Value.pointer none)) 24, none⟩])
  (.cond (Operand.tmp 12)
  (.seq (.ops [⟨some 6, Op.assign (Operand.const (Value.int IntKind.i64 0)), none⟩,
    ⟨some 7, Op.assign (Operand.const (Value.int IntKind.i64 1)), none⟩])
  .ret)
  .skip))
  (.seq (.seq (.ops [⟨some 13, Op.move (Operand.tmp 1), none⟩,
    ⟨some 14, Op.call { callee := Callee.value (Operand.func 50), args := #[Operand.tmp 13, Operand.const (Value.int IntKind.i64 0)], argTypes := #[3, 3] }, none⟩,
    ⟨some 15, Op.unOp UnOp.not 4 (Operand.tmp 14), none⟩,
    ⟨some 16, Op.move (Operand.tmp 15), none⟩,
    ⟨some 17, Op.move (Operand.tmp 2), some (16, false)⟩,
    ⟨some 18, Op.call { callee := Callee.value (Operand.func 50), args := #[Operand.tmp 17, Operand.const (Value.int IntKind.i64 0)], argTypes := #[3, 3] }, some (16, false)⟩,
    ⟨some 19, Op.unOp UnOp.not 4 (Operand.tmp 18), some (16, false)⟩,
    ⟨some 20, Op.pick (Operand.tmp 16) (Operand.const (Value.bool true)) (Operand.tmp 19), none⟩,
    ⟨some 21, Op.move (Operand.tmp 20), none⟩,
    ⟨some 22, Op.move (Operand.tmp 1), some (21, false)⟩,
    ⟨some 23, Op.move (Operand.tmp 2), some (21, false)⟩,
    ⟨some 24, Op.binOp BinOp.eql 3 (Operand.tmp 22) (Operand.tmp 23) 3, some (21, false)⟩,
    ⟨some 25, Op.pick (Operand.tmp 21) (Operand.const (Value.bool true)) (Operand.tmp 24), none⟩])
  (.cond (Operand.tmp 25)
  (.seq (.ops [⟨some 6, Op.assign (Operand.const (Value.int IntKind.i64 0)), none⟩,
    ⟨some 7, Op.assign (Operand.const (Value.int IntKind.i64 2)), none⟩])
  .ret)
  .skip))
  (.seq (.seq (.ops [⟨some 26, Op.move (Operand.tmp 0), none⟩,
    ⟨some 27, Op.move (Operand.tmp 2), none⟩,
    ⟨some 28, Op.call { callee := Callee.value (Operand.func 52), args := #[Operand.tmp 26, Operand.tmp 27], argTypes := #[24, 3] }, none⟩,
    ⟨some 29, Op.call { callee := Callee.builtin Builtin.len, args := #[Operand.tmp 28], argTypes := #[76] }, none⟩,
    ⟨some 30, Op.binOp BinOp.gtr 3 (Operand.tmp 29) (Operand.const (Value.int IntKind.i64 0)) 3, none⟩])
  (.cond (Operand.tmp 30)
  (.seq (.ops [⟨some 6, Op.assign (Operand.const (Value.int IntKind.i64 0)), none⟩,
    ⟨some 7, Op.assign (Operand.const (Value.int IntKind.i64 7)), none⟩])
  .ret)
  .skip))
  (.seq (.ops [⟨some 31, Op.move (Operand.tmp 0), none⟩,
    ⟨some 32, Op.move (Operand.tmp 1), none⟩,
    ⟨some 33, Op.call { callee := Callee.value (Operand.func 52), args := #[Operand.tmp 31, Operand.tmp 32], argTypes := #[24, 3] }, none⟩,
    ⟨some 8, Op.assign (Operand.tmp 33), none⟩])
  (.seq (.seq (.ops [⟨some 9, Op.assign (Operand.const (Value.int IntKind.i64 0)), none⟩])
  (.block 0 (.loop ir35_l0)))
  (.seq (.ops [⟨some 68, Op.move (Operand.tmp 8), none⟩,
    ⟨some 69, Op.call { callee := Callee.builtin Builtin.len, args := #[Operand.tmp 68], argTypes := #[76] }, none⟩,
    ⟨some 6, Op.assign (Operand.tmp 69), none⟩,
    ⟨some 7, Op.assign (Operand.const (Value.int IntKind.i64 0)), none⟩])
  .ret)))))))
theorem ir35_eq : (Try.f35.body.map low, Try.f35.ntmps, Try.f35.results.toList) = (some ir35, 70, [.tmp 6, .tmp 7]) := by kernel_rfl
def ir36_l0 : LC := (.seq (.block 2 (.seq (.seq (.ops [⟨some 21, Op.move (Operand.tmp 7), none⟩,
    ⟨some 22, Op.binOp BinOp.eql 3 (Operand.tmp 21) (Operand.const (Value.int IntKind.i64 32)) 3, none⟩])
  (.cond (Operand.tmp 22)
  (.exit 1)
  .skip))
  (.seq (.ops [⟨some 24, Op.move (Operand.tmp 0), none⟩,
    ⟨some 25, Op.move (Operand.tmp 1), none⟩,
    ⟨some 26, Op.move (Operand.tmp 7), none⟩,
    ⟨some 27, Op.call { callee := Callee.value (Operand.func 28), args := #[Operand.tmp 24, Operand.tmp 25, Operand.tmp 26], argTypes := #[23, 3, 3] }, none⟩,
    ⟨some 23, Op.move (Operand.tmp 27), none⟩,
    ⟨some 28, Op.extract (Operand.tmp 23) 0, none⟩,
    ⟨some 29, Op.extract (Operand.tmp 23) 1, none⟩,
    ⟨some 8, Op.alloc 34, none⟩,
    ⟨none, Op.store 34 (Operand.tmp 8) (Operand.tmp 28), none⟩,
    ⟨some 9, Op.assign (Operand.tmp 29), none⟩])
  (.seq (.ops [⟨some 30, Op.move (Operand.tmp 9), none⟩,
    ⟨some 31, Op.binOp BinOp.eql 42 (Operand.tmp 30) (Operand.const (Value.int IntKind.i64 0)) 42, none⟩])
  (.cond (Operand.tmp 31)
  (.ops [⟨some 32, Op.move (Operand.tmp 6), none⟩,
    ⟨some 33, Op.fieldAddr 34 (Operand.tmp 8) 0, none⟩,
    ⟨some 34, Op.load 3 (Operand.tmp 33), none⟩,
    ⟨some 35, Op.buildSlice 76 1 #[(0, Operand.tmp 34)], none⟩,
    ⟨some 36, Op.call { callee := Callee.builtin Builtin.append, args := #[Operand.tmp 32, Operand.tmp 35], argTypes := #[76, 76] }, none⟩,
    ⟨some 6, Op.assign (Operand.tmp 36), none⟩])
  .skip)))))
  (.ops [⟨some 19, Op.move (Operand.tmp 7), none⟩,
    ⟨some 20, Op.binOp BinOp.add 3 (Operand.tmp 19) (Operand.const (Value.int IntKind.i64 1)) 3, none⟩,
    ⟨some 7, Op.assign (Operand.tmp 20), none⟩]))
def ir36 : LC := (.seq (.ops [⟨some 4, Op.assign (Operand.const (Value.slice none 0 0)), none⟩,
    ⟨some 5, Op.assign (Operand.const (Value.int IntKind.i64 0)), none⟩])
  (.seq (.block 0 (.seq (.ops [⟨some 11, Op.move (Operand.tmp 0), none⟩,
    ⟨some 12, Op.call { callee := Callee.value (Operand.func 26), args := #[Operand.tmp 11], argTypes := #[23] }, none⟩,
    ⟨some 13, Op.unOp UnOp.not 4 (Operand.tmp 12), none⟩,
    ⟨some 10, Op.assign (Operand.tmp 13), none⟩])
  (.cond (Operand.tmp 10)
  (.seq (.ops [⟨some 4, Op.assign (Operand.const (Value.slice none 0 0)), none⟩,
    ⟨some 5, Op.assign (Operand.const (Value.int IntKind.i64 1)), none⟩])
  .ret)
  (.seq (.ops [⟨some 15, Op.move (Operand.tmp 1), none⟩,
    ⟨some 16, Op.buildSlice 76 1 #[(0, Operand.tmp 15)], none⟩,
    ⟨some 17, Op.call { callee := Callee.value (Operand.func 40), args := #[Operand.tmp 16], argTypes := #[76] }, none⟩,
    ⟨some 18, Op.unOp UnOp.not 4 (Operand.tmp 17), none⟩,
    ⟨some 14, Op.assign (Operand.tmp 18), none⟩])
  (.cond (Operand.tmp 14)
  (.seq (.ops [⟨some 4, Op.assign (Operand.const (Value.slice none 0 0)), none⟩,
    ⟨some 5, Op.assign (Operand.const (Value.int IntKind.i64 2)), none⟩])
  .ret)
  .skip)))))
  (.seq (.ops [⟨some 6, Op.assign (Operand.const (Value.slice none 0 0)), none⟩])
  (.seq .skip
  (.seq (.seq (.ops [⟨some 7, Op.assign (Operand.const (Value.int IntKind.i64 0)), none⟩])
  (.block 1 (.loop ir36_l0)))
  (.seq (.ops [⟨some 37, Op.move (Operand.tmp 6), none⟩,
    ⟨some 4, Op.assign (Operand.tmp 37), none⟩,
    ⟨some 5, Op.assign (Operand.const (Value.int IntKind.i64 0)), none⟩])
  .ret))))))
theorem ir36_eq : (Try.f36.body.map low, Try.f36.ntmps, Try.f36.results.toList) = (some ir36, 38, [.tmp 4, .tmp 5]) := by kernel_rfl
def ir37_l0 : LC := (.seq (.seq (.ops [⟨some 17, Op.move (Operand.tmp 8), none⟩,
    ⟨some 18, Op.move (Operand.tmp 7), none⟩,
    ⟨some 19, Op.call { callee := Callee.builtin Builtin.len, args := #[Operand.tmp 18], argTypes := #[76] }, none⟩,
    ⟨some 20, Op.binOp BinOp.lss 3 (Operand.tmp 17) (Operand.tmp 19) 3, none⟩])
  (.cond (Operand.tmp 20)
  .skip
  (.exit 0)))
  (.seq (.block 1 (.seq (.draw [⟨some 23, Op.move (Operand.tmp 6), none⟩,
    ⟨some 24, Op.move (Operand.tmp 0), none⟩,
    ⟨some 25, Op.move (Operand.tmp 1), none⟩,
    ⟨some 26, Op.move (Operand.tmp 7), none⟩,
    ⟨some 27, Op.move (Operand.tmp 8), none⟩,
    ⟨some 28, Op.indexAddr 76 (Operand.tmp 26) (Operand.tmp 27), none⟩,
    ⟨some 29, Op.load 3 (Operand.tmp 28), none⟩,
    ⟨some 30, Op.nilCheck (Operand.tmp 24), none⟩,
    ⟨some 31, Op.fieldAddr 87 (Operand.tmp 30) 0, none⟩,
    ⟨some 32, Op.indexAddr 85 (Operand.tmp 31) (Operand.tmp 25), none⟩,
    ⟨some 33, Op.indexAddr 84 (Operand.tmp 32) (Operand.tmp 29), none⟩,
    ⟨some 34, Op.fieldAddr 83 (Operand.tmp 33) 1, none⟩,
    ⟨some 35, Op.fieldAddr 34 (Operand.tmp 34) 0, none⟩,
    ⟨some 36, Op.load 3 (Operand.tmp 35), none⟩,
    ⟨some 37, Op.buildSlice 76 1 #[(0, Operand.tmp 36)], none⟩,
    ⟨some 38, Op.call { callee := Callee.builtin Builtin.append, args := #[Operand.tmp 23, Operand.tmp 37], argTypes := #[76, 76] }, none⟩,
    ⟨some 6, Op.assign (Operand.tmp 38), none⟩] [(0, 14)])
  (.draw [⟨some 39, Op.move (Operand.tmp 0), none⟩,
    ⟨some 40, Op.move (Operand.tmp 1), none⟩,
    ⟨some 41, Op.move (Operand.tmp 7), none⟩,
    ⟨some 42, Op.move (Operand.tmp 8), none⟩,
    ⟨some 43, Op.indexAddr 76 (Operand.tmp 41) (Operand.tmp 42), none⟩,
    ⟨some 44, Op.load 3 (Operand.tmp 43), none⟩,
    ⟨some 45, Op.build 83 #[], none⟩,
    ⟨some 46, Op.nilCheck (Operand.tmp 39), none⟩,
    ⟨some 47, Op.fieldAddr 87 (Operand.tmp 46) 0, none⟩,
    ⟨some 48, Op.indexAddr 85 (Operand.tmp 47) (Operand.tmp 40), none⟩,
    ⟨some 49, Op.indexAddr 84 (Operand.tmp 48) (Operand.tmp 44), none⟩,
    ⟨none, Op.store 83 (Operand.tmp 49) (Operand.tmp 45), none⟩] [])))
  (.ops [⟨some 21, Op.move (Operand.tmp 8), none⟩,
    ⟨some 22, Op.binOp BinOp.add 3 (Operand.tmp 21) (Operand.const (Value.int IntKind.i64 1)) 3, none⟩,
    ⟨some 8, Op.assign (Operand.tmp 22), none⟩])))
def ir37 : LC := (.seq (.ops [⟨some 4, Op.assign (Operand.const (Value.slice none 0 0)), none⟩,
    ⟨some 5, Op.assign (Operand.const (Value.int IntKind.i64 0)), none⟩])
  (.seq (.seq (.ops [⟨some 9, Op.move (Operand.tmp 0), none⟩,
    ⟨some 10, Op.binOp BinOp.eql 24 (Operand.tmp 9) (Operand.const (Value.pointer none)) 24, none⟩])
  (.cond (Operand.tmp 10)
  (.seq (.ops [⟨some 4, Op.assign (Operand.const (Value.slice none 0 0)), none⟩,
    ⟨some 5, Op.assign (Operand.const (Value.int IntKind.i64 1)), none⟩])
  .ret)
  .skip))
  (.seq (.seq (.ops [⟨some 11, Op.move (Operand.tmp 1), none⟩,
    ⟨some 12, Op.call { callee := Callee.value (Operand.func 50), args := #[Operand.tmp 11, Operand.const (Value.int IntKind.i64 0)], argTypes := #[3, 3] }, none⟩,
    ⟨some 13, Op.unOp UnOp.not 4 (Operand.tmp 12), none⟩])
  (.cond (Operand.tmp 13)
  (.seq (.ops [⟨some 4, Op.assign (Operand.const (Value.slice none 0 0)), none⟩,
    ⟨some 5, Op.assign (Operand.const (Value.int IntKind.i64 2)), none⟩])
  .ret)
  .skip))
  (.seq (.ops [⟨some 6, Op.assign (Operand.const (Value.slice none 0 0)), none⟩])
  (.seq (.ops [⟨some 14, Op.move (Operand.tmp 0), none⟩,
    ⟨some 15, Op.move (Operand.tmp 1), none⟩,
    ⟨some 16, Op.call { callee := Callee.value (Operand.func 52), args := #[Operand.tmp 14, Operand.tmp 15], argTypes := #[24, 3] }, none⟩,
    ⟨some 7, Op.assign (Operand.tmp 16), none⟩])
  (.seq (.seq (.ops [⟨some 8, Op.assign (Operand.const (Value.int IntKind.i64 0)), none⟩])
  (.block 0 (.loop ir37_l0)))
  (.seq (.ops [⟨some 50, Op.move (Operand.tmp 6), none⟩,
    ⟨some 4, Op.assign (Operand.tmp 50), none⟩,
    ⟨some 5, Op.assign (Operand.const (Value.int IntKind.i64 0)), none⟩])
  .ret)))))))
theorem ir37_eq : (Try.f37.body.map low, Try.f37.ntmps, Try.f37.results.toList) = (some ir37, 51, [.tmp 4, .tmp 5]) := by kernel_rfl
def ir38_l0 : LC := (.seq (.seq (.ops [⟨some 11, Op.move (Operand.tmp 5), none⟩,
    ⟨some 12, Op.move (Operand.tmp 0), none⟩,
    ⟨some 13, Op.call { callee := Callee.builtin Builtin.len, args := #[Operand.tmp 12], argTypes := #[76] }, none⟩,
    ⟨some 14, Op.binOp BinOp.lss 3 (Operand.tmp 11) (Operand.tmp 13) 3, none⟩])
  (.cond (Operand.tmp 14)
  .skip
  (.exit 0)))
  (.seq (.block 1 (.seq (.draw [⟨some 17, Op.move (Operand.tmp 0), none⟩,
    ⟨some 18, Op.move (Operand.tmp 5), none⟩,
    ⟨some 19, Op.indexAddr 76 (Operand.tmp 17) (Operand.tmp 18), none⟩,
    ⟨some 20, Op.load 3 (Operand.tmp 19), none⟩,
    ⟨some 21, Op.move (Operand.tmp 1), none⟩,
    ⟨some 22, Op.move (Operand.tmp 5), none⟩,
    ⟨some 23, Op.indexAddr 76 (Operand.tmp 21) (Operand.tmp 22), none⟩,
    ⟨some 24, Op.load 3 (Operand.tmp 23), none⟩,
    ⟨some 25, Op.binOp BinOp.neq 3 (Operand.tmp 20) (Operand.tmp 24) 3, none⟩] [])
  (.cond (Operand.tmp 25)
  (.seq (.ops [⟨some 4, Op.assign (Operand.const (Value.bool false)), none⟩])
  .ret)
  .skip)))
  (.ops [⟨some 15, Op.move (Operand.tmp 5), none⟩,
    ⟨some 16, Op.binOp BinOp.add 3 (Operand.tmp 15) (Operand.const (Value.int IntKind.i64 1)) 3, none⟩,
    ⟨some 5, Op.assign (Operand.tmp 16), none⟩])))
def ir38 : LC := (.seq (.ops [⟨some 4, Op.assign (Operand.const (Value.bool false)), none⟩])
  (.seq (.seq (.ops [⟨some 6, Op.move (Operand.tmp 0), none⟩,
    ⟨some 7, Op.call { callee := Callee.builtin Builtin.len, args := #[Operand.tmp 6], argTypes := #[76] }, none⟩,
    ⟨some 8, Op.move (Operand.tmp 1), none⟩,
    ⟨some 9, Op.call { callee := Callee.builtin Builtin.len, args := #[Operand.tmp 8], argTypes := #[76] }, none⟩,
    ⟨some 10, Op.binOp BinOp.neq 3 (Operand.tmp 7) (Operand.tmp 9) 3, none⟩])
  (.cond (Operand.tmp 10)
  (.seq (.ops [⟨some 4, Op.assign (Operand.const (Value.bool false)), none⟩])
  .ret)
  .skip))
  (.seq (.seq (.ops [⟨some 5, Op.assign (Operand.const (Value.int IntKind.i64 0)), none⟩])
  (.block 0 (.loop ir38_l0)))
  (.seq (.ops [⟨some 4, Op.assign (Operand.const (Value.bool true)), none⟩])
  .ret))))
theorem ir38_eq : (Try.f38.body.map low, Try.f38.ntmps, Try.f38.results.toList) = (some ir38, 26, [.tmp 4]) := by kernel_rfl
def ir39 : LC := (.seq (.ops [⟨some 8, Op.assign (Operand.const (Value.pointer none)), none⟩,
    ⟨some 9, Op.assign (Operand.const (Value.int IntKind.i64 0)), none⟩])
  (.seq (.ops [⟨some 13, Op.move (Operand.tmp 0), none⟩,
    ⟨some 14, Op.move (Operand.tmp 1), none⟩,
    ⟨some 15, Op.move (Operand.tmp 2), none⟩,
    ⟨some 16, Op.move (Operand.tmp 3), none⟩,
    ⟨some 17, Op.call { callee := Callee.value (Operand.func 48), args := #[Operand.tmp 13, Operand.tmp 14, Operand.tmp 15, Operand.tmp 16], argTypes := #[23, 3, 3, 3] }, none⟩,
    ⟨some 12, Op.move (Operand.tmp 17), none⟩,
    ⟨some 18, Op.extract (Operand.tmp 12) 0, none⟩,
    ⟨some 19, Op.extract (Operand.tmp 12) 1, none⟩,
    ⟨some 10, Op.assign (Operand.tmp 18), none⟩,
    ⟨some 11, Op.assign (Operand.tmp 19), none⟩])
  (.seq (.seq (.ops [⟨some 20, Op.move (Operand.tmp 11), none⟩,
    ⟨some 21, Op.binOp BinOp.eql 42 (Operand.tmp 20) (Operand.const (Value.int IntKind.i64 0)) 42, none⟩,
    ⟨some 22, Op.move (Operand.tmp 21), none⟩,
    ⟨some 23, Op.move (Operand.tmp 10), some (22, true)⟩,
    ⟨some 24, Op.nilCheck (Operand.tmp 23), some (22, true)⟩,
    ⟨some 25, Op.fieldAddr 59 (Operand.tmp 24) 0, some (22, true)⟩,
    ⟨some 26, Op.load 4 (Operand.tmp 25), some (22, true)⟩,
    ⟨some 27, Op.unOp UnOp.not 4 (Operand.tmp 26), some (22, true)⟩,
    ⟨some 28, Op.pick (Operand.tmp 22) (Operand.tmp 27) (Operand.const (Value.bool false)), none⟩])
  (.cond (Operand.tmp 28)
  (.seq (.ops [⟨some 8, Op.assign (Operand.const (Value.pointer none)), none⟩,
    ⟨some 9, Op.assign (Operand.const (Value.int IntKind.i64 6)), none⟩])
  .ret)
  .skip))
  (.seq (.ops [⟨some 29, Op.move (Operand.tmp 10), none⟩,
    ⟨some 30, Op.move (Operand.tmp 11), none⟩,
    ⟨some 8, Op.assign (Operand.tmp 29), none⟩,
    ⟨some 9, Op.assign (Operand.tmp 30), none⟩])
  .ret))))
theorem ir39_eq : (Try.f39.body.map low, Try.f39.ntmps, Try.f39.results.toList) = (some ir39, 31, [.tmp 8, .tmp 9]) := by kernel_rfl
def ir40 : LC := (.seq (.ops [⟨some 2, Op.assign (Operand.const (Value.bool false)), none⟩])
  (.seq (.ops [⟨some 3, Op.move (Operand.tmp 0), none⟩,
    ⟨some 4, Op.call { callee := Callee.value (Operand.func 53), args := #[Operand.tmp 3, Operand.func 54], argTypes := #[76, 103] }, none⟩,
    ⟨some 5, Op.unOp UnOp.not 4 (Operand.tmp 4), none⟩,
    ⟨some 2, Op.assign (Operand.tmp 5), none⟩])
  .ret))
theorem ir40_eq : (Try.f40.body.map low, Try.f40.ntmps, Try.f40.results.toList) = (some ir40, 6, [.tmp 2]) := by kernel_rfl
def ir43 : LC := (.seq (.ops [⟨some 6, Op.alloc 34, none⟩,
    ⟨some 7, Op.assign (Operand.const (Value.bool false)), none⟩])
  (.seq (.seq (.ops [⟨some 8, Op.move (Operand.tmp 0), none⟩,
    ⟨some 9, Op.move (Operand.tmp 1), none⟩,
    ⟨some 10, Op.move (Operand.tmp 2), none⟩,
    ⟨some 11, Op.call { callee := Callee.value (Operand.func 51), args := #[Operand.tmp 8, Operand.tmp 9, Operand.tmp 10, Operand.const (Value.int IntKind.i64 0)], argTypes := #[24, 3, 3, 3] }, none⟩,
    ⟨some 12, Op.binOp BinOp.neq 3 (Operand.tmp 11) (Operand.const (Value.int IntKind.i64 0)) 3, none⟩])
  (.cond (Operand.tmp 12)
  (.seq (.ops [⟨some 13, Op.build 34 #[], none⟩,
    ⟨none, Op.store 34 (Operand.tmp 6) (Operand.tmp 13), none⟩,
    ⟨some 7, Op.assign (Operand.const (Value.bool false)), none⟩])
  .ret)
  .skip))
  (.seq (.ops [⟨some 14, Op.move (Operand.tmp 0), none⟩,
    ⟨some 15, Op.move (Operand.tmp 1), none⟩,
    ⟨some 16, Op.move (Operand.tmp 2), none⟩,
    ⟨some 17, Op.nilCheck (Operand.tmp 14), none⟩,
    ⟨some 18, Op.fieldAddr 87 (Operand.tmp 17) 0, none⟩,
    ⟨some 19, Op.indexAddr 85 (Operand.tmp 18) (Operand.tmp 15), none⟩,
    ⟨some 20, Op.indexAddr 84 (Operand.tmp 19) (Operand.tmp 16), none⟩,
    ⟨some 21, Op.fieldAddr 83 (Operand.tmp 20) 1, none⟩,
    ⟨some 22, Op.load 34 (Operand.tmp 21), none⟩,
    ⟨none, Op.store 34 (Operand.tmp 6) (Operand.tmp 22), none⟩,
    ⟨some 7, Op.assign (Operand.const (Value.bool true)), none⟩])
  .ret)))
theorem ir43_eq : (Try.f43.body.map low, Try.f43.ntmps, Try.f43.results.toList) = (some ir43, 23, [.cell 6 34, .tmp 7]) := by kernel_rfl
noncomputable def rc44 (i : Nat) : Code × Code := (((Try.f44.body.map rangesOf).getD [])[i]?).getD (.skip, .skip)
noncomputable def ir44_l0 : LC := (.seq (.seq (.ops [⟨some 25, Op.load 3 (Operand.tmp 11), none⟩,
    ⟨some 26, Op.binOp BinOp.lss 3 (Operand.tmp 25) (Operand.const (Value.int IntKind.i64 2)) 3, none⟩])
  (.cond (Operand.tmp 26)
  .skip
  (.exit 0)))
  (.seq (.block 1 (.seq (.ops [⟨some 12, Op.alloc 3, none⟩,
    ⟨none, Op.store 3 (Operand.tmp 12) (Operand.const (Value.int IntKind.i64 0)), none⟩])
  (.seq (.seq (.ops [⟨some 29, Op.move (Operand.tmp 9), none⟩])
  (.block 2 (.range (Operand.tmp 29) #[30, 31] (rc44 0).1 (rc44 0).2)))
  (.seq (.ops [⟨some 63, Op.load 3 (Operand.tmp 11), none⟩,
    ⟨some 64, Op.binOp BinOp.eql 3 (Operand.tmp 63) (Operand.const (Value.int IntKind.i64 1)) 3, none⟩,
    ⟨some 65, Op.move (Operand.tmp 64), none⟩,
    ⟨some 66, Op.load 3 (Operand.tmp 12), some (65, true)⟩,
    ⟨some 67, Op.load 76 (Operand.tmp 10), some (65, true)⟩,
    ⟨some 68, Op.call { callee := Callee.builtin Builtin.len, args := #[Operand.tmp 67], argTypes := #[76] }, some (65, true)⟩,
    ⟨some 69, Op.binOp BinOp.neq 3 (Operand.tmp 66) (Operand.tmp 68) 3, some (65, true)⟩,
    ⟨some 70, Op.pick (Operand.tmp 65) (Operand.tmp 69) (Operand.const (Value.bool false)), none⟩,
    ⟨some 71, Op.move (Operand.tmp 70), none⟩,
    ⟨some 72, Op.load 3 (Operand.tmp 11), some (71, false)⟩,
    ⟨some 73, Op.binOp BinOp.eql 3 (Operand.tmp 72) (Operand.const (Value.int IntKind.i64 0)) 3, some (71, false)⟩,
    ⟨some 74, Op.move (Operand.tmp 73), some (71, false)⟩,
    ⟨some 75, Op.load 3 (Operand.tmp 12), some (74, true)⟩,
    ⟨some 76, Op.load 76 (Operand.tmp 10), some (74, true)⟩,
    ⟨some 77, Op.call { callee := Callee.builtin Builtin.len, args := #[Operand.tmp 76], argTypes := #[76] }, some (74, true)⟩,
    ⟨some 78, Op.binOp BinOp.neq 3 (Operand.tmp 75) (Operand.tmp 77) 3, some (74, true)⟩,
    ⟨some 79, Op.pick (Operand.tmp 74) (Operand.tmp 78) (Operand.const (Value.bool false)), some (71, false)⟩,
    ⟨some 80, Op.move (Operand.tmp 79), some (71, false)⟩,
    ⟨some 81, Op.load 3 (Operand.tmp 12), some (80, true)⟩,
    ⟨some 82, Op.load 3 (Operand.tmp 7), some (80, true)⟩,
    ⟨some 83, Op.binOp BinOp.neq 3 (Operand.tmp 81) (Operand.tmp 82) 3, some (80, true)⟩,
    ⟨some 84, Op.pick (Operand.tmp 80) (Operand.tmp 83) (Operand.const (Value.bool false)), some (71, false)⟩,
    ⟨some 85, Op.pick (Operand.tmp 71) (Operand.const (Value.bool true)) (Operand.tmp 84), none⟩])
  (.cond (Operand.tmp 85)
  (.seq (.ops [⟨none, Op.store 4 (Operand.tmp 8) (Operand.const (Value.bool false)), none⟩])
  .ret)
  .skip)))))
  (.seq (.seq (.ops [⟨some 86, Op.load 3 (Operand.tmp 11), none⟩])
  (.ops [⟨some 11, Op.alloc 3, none⟩,
    ⟨none, Op.store 3 (Operand.tmp 11) (Operand.tmp 86), none⟩]))
  (.ops [⟨some 27, Op.load 3 (Operand.tmp 11), none⟩,
    ⟨some 28, Op.binOp BinOp.add 3 (Operand.tmp 27) (Operand.const (Value.int IntKind.i64 1)) 3, none⟩,
    ⟨none, Op.store 3 (Operand.tmp 11) (Operand.tmp 28), none⟩]))))
noncomputable def ir44_a0 : LC := (.seq (.ops [⟨some 13, Op.assign (Operand.tmp 30), none⟩])
  (.ops [⟨some 14, Op.alloc 34, none⟩,
    ⟨none, Op.store 34 (Operand.tmp 14) (Operand.tmp 31), none⟩]))
noncomputable def ir44_b0 : LC := (.block 3 (.seq (.seq (.ops [⟨some 32, Op.load 3 (Operand.tmp 12), none⟩,
    ⟨some 33, Op.load 76 (Operand.tmp 10), none⟩,
    ⟨some 34, Op.call { callee := Callee.builtin Builtin.len, args := #[Operand.tmp 33], argTypes := #[76] }, none⟩,
    ⟨some 35, Op.binOp BinOp.geq 3 (Operand.tmp 32) (Operand.tmp 34) 3, none⟩,
    ⟨some 36, Op.move (Operand.tmp 35), none⟩,
    ⟨some 37, Op.move (Operand.tmp 13), some (36, false)⟩,
    ⟨some 38, Op.load 76 (Operand.tmp 10), some (36, false)⟩,
    ⟨some 39, Op.load 3 (Operand.tmp 12), some (36, false)⟩,
    ⟨some 40, Op.indexAddr 76 (Operand.tmp 38) (Operand.tmp 39), some (36, false)⟩,
    ⟨some 41, Op.load 3 (Operand.tmp 40), some (36, false)⟩,
    ⟨some 42, Op.binOp BinOp.neq 3 (Operand.tmp 37) (Operand.tmp 41) 3, some (36, false)⟩,
    ⟨some 43, Op.pick (Operand.tmp 36) (Operand.const (Value.bool true)) (Operand.tmp 42), none⟩])
  (.cond (Operand.tmp 43)
  (.seq (.ops [⟨none, Op.store 4 (Operand.tmp 8) (Operand.const (Value.bool false)), none⟩])
  .ret)
  .skip))
  (.seq (.ops [⟨some 45, Op.load 24 (Operand.tmp 5), none⟩,
    ⟨some 46, Op.load 3 (Operand.tmp 6), none⟩,
    ⟨some 47, Op.move (Operand.tmp 13), none⟩,
    ⟨some 48, Op.call { callee := Callee.value (Operand.func 43), args := #[Operand.tmp 45, Operand.tmp 46, Operand.tmp 47], argTypes := #[24, 3, 3] }, none⟩,
    ⟨some 44, Op.move (Operand.tmp 48), none⟩,
    ⟨some 49, Op.extract (Operand.tmp 44) 0, none⟩,
    ⟨some 50, Op.extract (Operand.tmp 44) 1, none⟩,
    ⟨some 15, Op.alloc 34, none⟩,
    ⟨none, Op.store 34 (Operand.tmp 15) (Operand.tmp 49), none⟩,
    ⟨some 16, Op.assign (Operand.tmp 50), none⟩])
  (.seq (.seq (.ops [⟨some 51, Op.load 34 (Operand.tmp 14), none⟩,
    ⟨some 52, Op.load 34 (Operand.tmp 15), none⟩,
    ⟨some 53, Op.binOp BinOp.neq 34 (Operand.tmp 51) (Operand.tmp 52) 34, none⟩])
  (.cond (Operand.tmp 53)
  (.seq (.ops [⟨none, Op.store 4 (Operand.tmp 8) (Operand.const (Value.bool false)), none⟩])
  .ret)
  .skip))
  (.seq (.ops [⟨some 54, Op.load 3 (Operand.tmp 12), none⟩,
    ⟨some 55, Op.binOp BinOp.add 3 (Operand.tmp 54) (Operand.const (Value.int IntKind.i64 1)) 3, none⟩,
    ⟨none, Op.store 3 (Operand.tmp 12) (Operand.tmp 55), none⟩])
  (.seq (.ops [⟨some 56, Op.load 3 (Operand.tmp 11), none⟩,
    ⟨some 57, Op.binOp BinOp.eql 3 (Operand.tmp 56) (Operand.const (Value.int IntKind.i64 0)) 3, none⟩,
    ⟨some 58, Op.move (Operand.tmp 57), none⟩,
    ⟨some 59, Op.load 3 (Operand.tmp 12), some (58, true)⟩,
    ⟨some 60, Op.load 3 (Operand.tmp 7), some (58, true)⟩,
    ⟨some 61, Op.binOp BinOp.eql 3 (Operand.tmp 59) (Operand.tmp 60) 3, some (58, true)⟩,
    ⟨some 62, Op.pick (Operand.tmp 58) (Operand.tmp 61) (Operand.const (Value.bool false)), none⟩])
  (.cond (Operand.tmp 62)
  (.exit 2)
  .skip)))))))
theorem ir44_a0_eq : low (rc44 0).1 = ir44_a0 := by kernel_rfl
theorem ir44_b0_eq : low (rc44 0).2 = ir44_b0 := by kernel_rfl
noncomputable def ir44 : LC := (.seq (.ops [⟨some 5, Op.box 24 (Operand.tmp 1), none⟩,
    ⟨some 6, Op.box 3 (Operand.tmp 2), none⟩,
    ⟨some 7, Op.box 3 (Operand.tmp 3), none⟩,
    ⟨some 8, Op.alloc 4, none⟩])
  (.seq (.draw [⟨some 17, Op.move (Operand.tmp 0), none⟩,
    ⟨some 18, Op.load 3 (Operand.tmp 6), none⟩,
    ⟨some 19, Op.call { callee := Callee.value (Operand.func 49), args := #[Operand.tmp 17, Operand.tmp 18], argTypes := #[23, 3] }, none⟩,
    ⟨some 20, Op.load 24 (Operand.tmp 5), none⟩,
    ⟨some 21, Op.load 3 (Operand.tmp 6), none⟩,
    ⟨some 22, Op.call { callee := Callee.value (Operand.func 52), args := #[Operand.tmp 20, Operand.tmp 21], argTypes := #[24, 3] }, none⟩,
    ⟨some 10, Op.alloc 76, none⟩,
    ⟨some 9, Op.assign (Operand.tmp 19), none⟩,
    ⟨none, Op.store 76 (Operand.tmp 10) (Operand.tmp 22), none⟩] [(2, 3), (2, 4), (0, 6), (1, 6), (2, 6), (3, 6), (4, 6), (5, 6)])
  (.seq (.seq (.ops [⟨some 23, Op.move (Operand.tmp 9), none⟩,
    ⟨some 24, Op.binOp BinOp.eql 98 (Operand.tmp 23) (Operand.const Value.nilFunc) 98, none⟩])
  (.cond (Operand.tmp 24)
  (.seq (.ops [⟨none, Op.store 4 (Operand.tmp 8) (Operand.const (Value.bool false)), none⟩])
  .ret)
  .skip))
  (.seq (.seq (.ops [⟨some 11, Op.alloc 3, none⟩,
    ⟨none, Op.store 3 (Operand.tmp 11) (Operand.const (Value.int IntKind.i64 0)), none⟩])
  (.block 0 (.loop ir44_l0)))
  (.seq (.ops [⟨none, Op.store 4 (Operand.tmp 8) (Operand.const (Value.bool true)), none⟩])
  .ret)))))
theorem ir44_eq : (Try.f44.body.map low, Try.f44.ntmps, Try.f44.results.toList) = (some ir44, 87, [.cell 8 4]) := by kernel_rfl
def ir45_l0 : LC := (.seq (.seq (.ops [⟨some 16, Op.move (Operand.tmp 7), none⟩,
    ⟨some 17, Op.binOp BinOp.lss 3 (Operand.tmp 16) (Operand.const (Value.int IntKind.i64 32)) 3, none⟩])
  (.cond (Operand.tmp 17)
  .skip
  (.exit 2)))
  (.seq (.block 3 (.seq (.ops [⟨some 20, Op.move (Operand.tmp 0), none⟩,
    ⟨some 21, Op.move (Operand.tmp 6), none⟩,
    ⟨some 22, Op.move (Operand.tmp 7), none⟩,
    ⟨some 23, Op.nilCheck (Operand.tmp 20), none⟩,
    ⟨some 24, Op.fieldAddr 87 (Operand.tmp 23) 0, none⟩,
    ⟨some 25, Op.indexAddr 85 (Operand.tmp 24) (Operand.tmp 21), none⟩,
    ⟨some 26, Op.indexAddr 84 (Operand.tmp 25) (Operand.tmp 22), none⟩,
    ⟨some 27, Op.fieldAddr 83 (Operand.tmp 26) 0, none⟩,
    ⟨some 28, Op.load 4 (Operand.tmp 27), none⟩,
    ⟨some 29, Op.move (Operand.tmp 28), none⟩,
    ⟨some 30, Op.move (Operand.tmp 0), some (29, true)⟩,
    ⟨some 31, Op.move (Operand.tmp 6), some (29, true)⟩,
    ⟨some 32, Op.move (Operand.tmp 7), some (29, true)⟩,
    ⟨some 33, Op.nilCheck (Operand.tmp 30), some (29, true)⟩,
    ⟨some 34, Op.fieldAddr 87 (Operand.tmp 33) 0, some (29, true)⟩,
    ⟨some 35, Op.indexAddr 85 (Operand.tmp 34) (Operand.tmp 31), some (29, true)⟩,
    ⟨some 36, Op.indexAddr 84 (Operand.tmp 35) (Operand.tmp 32), some (29, true)⟩,
    ⟨some 37, Op.fieldAddr 83 (Operand.tmp 36) 1, some (29, true)⟩,
    ⟨some 38, Op.fieldAddr 34 (Operand.tmp 37) 0, some (29, true)⟩,
    ⟨some 39, Op.load 3 (Operand.tmp 38), some (29, true)⟩,
    ⟨some 40, Op.move (Operand.tmp 1), some (29, true)⟩,
    ⟨some 41, Op.binOp BinOp.eql 3 (Operand.tmp 39) (Operand.tmp 40) 3, some (29, true)⟩,
    ⟨some 42, Op.pick (Operand.tmp 29) (Operand.tmp 41) (Operand.const (Value.bool false)), none⟩])
  (.cond (Operand.tmp 42)
  (.ops [⟨some 43, Op.move (Operand.tmp 5), none⟩,
    ⟨some 44, Op.move (Operand.tmp 6), none⟩,
    ⟨some 45, Op.move (Operand.tmp 7), none⟩,
    ⟨some 46, Op.build 50 #[(0, Operand.tmp 44), (1, Operand.tmp 45)], none⟩,
    ⟨some 47, Op.buildSlice 46 1 #[(0, Operand.tmp 46)], none⟩,
    ⟨some 48, Op.call { callee := Callee.builtin Builtin.append, args := #[Operand.tmp 43, Operand.tmp 47], argTypes := #[46, 46] }, none⟩,
    ⟨some 5, Op.assign (Operand.tmp 48), none⟩])
  .skip)))
  (.ops [⟨some 18, Op.move (Operand.tmp 7), none⟩,
    ⟨some 19, Op.binOp BinOp.add 3 (Operand.tmp 18) (Operand.const (Value.int IntKind.i64 1)) 3, none⟩,
    ⟨some 7, Op.assign (Operand.tmp 19), none⟩])))
def ir45_l1 : LC := (.seq (.seq (.ops [⟨some 8, Op.move (Operand.tmp 6), none⟩,
    ⟨some 9, Op.binOp BinOp.lss 3 (Operand.tmp 8) (Operand.const (Value.int IntKind.i64 16)) 3, none⟩,
    ⟨some 10, Op.move (Operand.tmp 9), none⟩,
    ⟨some 11, Op.move (Operand.tmp 0), some (10, true)⟩,
    ⟨some 12, Op.binOp BinOp.neq 24 (Operand.tmp 11) (Operand.const (Value.pointer none)) 24, some (10, true)⟩,
    ⟨some 13, Op.pick (Operand.tmp 10) (Operand.tmp 12) (Operand.const (Value.bool false)), none⟩])
  (.cond (Operand.tmp 13)
  .skip
  (.exit 0)))
  (.seq (.block 1 (.seq (.ops [⟨some 7, Op.assign (Operand.const (Value.int IntKind.i64 0)), none⟩])
  (.block 2 (.loop ir45_l0))))
  (.ops [⟨some 14, Op.move (Operand.tmp 6), none⟩,
    ⟨some 15, Op.binOp BinOp.add 3 (Operand.tmp 14) (Operand.const (Value.int IntKind.i64 1)) 3, none⟩,
    ⟨some 6, Op.assign (Operand.tmp 15), none⟩])))
def ir45 : LC := (.seq (.ops [⟨some 4, Op.assign (Operand.const (Value.slice none 0 0)), none⟩])
  (.seq (.ops [⟨some 5, Op.assign (Operand.const (Value.slice none 0 0)), none⟩])
  (.seq (.seq (.ops [⟨some 6, Op.assign (Operand.const (Value.int IntKind.i64 0)), none⟩])
  (.block 0 (.loop ir45_l1)))
  (.seq (.ops [⟨some 49, Op.move (Operand.tmp 5), none⟩,
    ⟨some 4, Op.assign (Operand.tmp 49), none⟩])
  .ret))))
theorem ir45_eq : (Try.f45.body.map low, Try.f45.ntmps, Try.f45.results.toList) = (some ir45, 50, [.tmp 4]) := by kernel_rfl
noncomputable def rc46 (i : Nat) : Code × Code := (((Try.f46.body.map rangesOf).getD [])[i]?).getD (.skip, .skip)
noncomputable def ir46_l0 : LC := (.seq (.ops [⟨some 6, Op.binOp BinOp.lss 3 (Operand.tmp 5) (Operand.const (Value.int IntKind.i64 16)) 3, none⟩])
  (.seq (.cond (Operand.tmp 6)
  .skip
  (.exit 0))
  (.seq (.block 1 (.seq (.ops [⟨some 7, Op.move (Operand.tmp 5), none⟩,
    ⟨some 4, Op.alloc 3, none⟩,
    ⟨none, Op.store 3 (Operand.tmp 4) (Operand.tmp 7), none⟩])
  (.seq (.ops [⟨some 8, Op.move (Operand.tmp 0), none⟩,
    ⟨some 9, Op.load 3 (Operand.tmp 4), none⟩,
    ⟨some 10, Op.call { callee := Callee.value (Operand.func 49), args := #[Operand.tmp 8, Operand.tmp 9], argTypes := #[23, 3] }, none⟩])
  (.block 2 (.range (Operand.tmp 10) #[11, 12] (rc46 0).1 (rc46 0).2)))))
  (.ops [⟨some 17, Op.binOp BinOp.add 3 (Operand.tmp 5) (Operand.const (Value.int IntKind.i64 1)) 3, none⟩,
    ⟨some 5, Op.move (Operand.tmp 17), none⟩]))))
noncomputable def ir46_a0 : LC := .skip
noncomputable def ir46_b0 : LC := (.block 3 (.seq (.ops [⟨some 13, Op.load 76 (Operand.tmp 3), none⟩,
    ⟨some 14, Op.load 3 (Operand.tmp 4), none⟩,
    ⟨some 15, Op.buildSlice 76 1 #[(0, Operand.tmp 14)], none⟩,
    ⟨some 16, Op.call { callee := Callee.builtin Builtin.append, args := #[Operand.tmp 13, Operand.tmp 15], argTypes := #[76, 76] }, none⟩,
    ⟨none, Op.store 76 (Operand.tmp 3) (Operand.tmp 16), none⟩])
  (.exit 2)))
theorem ir46_a0_eq : low (rc46 0).1 = ir46_a0 := by kernel_rfl
theorem ir46_b0_eq : low (rc46 0).2 = ir46_b0 := by kernel_rfl
noncomputable def ir46 : LC := (.seq (.ops [⟨some 2, Op.assign (Operand.const (Value.slice none 0 0)), none⟩])
  (.seq (.ops [⟨some 3, Op.alloc 76, none⟩])
  (.seq (.seq (.ops [⟨some 5, Op.move (Operand.const (Value.int IntKind.i64 0)), none⟩])
  (.block 0 (.loop ir46_l0)))
  (.seq (.ops [⟨some 18, Op.load 76 (Operand.tmp 3), none⟩,
    ⟨some 2, Op.assign (Operand.tmp 18), none⟩])
  .ret))))
theorem ir46_eq : (Try.f46.body.map low, Try.f46.ntmps, Try.f46.results.toList) = (some ir46, 19, [.tmp 2]) := by kernel_rfl
def ir47_l0 : LC := (.seq (.seq (.ops [⟨some 5, Op.move (Operand.tmp 4), none⟩,
    ⟨some 6, Op.binOp BinOp.lss 3 (Operand.tmp 5) (Operand.const (Value.int IntKind.i64 16)) 3, none⟩])
  (.cond (Operand.tmp 6)
  .skip
  (.exit 0)))
  (.seq (.block 1 (.seq (.ops [⟨some 9, Op.move (Operand.tmp 0), none⟩,
    ⟨some 10, Op.move (Operand.tmp 4), none⟩,
    ⟨some 11, Op.call { callee := Callee.value (Operand.func 52), args := #[Operand.tmp 9, Operand.tmp 10], argTypes := #[24, 3] }, none⟩,
    ⟨some 12, Op.call { callee := Callee.builtin Builtin.len, args := #[Operand.tmp 11], argTypes := #[76] }, none⟩,
    ⟨some 13, Op.binOp BinOp.gtr 3 (Operand.tmp 12) (Operand.const (Value.int IntKind.i64 0)) 3, none⟩])
  (.cond (Operand.tmp 13)
  (.ops [⟨some 14, Op.move (Operand.tmp 3), none⟩,
    ⟨some 15, Op.move (Operand.tmp 4), none⟩,
    ⟨some 16, Op.buildSlice 76 1 #[(0, Operand.tmp 15)], none⟩,
    ⟨some 17, Op.call { callee := Callee.builtin Builtin.append, args := #[Operand.tmp 14, Operand.tmp 16], argTypes := #[76, 76] }, none⟩,
    ⟨some 3, Op.assign (Operand.tmp 17), none⟩])
  .skip)))
  (.ops [⟨some 7, Op.move (Operand.tmp 4), none⟩,
    ⟨some 8, Op.binOp BinOp.add 3 (Operand.tmp 7) (Operand.const (Value.int IntKind.i64 1)) 3, none⟩,
    ⟨some 4, Op.assign (Operand.tmp 8), none⟩])))
def ir47 : LC := (.seq (.ops [⟨some 2, Op.assign (Operand.const (Value.slice none 0 0)), none⟩])
  (.seq (.ops [⟨some 3, Op.assign (Operand.const (Value.slice none 0 0)), none⟩])
  (.seq (.seq (.ops [⟨some 4, Op.assign (Operand.const (Value.int IntKind.i64 0)), none⟩])
  (.block 0 (.loop ir47_l0)))
  (.seq (.ops [⟨some 18, Op.move (Operand.tmp 3), none⟩,
    ⟨some 2, Op.assign (Operand.tmp 18), none⟩])
  .ret))))
theorem ir47_eq : (Try.f47.body.map low, Try.f47.ntmps, Try.f47.results.toList) = (some ir47, 19, [.tmp 2]) := by kernel_rfl
def ir48 : LC := (.seq (.ops [⟨some 8, Op.assign (Operand.const (Value.pointer none)), none⟩,
    ⟨some 9, Op.assign (Operand.const (Value.int IntKind.i64 0)), none⟩])
  (.seq (.block 0 (.seq (.ops [⟨some 11, Op.move (Operand.tmp 0), none⟩,
    ⟨some 12, Op.call { callee := Callee.value (Operand.func 26), args := #[Operand.tmp 11], argTypes := #[23] }, none⟩,
    ⟨some 13, Op.unOp UnOp.not 4 (Operand.tmp 12), none⟩,
    ⟨some 10, Op.assign (Operand.tmp 13), none⟩])
  (.cond (Operand.tmp 10)
  (.seq (.ops [⟨some 8, Op.assign (Operand.const (Value.pointer none)), none⟩,
    ⟨some 9, Op.assign (Operand.const (Value.int IntKind.i64 1)), none⟩])
  .ret)
  (.seq (.ops [⟨some 15, Op.move (Operand.tmp 1), none⟩,
    ⟨some 16, Op.buildSlice 76 1 #[(0, Operand.tmp 15)], none⟩,
    ⟨some 17, Op.call { callee := Callee.value (Operand.func 40), args := #[Operand.tmp 16], argTypes := #[76] }, none⟩,
    ⟨some 18, Op.unOp UnOp.not 4 (Operand.tmp 17), none⟩,
    ⟨some 19, Op.move (Operand.tmp 18), none⟩,
    ⟨some 20, Op.move (Operand.tmp 2), some (19, false)⟩,
    ⟨some 21, Op.binOp BinOp.lss 3 (Operand.tmp 20) (Operand.const (Value.int IntKind.i64 0)) 3, some (19, false)⟩,
    ⟨some 22, Op.pick (Operand.tmp 19) (Operand.const (Value.bool true)) (Operand.tmp 21), none⟩,
    ⟨some 23, Op.move (Operand.tmp 22), none⟩,
    ⟨some 24, Op.move (Operand.tmp 2), some (23, false)⟩,
    ⟨some 25, Op.binOp BinOp.geq 3 (Operand.tmp 24) (Operand.const (Value.int IntKind.i64 32)) 3, some (23, false)⟩,
    ⟨some 26, Op.pick (Operand.tmp 23) (Operand.const (Value.bool true)) (Operand.tmp 25), none⟩,
    ⟨some 27, Op.move (Operand.tmp 26), none⟩,
    ⟨some 28, Op.move (Operand.tmp 3), some (27, false)⟩,
    ⟨some 29, Op.binOp BinOp.lss 3 (Operand.tmp 28) (Operand.const (Value.int IntKind.i64 0)) 3, some (27, false)⟩,
    ⟨some 30, Op.pick (Operand.tmp 27) (Operand.const (Value.bool true)) (Operand.tmp 29), none⟩,
    ⟨some 31, Op.move (Operand.tmp 30), none⟩,
    ⟨some 32, Op.move (Operand.tmp 3), some (31, false)⟩,
    ⟨some 33, Op.binOp BinOp.gtr 3 (Operand.tmp 32) (Operand.const (Value.int IntKind.i64 7)) 3, some (31, false)⟩,
    ⟨some 34, Op.pick (Operand.tmp 31) (Operand.const (Value.bool true)) (Operand.tmp 33), none⟩,
    ⟨some 14, Op.assign (Operand.tmp 34), none⟩])
  (.cond (Operand.tmp 14)
  (.seq (.ops [⟨some 8, Op.assign (Operand.const (Value.pointer none)), none⟩,
    ⟨some 9, Op.assign (Operand.const (Value.int IntKind.i64 2)), none⟩])
  .ret)
  .skip)))))
  (.seq (.ops [⟨some 35, Op.move (Operand.tmp 0), none⟩,
    ⟨some 36, Op.move (Operand.tmp 1), none⟩,
    ⟨some 37, Op.move (Operand.tmp 2), none⟩,
    ⟨some 38, Op.nilCheck (Operand.tmp 35), none⟩,
    ⟨some 39, Op.fieldAddr 64 (Operand.tmp 38) 0, none⟩,
    ⟨some 40, Op.indexAddr 61 (Operand.tmp 39) (Operand.tmp 36), none⟩,
    ⟨some 41, Op.indexAddr 60 (Operand.tmp 40) (Operand.tmp 37), none⟩,
    ⟨some 8, Op.assign (Operand.tmp 41), none⟩,
    ⟨some 9, Op.assign (Operand.const (Value.int IntKind.i64 0)), none⟩])
  .ret)))
theorem ir48_eq : (Try.f48.body.map low, Try.f48.ntmps, Try.f48.results.toList) = (some ir48, 42, [.tmp 8, .tmp 9]) := by kernel_rfl
def ir49 : LC := (.seq (.ops [⟨some 2, Op.box 23 (Operand.tmp 0), none⟩,
    ⟨some 3, Op.box 3 (Operand.tmp 1), none⟩,
    ⟨some 4, Op.assign (Operand.const Value.nilFunc), none⟩])
  (.seq (.ops [⟨some 5, Op.makeFunc (Fn.func 57) #[] #[Operand.tmp 2, Operand.tmp 3], none⟩,
    ⟨some 4, Op.assign (Operand.tmp 5), none⟩])
  .ret))
theorem ir49_eq : (Try.f49.body.map low, Try.f49.ntmps, Try.f49.results.toList) = (some ir49, 6, [.tmp 4]) := by kernel_rfl
def ir50 : LC := (.seq (.ops [⟨some 4, Op.assign (Operand.const (Value.bool false)), none⟩])
  (.seq (.ops [⟨some 5, Op.move (Operand.tmp 0), none⟩,
    ⟨some 6, Op.binOp BinOp.geq 3 (Operand.tmp 5) (Operand.const (Value.int IntKind.i64 0)) 3, none⟩,
    ⟨some 7, Op.move (Operand.tmp 6), none⟩,
    ⟨some 8, Op.move (Operand.tmp 0), some (7, true)⟩,
    ⟨some 9, Op.binOp BinOp.lss 3 (Operand.tmp 8) (Operand.const (Value.int IntKind.i64 16)) 3, some (7, true)⟩,
    ⟨some 10, Op.pick (Operand.tmp 7) (Operand.tmp 9) (Operand.const (Value.bool false)), none⟩,
    ⟨some 11, Op.move (Operand.tmp 10), none⟩,
    ⟨some 12, Op.move (Operand.tmp 1), some (11, true)⟩,
    ⟨some 13, Op.binOp BinOp.geq 3 (Operand.tmp 12) (Operand.const (Value.int IntKind.i64 0)) 3, some (11, true)⟩,
    ⟨some 14, Op.pick (Operand.tmp 11) (Operand.tmp 13) (Operand.const (Value.bool false)), none⟩,
    ⟨some 15, Op.move (Operand.tmp 14), none⟩,
    ⟨some 16, Op.move (Operand.tmp 1), some (15, true)⟩,
    ⟨some 17, Op.binOp BinOp.lss 3 (Operand.tmp 16) (Operand.const (Value.int IntKind.i64 32)) 3, some (15, true)⟩,
    ⟨some 18, Op.pick (Operand.tmp 15) (Operand.tmp 17) (Operand.const (Value.bool false)), none⟩,
    ⟨some 4, Op.assign (Operand.tmp 18), none⟩])
  .ret))
theorem ir50_eq : (Try.f50.body.map low, Try.f50.ntmps, Try.f50.results.toList) = (some ir50, 19, [.tmp 4]) := by kernel_rfl
def ir51 : LC := (.seq (.ops [⟨some 8, Op.assign (Operand.const (Value.int IntKind.i64 0)), none⟩])
  (.seq (.seq (.ops [⟨some 9, Op.move (Operand.tmp 0), none⟩,
    ⟨some 10, Op.binOp BinOp.eql 24 (Operand.tmp 9) (Operand.const (Value.pointer none)) 24, none⟩])
  (.cond (Operand.tmp 10)
  (.seq (.ops [⟨some 8, Op.assign (Operand.const (Value.int IntKind.i64 1)), none⟩])
  .ret)
  .skip))
  (.seq (.seq (.ops [⟨some 11, Op.move (Operand.tmp 1), none⟩,
    ⟨some 12, Op.move (Operand.tmp 2), none⟩,
    ⟨some 13, Op.call { callee := Callee.value (Operand.func 50), args := #[Operand.tmp 11, Operand.tmp 12], argTypes := #[3, 3] }, none⟩,
    ⟨some 14, Op.unOp UnOp.not 4 (Operand.tmp 13), none⟩,
    ⟨some 15, Op.move (Operand.tmp 14), none⟩,
    ⟨some 16, Op.move (Operand.tmp 3), some (15, false)⟩,
    ⟨some 17, Op.binOp BinOp.lss 3 (Operand.tmp 16) (Operand.const (Value.int IntKind.i64 0)) 3, some (15, false)⟩,
    ⟨some 18, Op.pick (Operand.tmp 15) (Operand.const (Value.bool true)) (Operand.tmp 17), none⟩,
    ⟨some 19, Op.move (Operand.tmp 18), none⟩,
    ⟨some 20, Op.move (Operand.tmp 3), some (19, false)⟩,
    ⟨some 21, Op.binOp BinOp.gtr 3 (Operand.tmp 20) (Operand.const (Value.int IntKind.i64 7)) 3, some (19, false)⟩,
    ⟨some 22, Op.pick (Operand.tmp 19) (Operand.const (Value.bool true)) (Operand.tmp 21), none⟩])
  (.cond (Operand.tmp 22)
  (.seq (.ops [⟨some 8, Op.assign (Operand.const (Value.int IntKind.i64 2)), none⟩])
  .ret)
  .skip))
  (.seq (.seq (.ops [⟨some 23, Op.move (Operand.tmp 0), none⟩,
    ⟨some 24, Op.move (Operand.tmp 1), none⟩,
    ⟨some 25, Op.move (Operand.tmp 2), none⟩,
    ⟨some 26, Op.nilCheck (Operand.tmp 23), none⟩,
    ⟨some 27, Op.fieldAddr 87 (Operand.tmp 26) 0, none⟩,
    ⟨some 28, Op.indexAddr 85 (Operand.tmp 27) (Operand.tmp 24), none⟩,
    ⟨some 29, Op.indexAddr 84 (Operand.tmp 28) (Operand.tmp 25), none⟩,
    ⟨some 30, Op.fieldAddr 83 (Operand.tmp 29) 0, none⟩,
    ⟨some 31, Op.load 4 (Operand.tmp 30), none⟩,
    ⟨some 32, Op.unOp UnOp.not 4 (Operand.tmp 31), none⟩])
  (.cond (Operand.tmp 32)
  (.seq (.ops [⟨some 8, Op.assign (Operand.const (Value.int IntKind.i64 6)), none⟩])
  .ret)
  .skip))
  (.seq (.ops [⟨some 8, Op.assign (Operand.const (Value.int IntKind.i64 0)), none⟩])
  .ret)))))
theorem ir51_eq : (Try.f51.body.map low, Try.f51.ntmps, Try.f51.results.toList) = (some ir51, 33, [.tmp 8]) := by kernel_rfl
def ir52_l0 : LC := (.seq (.seq (.ops [⟨some 7, Op.move (Operand.tmp 6), none⟩,
    ⟨some 8, Op.binOp BinOp.lss 3 (Operand.tmp 7) (Operand.const (Value.int IntKind.i64 32)) 3, none⟩,
    ⟨some 9, Op.move (Operand.tmp 8), none⟩,
    ⟨some 10, Op.move (Operand.tmp 0), some (9, true)⟩,
    ⟨some 11, Op.binOp BinOp.neq 24 (Operand.tmp 10) (Operand.const (Value.pointer none)) 24, some (9, true)⟩,
    ⟨some 12, Op.pick (Operand.tmp 9) (Operand.tmp 11) (Operand.const (Value.bool false)), none⟩,
    ⟨some 13, Op.move (Operand.tmp 12), none⟩,
    ⟨some 14, Op.move (Operand.tmp 1), some (13, true)⟩,
    ⟨some 15, Op.call { callee := Callee.value (Operand.func 50), args := #[Operand.tmp 14, Operand.const (Value.int IntKind.i64 0)], argTypes := #[3, 3] }, some (13, true)⟩,
    ⟨some 16, Op.pick (Operand.tmp 13) (Operand.tmp 15) (Operand.const (Value.bool false)), none⟩])
  (.cond (Operand.tmp 16)
  .skip
  (.exit 0)))
  (.seq (.block 1 (.seq (.ops [⟨some 19, Op.move (Operand.tmp 0), none⟩,
    ⟨some 20, Op.move (Operand.tmp 1), none⟩,
    ⟨some 21, Op.move (Operand.tmp 6), none⟩,
    ⟨some 22, Op.nilCheck (Operand.tmp 19), none⟩,
    ⟨some 23, Op.fieldAddr 87 (Operand.tmp 22) 0, none⟩,
    ⟨some 24, Op.indexAddr 85 (Operand.tmp 23) (Operand.tmp 20), none⟩,
    ⟨some 25, Op.indexAddr 84 (Operand.tmp 24) (Operand.tmp 21), none⟩,
    ⟨some 26, Op.fieldAddr 83 (Operand.tmp 25) 0, none⟩,
    ⟨some 27, Op.load 4 (Operand.tmp 26), none⟩])
  (.cond (Operand.tmp 27)
  (.ops [⟨some 28, Op.move (Operand.tmp 5), none⟩,
    ⟨some 29, Op.move (Operand.tmp 6), none⟩,
    ⟨some 30, Op.buildSlice 76 1 #[(0, Operand.tmp 29)], none⟩,
    ⟨some 31, Op.call { callee := Callee.builtin Builtin.append, args := #[Operand.tmp 28, Operand.tmp 30], argTypes := #[76, 76] }, none⟩,
    ⟨some 5, Op.assign (Operand.tmp 31), none⟩])
  .skip)))
  (.ops [⟨some 17, Op.move (Operand.tmp 6), none⟩,
    ⟨some 18, Op.binOp BinOp.add 3 (Operand.tmp 17) (Operand.const (Value.int IntKind.i64 1)) 3, none⟩,
    ⟨some 6, Op.assign (Operand.tmp 18), none⟩])))
def ir52 : LC := (.seq (.ops [⟨some 4, Op.assign (Operand.const (Value.slice none 0 0)), none⟩])
  (.seq (.ops [⟨some 5, Op.assign (Operand.const (Value.slice none 0 0)), none⟩])
  (.seq (.seq (.ops [⟨some 6, Op.assign (Operand.const (Value.int IntKind.i64 0)), none⟩])
  (.block 0 (.loop ir52_l0)))
  (.seq (.ops [⟨some 32, Op.move (Operand.tmp 5), none⟩,
    ⟨some 4, Op.assign (Operand.tmp 32), none⟩])
  .ret))))
theorem ir52_eq : (Try.f52.body.map low, Try.f52.ntmps, Try.f52.results.toList) = (some ir52, 33, [.tmp 4]) := by kernel_rfl
def ir53 : LC := (.seq (.ops [⟨some 4, Op.assign (Operand.const (Value.bool false)), none⟩])
  (.seq (.ops [⟨some 5, Op.move (Operand.tmp 0), none⟩,
    ⟨some 6, Op.move (Operand.tmp 1), none⟩,
    ⟨some 7, Op.call { callee := Callee.value (Operand.func 58), args := #[Operand.tmp 5, Operand.tmp 6], argTypes := #[76, 103] }, none⟩,
    ⟨some 8, Op.binOp BinOp.geq 3 (Operand.tmp 7) (Operand.const (Value.int IntKind.i64 0)) 3, none⟩,
    ⟨some 4, Op.assign (Operand.tmp 8), none⟩])
  .ret))
theorem ir53_eq : (Try.f53.body.map low, Try.f53.ntmps, Try.f53.results.toList) = (some ir53, 9, [.tmp 4]) := by kernel_rfl
def ir54 : LC := (.seq (.ops [⟨some 2, Op.assign (Operand.const (Value.bool false)), none⟩])
  (.seq (.ops [⟨some 3, Op.move (Operand.tmp 0), none⟩,
    ⟨some 4, Op.binOp BinOp.lss 3 (Operand.tmp 3) (Operand.const (Value.int IntKind.i64 0)) 3, none⟩,
    ⟨some 5, Op.move (Operand.tmp 4), none⟩,
    ⟨some 6, Op.move (Operand.tmp 0), some (5, false)⟩,
    ⟨some 7, Op.binOp BinOp.geq 3 (Operand.tmp 6) (Operand.const (Value.int IntKind.i64 16)) 3, some (5, false)⟩,
    ⟨some 8, Op.pick (Operand.tmp 5) (Operand.const (Value.bool true)) (Operand.tmp 7), none⟩,
    ⟨some 2, Op.assign (Operand.tmp 8), none⟩])
  .ret))
theorem ir54_eq : (Try.f54.body.map low, Try.f54.ntmps, Try.f54.results.toList) = (some ir54, 9, [.tmp 2]) := by kernel_rfl
def ir57_l0 : LC := (.seq (.ops [⟨some 22, Op.binOp BinOp.lss 3 (Operand.tmp 21) (Operand.const (Value.int IntKind.i64 32)) 3, none⟩])
  (.seq (.cond (Operand.tmp 22)
  .skip
  (.exit 0))
  (.seq (.block 1 (.seq (.ops [⟨some 23, Op.move (Operand.tmp 21), none⟩,
    ⟨some 24, Op.index 60 (Operand.tmp 20) (Operand.tmp 21), none⟩,
    ⟨some 5, Op.alloc 59, none⟩,
    ⟨some 4, Op.assign (Operand.tmp 23), none⟩,
    ⟨none, Op.store 59 (Operand.tmp 5) (Operand.tmp 24), none⟩])
  (.seq (.ops [⟨some 25, Op.fieldAddr 59 (Operand.tmp 5) 0, none⟩,
    ⟨some 26, Op.load 4 (Operand.tmp 25), none⟩,
    ⟨some 27, Op.move (Operand.tmp 26), none⟩,
    ⟨some 28, Op.move (Operand.tmp 0), some (27, true)⟩,
    ⟨some 29, Op.move (Operand.tmp 4), some (27, true)⟩,
    ⟨some 30, Op.fieldAddr 59 (Operand.tmp 5) 1, some (27, true)⟩,
    ⟨some 31, Op.load 34 (Operand.tmp 30), some (27, true)⟩,
    ⟨some 32, Op.call { callee := Callee.value (Operand.tmp 28), args := #[Operand.tmp 29, Operand.tmp 31], argTypes := #[3, 34] }, some (27, true)⟩,
    ⟨some 33, Op.unOp UnOp.not 4 (Operand.tmp 32), some (27, true)⟩,
    ⟨some 34, Op.pick (Operand.tmp 27) (Operand.tmp 33) (Operand.const (Value.bool false)), none⟩])
  (.cond (Operand.tmp 34)
  .ret
  .skip))))
  (.ops [⟨some 35, Op.binOp BinOp.add 3 (Operand.tmp 21) (Operand.const (Value.int IntKind.i64 1)) 3, none⟩,
    ⟨some 21, Op.move (Operand.tmp 35), none⟩]))))
def ir57 : LC := (.seq (.seq (.ops [⟨some 6, Op.load 23 (Operand.tmp 1), none⟩,
    ⟨some 7, Op.call { callee := Callee.value (Operand.func 26), args := #[Operand.tmp 6], argTypes := #[23] }, none⟩,
    ⟨some 8, Op.unOp UnOp.not 4 (Operand.tmp 7), none⟩,
    ⟨some 9, Op.move (Operand.tmp 8), none⟩,
    ⟨some 10, Op.load 3 (Operand.tmp 2), some (9, false)⟩,
    ⟨some 11, Op.buildSlice 76 1 #[(0, Operand.tmp 10)], some (9, false)⟩,
    ⟨some 12, Op.call { callee := Callee.value (Operand.func 40), args := #[Operand.tmp 11], argTypes := #[76] }, some (9, false)⟩,
    ⟨some 13, Op.unOp UnOp.not 4 (Operand.tmp 12), some (9, false)⟩,
    ⟨some 14, Op.pick (Operand.tmp 9) (Operand.const (Value.bool true)) (Operand.tmp 13), none⟩])
  (.cond (Operand.tmp 14)
  .ret
  .skip))
  (.seq (.draw [⟨some 15, Op.load 23 (Operand.tmp 1), none⟩,
    ⟨some 16, Op.load 3 (Operand.tmp 2), none⟩,
    ⟨some 17, Op.nilCheck (Operand.tmp 15), none⟩,
    ⟨some 18, Op.fieldAddr 64 (Operand.tmp 17) 0, none⟩,
    ⟨some 19, Op.indexAddr 61 (Operand.tmp 18) (Operand.tmp 16), none⟩,
    ⟨some 20, Op.load 60 (Operand.tmp 19), none⟩,
    ⟨some 21, Op.move (Operand.const (Value.int IntKind.i64 0)), none⟩] [])
  (.block 0 (.loop ir57_l0))))
theorem ir57_eq : (Try.f57.body.map low, Try.f57.ntmps, Try.f57.results.toList) = (some ir57, 36, []) := by kernel_rfl
def ir58_l0 : LC := (.seq (.ops [⟨some 9, Op.binOp BinOp.lss 3 (Operand.tmp 8) (Operand.tmp 7) 3, none⟩])
  (.seq (.cond (Operand.tmp 9)
  .skip
  (.exit 0))
  (.seq (.block 1 (.seq (.ops [⟨some 10, Op.move (Operand.tmp 8), none⟩,
    ⟨some 5, Op.assign (Operand.tmp 10), none⟩])
  (.seq (.ops [⟨some 11, Op.move (Operand.tmp 1), none⟩,
    ⟨some 12, Op.move (Operand.tmp 0), none⟩,
    ⟨some 13, Op.move (Operand.tmp 5), none⟩,
    ⟨some 14, Op.indexAddr 76 (Operand.tmp 12) (Operand.tmp 13), none⟩,
    ⟨some 15, Op.load 3 (Operand.tmp 14), none⟩,
    ⟨some 16, Op.call { callee := Callee.value (Operand.tmp 11), args := #[Operand.tmp 15], argTypes := #[3] }, none⟩])
  (.cond (Operand.tmp 16)
  (.seq (.ops [⟨some 17, Op.move (Operand.tmp 5), none⟩,
    ⟨some 4, Op.assign (Operand.tmp 17), none⟩])
  .ret)
  .skip))))
  (.ops [⟨some 18, Op.binOp BinOp.add 3 (Operand.tmp 8) (Operand.const (Value.int IntKind.i64 1)) 3, none⟩,
    ⟨some 8, Op.move (Operand.tmp 18), none⟩]))))
def ir58 : LC := (.seq (.ops [⟨some 4, Op.assign (Operand.const (Value.int IntKind.i64 0)), none⟩])
  (.seq (.seq (.ops [⟨some 6, Op.move (Operand.tmp 0), none⟩,
    ⟨some 7, Op.call { callee := Callee.builtin Builtin.len, args := #[Operand.tmp 6], argTypes := #[76] }, none⟩,
    ⟨some 8, Op.move (Operand.const (Value.int IntKind.i64 0)), none⟩])
  (.block 0 (.loop ir58_l0)))
  (.seq (.ops [⟨some 4, Op.assign (Operand.const (Value.int IntKind.i64 (-1))), none⟩])
  .ret)))
theorem ir58_eq : (Try.f58.body.map low, Try.f58.ntmps, Try.f58.results.toList) = (some ir58, 19, [.tmp 4]) := by kernel_rfl

end Go.Proofs.Ytkfhdaimememiaa
