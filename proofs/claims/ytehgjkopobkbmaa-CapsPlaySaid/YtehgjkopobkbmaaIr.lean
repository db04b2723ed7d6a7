/- The code of this seat struck bare (printed by program). -/
import Derived.Test.YtehgjkopobkbmaaProg
import Derived.Test.YtehgjkopobkbmaaV4
import Derived.KernelRfl
set_option linter.unusedVariables false
set_option linter.unusedSimpArgs false
set_option linter.unusedSimpArgs false
set_option maxRecDepth 100000
namespace Go.Proofs.Ytehgjkopobkbmaa
open Go Go.Vm
noncomputable def rc4 (i : Nat) : Code × Code := (((Try.f4.body.map rangesOf).getD [])[i]?).getD (.skip, .skip)
noncomputable def ir4_l0 : LC := (.seq (.seq (.ops [⟨some 14, Op.move (Operand.tmp 4), none⟩,
    ⟨some 15, Op.move (Operand.tmp 0), none⟩,
    ⟨some 16, Op.call { callee := Callee.builtin Builtin.len, args := #[Operand.tmp 15], argTypes := #[22] }, none⟩,
    ⟨some 17, Op.binOp BinOp.lss 3 (Operand.tmp 14) (Operand.tmp 16) 3, none⟩])
  (.cond (Operand.tmp 17)
  .skip
  (.exit 0)))
  (.seq (.block 1 (.seq (.draw [⟨some 20, Op.load 24 (Operand.tmp 3), none⟩,
    ⟨some 21, Op.move (Operand.tmp 0), none⟩,
    ⟨some 22, Op.move (Operand.tmp 4), none⟩,
    ⟨some 23, Op.indexAddr 22 (Operand.tmp 21) (Operand.tmp 22), none⟩,
    ⟨some 24, Op.load 32 (Operand.tmp 23), none⟩,
    ⟨some 25, Op.call { callee := Callee.value (Operand.func 14), args := #[Operand.tmp 20, Operand.tmp 24], argTypes := #[24, 32] }, none⟩] [])
  (.seq (.ops [⟨some 26, Op.load 24 (Operand.tmp 3), none⟩,
    ⟨some 27, Op.call { callee := Callee.value (Operand.func 15), args := #[Operand.tmp 26, Operand.const (Value.int IntKind.i64 (-1))], argTypes := #[24, 3] }, none⟩,
    ⟨some 5, Op.assign (Operand.tmp 27), none⟩])
  (.seq (.seq (.ops [⟨some 28, Op.move (Operand.tmp 5), none⟩,
    ⟨some 29, Op.binOp BinOp.eql 37 (Operand.tmp 28) (Operand.const Value.nilFunc) 37, none⟩])
  (.cond (Operand.tmp 29)
  (.seq (.ops [⟨none, Op.store 4 (Operand.tmp 2) (Operand.const (Value.bool false)), none⟩])
  .ret)
  .skip))
  (.seq (.ops [⟨some 30, Op.move (Operand.tmp 5), none⟩])
  (.block 2 (.range (Operand.tmp 30) #[31] (rc4 0).1 (rc4 0).2)))))))
  (.ops [⟨some 18, Op.move (Operand.tmp 4), none⟩,
    ⟨some 19, Op.binOp BinOp.add 3 (Operand.tmp 18) (Operand.const (Value.int IntKind.i64 1)) 3, none⟩,
    ⟨some 4, Op.assign (Operand.tmp 19), none⟩])))
noncomputable def ir4_a0 : LC := (.ops [⟨some 6, Op.alloc 40, none⟩,
    ⟨none, Op.store 40 (Operand.tmp 6) (Operand.tmp 31), none⟩])
noncomputable def ir4_b0 : LC := (.block 3 (.seq (.seq (.ops [⟨some 32, Op.fieldAddr 40 (Operand.tmp 6) 1, none⟩,
    ⟨some 33, Op.load 2 (Operand.tmp 32), none⟩,
    ⟨some 34, Op.binOp BinOp.eql 2 (Operand.tmp 33) (Operand.const (Value.int IntKind.i64 0)) 2, none⟩])
  (.cond (Operand.tmp 34)
  (.exit 3)
  .skip))
  (.seq (.ops [⟨some 36, Op.load 24 (Operand.tmp 3), none⟩,
    ⟨some 37, Op.fieldAddr 40 (Operand.tmp 6) 1, none⟩,
    ⟨some 38, Op.load 2 (Operand.tmp 37), none⟩,
    ⟨some 39, Op.call { callee := Callee.value (Operand.func 16), args := #[Operand.tmp 36, Operand.tmp 38], argTypes := #[24, 2] }, none⟩,
    ⟨some 35, Op.move (Operand.tmp 39), none⟩,
    ⟨some 40, Op.extract (Operand.tmp 35) 0, none⟩,
    ⟨some 41, Op.extract (Operand.tmp 35) 1, none⟩,
    ⟨some 7, Op.alloc 40, none⟩,
    ⟨none, Op.store 40 (Operand.tmp 7) (Operand.tmp 40), none⟩,
    ⟨some 8, Op.assign (Operand.tmp 41), none⟩])
  (.seq (.ops [⟨some 42, Op.move (Operand.tmp 8), none⟩,
    ⟨some 43, Op.binOp BinOp.neq 41 (Operand.tmp 42) (Operand.const (Value.int IntKind.i64 0)) 41, none⟩,
    ⟨some 44, Op.move (Operand.tmp 43), none⟩,
    ⟨some 45, Op.fieldAddr 40 (Operand.tmp 6) 6, some (44, false)⟩,
    ⟨some 46, Op.load 3 (Operand.tmp 45), some (44, false)⟩,
    ⟨some 47, Op.fieldAddr 40 (Operand.tmp 7) 6, some (44, false)⟩,
    ⟨some 48, Op.load 3 (Operand.tmp 47), some (44, false)⟩,
    ⟨some 49, Op.binOp BinOp.and 3 (Operand.tmp 46) (Operand.tmp 48) 3, some (44, false)⟩,
    ⟨some 50, Op.fieldAddr 40 (Operand.tmp 6) 6, some (44, false)⟩,
    ⟨some 51, Op.load 3 (Operand.tmp 50), some (44, false)⟩,
    ⟨some 52, Op.binOp BinOp.neq 3 (Operand.tmp 49) (Operand.tmp 51) 3, some (44, false)⟩,
    ⟨some 53, Op.pick (Operand.tmp 44) (Operand.const (Value.bool true)) (Operand.tmp 52), none⟩,
    ⟨some 54, Op.move (Operand.tmp 53), none⟩,
    ⟨some 55, Op.fieldAddr 40 (Operand.tmp 6) 4, some (54, false)⟩,
    ⟨some 56, Op.load 3 (Operand.tmp 55), some (54, false)⟩,
    ⟨some 57, Op.fieldAddr 40 (Operand.tmp 7) 4, some (54, false)⟩,
    ⟨some 58, Op.load 3 (Operand.tmp 57), some (54, false)⟩,
    ⟨some 59, Op.binOp BinOp.neq 3 (Operand.tmp 56) (Operand.tmp 58) 3, some (54, false)⟩,
    ⟨some 60, Op.pick (Operand.tmp 54) (Operand.const (Value.bool true)) (Operand.tmp 59), none⟩,
    ⟨some 61, Op.move (Operand.tmp 60), none⟩,
    ⟨some 62, Op.fieldAddr 40 (Operand.tmp 6) 5, some (61, false)⟩,
    ⟨some 63, Op.load 3 (Operand.tmp 62), some (61, false)⟩,
    ⟨some 64, Op.fieldAddr 40 (Operand.tmp 7) 5, some (61, false)⟩,
    ⟨some 65, Op.load 3 (Operand.tmp 64), some (61, false)⟩,
    ⟨some 66, Op.binOp BinOp.neq 3 (Operand.tmp 63) (Operand.tmp 65) 3, some (61, false)⟩,
    ⟨some 67, Op.pick (Operand.tmp 61) (Operand.const (Value.bool true)) (Operand.tmp 66), none⟩,
    ⟨some 68, Op.move (Operand.tmp 67), none⟩,
    ⟨some 69, Op.fieldAddr 40 (Operand.tmp 6) 0, some (68, false)⟩,
    ⟨some 70, Op.load 2 (Operand.tmp 69), some (68, false)⟩,
    ⟨some 71, Op.fieldAddr 40 (Operand.tmp 7) 0, some (68, false)⟩,
    ⟨some 72, Op.load 2 (Operand.tmp 71), some (68, false)⟩,
    ⟨some 73, Op.binOp BinOp.leq 2 (Operand.tmp 70) (Operand.tmp 72) 2, some (68, false)⟩,
    ⟨some 74, Op.pick (Operand.tmp 68) (Operand.const (Value.bool true)) (Operand.tmp 73), none⟩])
  (.cond (Operand.tmp 74)
  (.seq (.ops [⟨none, Op.store 4 (Operand.tmp 2) (Operand.const (Value.bool false)), none⟩])
  .ret)
  .skip)))))
theorem ir4_a0_eq : low (rc4 0).1 = ir4_a0 := by kernel_rfl
theorem ir4_b0_eq : low (rc4 0).2 = ir4_b0 := by kernel_rfl
noncomputable def ir4 : LC := (.seq (.ops [⟨some 2, Op.alloc 4, none⟩])
  (.seq (.seq (.ops [⟨some 9, Op.move (Operand.tmp 0), none⟩,
    ⟨some 10, Op.call { callee := Callee.builtin Builtin.len, args := #[Operand.tmp 9], argTypes := #[22] }, none⟩,
    ⟨some 11, Op.binOp BinOp.gtr 3 (Operand.tmp 10) (Operand.const (Value.int IntKind.i64 60)) 3, none⟩])
  (.cond (Operand.tmp 11)
  (.seq (.ops [⟨some 12, Op.call { callee := Callee.value (Operand.func 9), args := #[], argTypes := #[] }, none⟩,
    ⟨none, Op.store 4 (Operand.tmp 2) (Operand.tmp 12), none⟩])
  .ret)
  .skip))
  (.seq (.ops [⟨some 13, Op.call { callee := Callee.value (Operand.func 10), args := #[], argTypes := #[] }, none⟩,
    ⟨some 3, Op.alloc 24, none⟩,
    ⟨none, Op.store 24 (Operand.tmp 3) (Operand.tmp 13), none⟩])
  (.seq (.seq (.ops [⟨some 4, Op.assign (Operand.const (Value.int IntKind.i64 0)), none⟩])
  (.block 0 (.loop ir4_l0)))
  (.seq (.ops [⟨some 75, Op.call { callee := Callee.value (Operand.func 9), args := #[], argTypes := #[] }, none⟩,
    ⟨none, Op.store 4 (Operand.tmp 2) (Operand.tmp 75), none⟩])
  .ret)))))
theorem ir4_eq : (Try.f4.body.map low, Try.f4.ntmps, Try.f4.results.toList) = (some ir4, 76, [.cell 2 4]) := by kernel_rfl
def ir7_l0 : LC := (.seq (.seq (.ops [⟨some 17, Op.move (Operand.tmp 9), none⟩,
    ⟨some 18, Op.move (Operand.tmp 0), none⟩,
    ⟨some 19, Op.call { callee := Callee.builtin Builtin.len, args := #[Operand.tmp 18], argTypes := #[22] }, none⟩,
    ⟨some 20, Op.binOp BinOp.lss 3 (Operand.tmp 17) (Operand.tmp 19) 3, none⟩])
  (.cond (Operand.tmp 20)
  .skip
  (.exit 0)))
  (.seq (.block 1 (.seq (.seq (.ops [⟨some 23, Op.move (Operand.tmp 0), none⟩,
    ⟨some 24, Op.move (Operand.tmp 9), none⟩,
    ⟨some 25, Op.indexAddr 22 (Operand.tmp 23) (Operand.tmp 24), none⟩,
    ⟨some 26, Op.fieldAddr 32 (Operand.tmp 25) 0, none⟩,
    ⟨some 27, Op.load 3 (Operand.tmp 26), none⟩,
    ⟨some 28, Op.binOp BinOp.eql 3 (Operand.tmp 27) (Operand.const (Value.int IntKind.i64 6)) 3, none⟩])
  (.cond (Operand.tmp 28)
  (.seq (.ops [⟨some 29, Op.move (Operand.tmp 5), none⟩,
    ⟨some 30, Op.move (Operand.tmp 6), none⟩,
    ⟨some 7, Op.assign (Operand.tmp 29), none⟩,
    ⟨some 8, Op.assign (Operand.tmp 30), none⟩])
  (.seq (.ops [⟨some 31, Op.move (Operand.tmp 5), none⟩,
    ⟨some 32, Op.call { callee := Callee.value (Operand.func 23), args := #[Operand.tmp 31], argTypes := #[24] }, none⟩,
    ⟨some 33, Op.move (Operand.tmp 6), none⟩,
    ⟨some 34, Op.call { callee := Callee.value (Operand.func 24), args := #[Operand.tmp 33], argTypes := #[26] }, none⟩,
    ⟨some 5, Op.assign (Operand.tmp 32), none⟩,
    ⟨some 6, Op.assign (Operand.tmp 34), none⟩])
  (.seq (.ops [⟨some 35, Op.move (Operand.tmp 5), none⟩,
    ⟨some 36, Op.binOp BinOp.eql 24 (Operand.tmp 35) (Operand.const (Value.pointer none)) 24, none⟩])
  (.cond (Operand.tmp 36)
  (.seq (.ops [⟨some 4, Op.assign (Operand.const (Value.bool false)), none⟩])
  .ret)
  .skip))))
  .skip))
  (.seq (.ops [⟨some 37, Op.move (Operand.tmp 5), none⟩,
    ⟨some 38, Op.move (Operand.tmp 6), none⟩,
    ⟨some 39, Op.move (Operand.tmp 0), none⟩,
    ⟨some 40, Op.move (Operand.tmp 9), none⟩,
    ⟨some 41, Op.indexAddr 22 (Operand.tmp 39) (Operand.tmp 40), none⟩,
    ⟨some 42, Op.load 32 (Operand.tmp 41), none⟩,
    ⟨some 43, Op.call { callee := Callee.value (Operand.func 11), args := #[Operand.tmp 37, Operand.tmp 38, Operand.tmp 42], argTypes := #[24, 26, 32] }, none⟩,
    ⟨some 44, Op.unOp UnOp.not 4 (Operand.tmp 43), none⟩,
    ⟨some 45, Op.move (Operand.tmp 44), none⟩,
    ⟨some 46, Op.move (Operand.tmp 5), some (45, false)⟩,
    ⟨some 47, Op.move (Operand.tmp 6), some (45, false)⟩,
    ⟨some 48, Op.move (Operand.tmp 1), some (45, false)⟩,
    ⟨some 49, Op.call { callee := Callee.value (Operand.func 25), args := #[Operand.tmp 46, Operand.tmp 47, Operand.tmp 48], argTypes := #[24, 26, 3] }, some (45, false)⟩,
    ⟨some 50, Op.unOp UnOp.not 4 (Operand.tmp 49), some (45, false)⟩,
    ⟨some 51, Op.pick (Operand.tmp 45) (Operand.const (Value.bool true)) (Operand.tmp 50), none⟩])
  (.cond (Operand.tmp 51)
  (.seq (.ops [⟨some 4, Op.assign (Operand.const (Value.bool false)), none⟩])
  .ret)
  .skip))))
  (.ops [⟨some 21, Op.move (Operand.tmp 9), none⟩,
    ⟨some 22, Op.binOp BinOp.add 3 (Operand.tmp 21) (Operand.const (Value.int IntKind.i64 1)) 3, none⟩,
    ⟨some 9, Op.assign (Operand.tmp 22), none⟩])))
def ir7 : LC := (.seq (.ops [⟨some 4, Op.assign (Operand.const (Value.bool false)), none⟩])
  (.seq (.seq (.ops [⟨some 10, Op.move (Operand.tmp 0), none⟩,
    ⟨some 11, Op.call { callee := Callee.builtin Builtin.len, args := #[Operand.tmp 10], argTypes := #[22] }, none⟩,
    ⟨some 12, Op.binOp BinOp.gtr 3 (Operand.tmp 11) (Operand.const (Value.int IntKind.i64 60)) 3, none⟩])
  (.cond (Operand.tmp 12)
  (.seq (.ops [⟨some 13, Op.call { callee := Callee.value (Operand.func 9), args := #[], argTypes := #[] }, none⟩,
    ⟨some 4, Op.assign (Operand.tmp 13), none⟩])
  .ret)
  .skip))
  (.seq (.ops [⟨some 14, Op.call { callee := Callee.value (Operand.func 10), args := #[], argTypes := #[] }, none⟩,
    ⟨some 5, Op.assign (Operand.tmp 14), none⟩])
  (.seq (.ops [⟨some 15, Op.build 29 #[], none⟩,
    ⟨some 16, Op.box 29 (Operand.tmp 15), none⟩,
    ⟨some 6, Op.assign (Operand.tmp 16), none⟩])
  (.seq (.ops [⟨some 7, Op.assign (Operand.const (Value.pointer none)), none⟩])
  (.seq (.ops [⟨some 8, Op.assign (Operand.const (Value.pointer none)), none⟩])
  (.seq (.seq (.ops [⟨some 9, Op.assign (Operand.const (Value.int IntKind.i64 0)), none⟩])
  (.block 0 (.loop ir7_l0)))
  (.seq (.ops [⟨some 52, Op.move (Operand.tmp 7), none⟩,
    ⟨some 53, Op.binOp BinOp.eql 24 (Operand.tmp 52) (Operand.const (Value.pointer none)) 24, none⟩,
    ⟨some 54, Op.move (Operand.tmp 53), none⟩,
    ⟨some 55, Op.move (Operand.tmp 7), some (54, false)⟩,
    ⟨some 56, Op.move (Operand.tmp 8), some (54, false)⟩,
    ⟨some 57, Op.move (Operand.tmp 1), some (54, false)⟩,
    ⟨some 58, Op.call { callee := Callee.value (Operand.func 25), args := #[Operand.tmp 55, Operand.tmp 56, Operand.tmp 57], argTypes := #[24, 26, 3] }, some (54, false)⟩,
    ⟨some 59, Op.pick (Operand.tmp 54) (Operand.const (Value.bool true)) (Operand.tmp 58), none⟩,
    ⟨some 60, Op.move (Operand.tmp 59), none⟩,
    ⟨some 61, Op.call { callee := Callee.value (Operand.func 9), args := #[], argTypes := #[] }, some (60, true)⟩,
    ⟨some 62, Op.pick (Operand.tmp 60) (Operand.tmp 61) (Operand.const (Value.bool false)), none⟩,
    ⟨some 4, Op.assign (Operand.tmp 62), none⟩])
  .ret))))))))
theorem ir7_eq : (Try.f7.body.map low, Try.f7.ntmps, Try.f7.results.toList) = (some ir7, 63, [.tmp 4]) := by kernel_rfl
def ir10 : LC := (.seq (.ops [⟨some 0, Op.assign (Operand.const (Value.pointer none)), none⟩])
  (.seq (.ops [⟨some 1, Op.makeMap 59 none, none⟩,
    ⟨some 2, Op.build 61 #[(0, Operand.tmp 1)], none⟩,
    ⟨some 3, Op.box 61 (Operand.tmp 2), none⟩,
    ⟨some 0, Op.assign (Operand.tmp 3), none⟩])
  .ret))
theorem ir10_eq : (Try.f10.body.map low, Try.f10.ntmps, Try.f10.results.toList) = (some ir10, 4, [.tmp 0]) := by kernel_rfl
def ir11 : LC := (.seq (.ops [⟨some 5, Op.box 32 (Operand.tmp 2), none⟩,
    ⟨some 6, Op.assign (Operand.const (Value.bool false)), none⟩])
  (.seq (.ops [⟨some 7, Op.assign (Operand.const (Value.int IntKind.i64 0)), none⟩,
    ⟨some 8, Op.assign (Operand.const (Value.int IntKind.i64 0)), none⟩])
  (.seq (.ops [⟨some 9, Op.assign (Operand.const (Value.int IntKind.i64 0)), none⟩,
    ⟨some 10, Op.assign (Operand.const (Value.int IntKind.i64 0)), none⟩,
    ⟨some 11, Op.assign (Operand.const (Value.int IntKind.i64 0)), none⟩])
  (.seq (.ops [⟨some 12, Op.assign (Operand.const (Value.int IntKind.i64 0)), none⟩])
  (.seq (.seq (.ops [⟨some 13, Op.fieldAddr 32 (Operand.tmp 5) 0, none⟩,
    ⟨some 14, Op.load 3 (Operand.tmp 13), none⟩])
  (.block 0 (.seq (.ops [⟨some 16, Op.binOp BinOp.eql 3 (Operand.tmp 14) (Operand.const (Value.int IntKind.i64 1)) 3, none⟩,
    ⟨some 15, Op.assign (Operand.tmp 16), none⟩])
  (.cond (Operand.tmp 15)
  (.seq (.ops [⟨some 18, Op.move (Operand.tmp 0), none⟩,
    ⟨some 19, Op.fieldAddr 32 (Operand.tmp 5) 1, none⟩,
    ⟨some 20, Op.load 3 (Operand.tmp 19), none⟩,
    ⟨some 21, Op.fieldAddr 32 (Operand.tmp 5) 3, none⟩,
    ⟨some 22, Op.load 3 (Operand.tmp 21), none⟩,
    ⟨some 23, Op.fieldAddr 32 (Operand.tmp 5) 4, none⟩,
    ⟨some 24, Op.load 3 (Operand.tmp 23), none⟩,
    ⟨some 25, Op.fieldAddr 32 (Operand.tmp 5) 5, none⟩,
    ⟨some 26, Op.load 3 (Operand.tmp 25), none⟩,
    ⟨some 27, Op.call { callee := Callee.value (Operand.func 20), args := #[Operand.tmp 18, Operand.tmp 20, Operand.tmp 22, Operand.tmp 24, Operand.tmp 26], argTypes := #[24, 3, 3, 3, 3] }, none⟩,
    ⟨some 17, Op.move (Operand.tmp 27), none⟩,
    ⟨some 28, Op.extract (Operand.tmp 17) 0, none⟩,
    ⟨some 29, Op.extract (Operand.tmp 17) 1, none⟩,
    ⟨some 7, Op.assign (Operand.tmp 28), none⟩,
    ⟨some 12, Op.assign (Operand.tmp 29), none⟩])
  (.ops [⟨some 31, Op.move (Operand.tmp 1), none⟩,
    ⟨some 32, Op.fieldAddr 32 (Operand.tmp 5) 1, none⟩,
    ⟨some 33, Op.load 3 (Operand.tmp 32), none⟩,
    ⟨some 34, Op.fieldAddr 32 (Operand.tmp 5) 3, none⟩,
    ⟨some 35, Op.load 3 (Operand.tmp 34), none⟩,
    ⟨some 36, Op.fieldAddr 32 (Operand.tmp 5) 4, none⟩,
    ⟨some 37, Op.load 3 (Operand.tmp 36), none⟩,
    ⟨some 38, Op.fieldAddr 32 (Operand.tmp 5) 5, none⟩,
    ⟨some 39, Op.load 3 (Operand.tmp 38), none⟩,
    ⟨some 40, Op.call { callee := Callee.value (Operand.func 30), args := #[Operand.tmp 31, Operand.tmp 33, Operand.tmp 35, Operand.tmp 37, Operand.tmp 39], argTypes := #[26, 3, 3, 3, 3] }, none⟩,
    ⟨some 30, Op.move (Operand.tmp 40), none⟩,
    ⟨some 41, Op.extract (Operand.tmp 30) 0, none⟩,
    ⟨some 42, Op.extract (Operand.tmp 30) 1, none⟩,
    ⟨some 8, Op.assign (Operand.tmp 41), none⟩,
    ⟨some 11, Op.assign (Operand.tmp 42), none⟩]))
  (.seq (.ops [⟨some 44, Op.binOp BinOp.eql 3 (Operand.tmp 14) (Operand.const (Value.int IntKind.i64 2)) 3, none⟩,
    ⟨some 43, Op.assign (Operand.tmp 44), none⟩])
  (.cond (Operand.tmp 43)
  (.seq (.ops [⟨some 46, Op.move (Operand.tmp 0), none⟩,
    ⟨some 47, Op.fieldAddr 32 (Operand.tmp 5) 1, none⟩,
    ⟨some 48, Op.load 3 (Operand.tmp 47), none⟩,
    ⟨some 49, Op.fieldAddr 32 (Operand.tmp 5) 6, none⟩,
    ⟨some 50, Op.load 2 (Operand.tmp 49), none⟩,
    ⟨some 51, Op.fieldAddr 32 (Operand.tmp 5) 5, none⟩,
    ⟨some 52, Op.load 3 (Operand.tmp 51), none⟩,
    ⟨some 53, Op.call { callee := Callee.value (Operand.func 21), args := #[Operand.tmp 46, Operand.tmp 48, Operand.tmp 50, Operand.tmp 52], argTypes := #[24, 3, 2, 3] }, none⟩,
    ⟨some 45, Op.move (Operand.tmp 53), none⟩,
    ⟨some 54, Op.extract (Operand.tmp 45) 0, none⟩,
    ⟨some 55, Op.extract (Operand.tmp 45) 1, none⟩,
    ⟨some 7, Op.assign (Operand.tmp 54), none⟩,
    ⟨some 12, Op.assign (Operand.tmp 55), none⟩])
  (.ops [⟨some 57, Op.move (Operand.tmp 1), none⟩,
    ⟨some 58, Op.fieldAddr 32 (Operand.tmp 5) 1, none⟩,
    ⟨some 59, Op.load 3 (Operand.tmp 58), none⟩,
    ⟨some 60, Op.fieldAddr 32 (Operand.tmp 5) 6, none⟩,
    ⟨some 61, Op.load 2 (Operand.tmp 60), none⟩,
    ⟨some 62, Op.fieldAddr 32 (Operand.tmp 5) 1, none⟩,
    ⟨some 63, Op.load 3 (Operand.tmp 62), none⟩,
    ⟨some 64, Op.fieldAddr 32 (Operand.tmp 5) 5, none⟩,
    ⟨some 65, Op.load 3 (Operand.tmp 64), none⟩,
    ⟨some 66, Op.call { callee := Callee.value (Operand.func 31), args := #[Operand.tmp 57, Operand.tmp 59, Operand.tmp 61, Operand.tmp 63, Operand.tmp 65, Operand.const (Value.int IntKind.i64 0)], argTypes := #[26, 3, 2, 3, 3, 3] }, none⟩,
    ⟨some 56, Op.move (Operand.tmp 66), none⟩,
    ⟨some 67, Op.extract (Operand.tmp 56) 0, none⟩,
    ⟨some 68, Op.extract (Operand.tmp 56) 1, none⟩,
    ⟨some 8, Op.assign (Operand.tmp 67), none⟩,
    ⟨some 11, Op.assign (Operand.tmp 68), none⟩]))
  (.seq (.ops [⟨some 70, Op.binOp BinOp.eql 3 (Operand.tmp 14) (Operand.const (Value.int IntKind.i64 3)) 3, none⟩,
    ⟨some 69, Op.assign (Operand.tmp 70), none⟩])
  (.cond (Operand.tmp 69)
  (.seq (.ops [⟨some 72, Op.move (Operand.tmp 0), none⟩,
    ⟨some 73, Op.fieldAddr 32 (Operand.tmp 5) 1, none⟩,
    ⟨some 74, Op.load 3 (Operand.tmp 73), none⟩,
    ⟨some 75, Op.fieldAddr 32 (Operand.tmp 5) 6, none⟩,
    ⟨some 76, Op.load 2 (Operand.tmp 75), none⟩,
    ⟨some 77, Op.fieldAddr 32 (Operand.tmp 5) 2, none⟩,
    ⟨some 78, Op.load 3 (Operand.tmp 77), none⟩,
    ⟨some 79, Op.fieldAddr 32 (Operand.tmp 5) 5, none⟩,
    ⟨some 80, Op.load 3 (Operand.tmp 79), none⟩,
    ⟨some 81, Op.call { callee := Callee.value (Operand.func 26), args := #[Operand.tmp 72, Operand.tmp 74, Operand.tmp 76, Operand.tmp 78, Operand.tmp 80], argTypes := #[24, 3, 2, 3, 3] }, none⟩,
    ⟨some 71, Op.move (Operand.tmp 81), none⟩,
    ⟨some 82, Op.extract (Operand.tmp 71) 0, none⟩,
    ⟨some 83, Op.extract (Operand.tmp 71) 1, none⟩,
    ⟨some 7, Op.assign (Operand.tmp 82), none⟩,
    ⟨some 12, Op.assign (Operand.tmp 83), none⟩])
  (.ops [⟨some 85, Op.move (Operand.tmp 1), none⟩,
    ⟨some 86, Op.fieldAddr 32 (Operand.tmp 5) 1, none⟩,
    ⟨some 87, Op.load 3 (Operand.tmp 86), none⟩,
    ⟨some 88, Op.fieldAddr 32 (Operand.tmp 5) 6, none⟩,
    ⟨some 89, Op.load 2 (Operand.tmp 88), none⟩,
    ⟨some 90, Op.fieldAddr 32 (Operand.tmp 5) 2, none⟩,
    ⟨some 91, Op.load 3 (Operand.tmp 90), none⟩,
    ⟨some 92, Op.fieldAddr 32 (Operand.tmp 5) 5, none⟩,
    ⟨some 93, Op.load 3 (Operand.tmp 92), none⟩,
    ⟨some 94, Op.call { callee := Callee.value (Operand.func 31), args := #[Operand.tmp 85, Operand.tmp 87, Operand.tmp 89, Operand.tmp 91, Operand.tmp 93, Operand.const (Value.int IntKind.i64 8)], argTypes := #[26, 3, 2, 3, 3, 3] }, none⟩,
    ⟨some 84, Op.move (Operand.tmp 94), none⟩,
    ⟨some 95, Op.extract (Operand.tmp 84) 0, none⟩,
    ⟨some 96, Op.extract (Operand.tmp 84) 1, none⟩,
    ⟨some 8, Op.assign (Operand.tmp 95), none⟩,
    ⟨some 11, Op.assign (Operand.tmp 96), none⟩]))
  (.seq (.ops [⟨some 98, Op.binOp BinOp.eql 3 (Operand.tmp 14) (Operand.const (Value.int IntKind.i64 4)) 3, none⟩,
    ⟨some 97, Op.assign (Operand.tmp 98), none⟩])
  (.cond (Operand.tmp 97)
  (.seq (.ops [⟨some 100, Op.move (Operand.tmp 0), none⟩,
    ⟨some 101, Op.fieldAddr 32 (Operand.tmp 5) 1, none⟩,
    ⟨some 102, Op.load 3 (Operand.tmp 101), none⟩,
    ⟨some 103, Op.fieldAddr 32 (Operand.tmp 5) 6, none⟩,
    ⟨some 104, Op.load 2 (Operand.tmp 103), none⟩,
    ⟨some 105, Op.call { callee := Callee.value (Operand.func 18), args := #[Operand.tmp 100, Operand.tmp 102, Operand.tmp 104], argTypes := #[24, 3, 2] }, none⟩,
    ⟨some 99, Op.move (Operand.tmp 105), none⟩,
    ⟨some 106, Op.extract (Operand.tmp 99) 0, none⟩,
    ⟨some 107, Op.extract (Operand.tmp 99) 1, none⟩,
    ⟨some 9, Op.assign (Operand.tmp 106), none⟩,
    ⟨some 12, Op.assign (Operand.tmp 107), none⟩])
  (.ops [⟨some 109, Op.move (Operand.tmp 1), none⟩,
    ⟨some 110, Op.fieldAddr 32 (Operand.tmp 5) 1, none⟩,
    ⟨some 111, Op.load 3 (Operand.tmp 110), none⟩,
    ⟨some 112, Op.fieldAddr 32 (Operand.tmp 5) 6, none⟩,
    ⟨some 113, Op.load 2 (Operand.tmp 112), none⟩,
    ⟨some 114, Op.call { callee := Callee.value (Operand.func 32), args := #[Operand.tmp 109, Operand.tmp 111, Operand.tmp 113, Operand.const (Value.bool false)], argTypes := #[26, 3, 2, 4] }, none⟩,
    ⟨some 108, Op.move (Operand.tmp 114), none⟩,
    ⟨some 115, Op.extract (Operand.tmp 108) 0, none⟩,
    ⟨some 116, Op.extract (Operand.tmp 108) 1, none⟩,
    ⟨some 10, Op.assign (Operand.tmp 115), none⟩,
    ⟨some 11, Op.assign (Operand.tmp 116), none⟩]))
  (.seq (.ops [⟨some 118, Op.binOp BinOp.eql 3 (Operand.tmp 14) (Operand.const (Value.int IntKind.i64 5)) 3, none⟩,
    ⟨some 117, Op.assign (Operand.tmp 118), none⟩])
  (.cond (Operand.tmp 117)
  (.seq (.ops [⟨some 120, Op.move (Operand.tmp 0), none⟩,
    ⟨some 121, Op.fieldAddr 32 (Operand.tmp 5) 1, none⟩,
    ⟨some 122, Op.load 3 (Operand.tmp 121), none⟩,
    ⟨some 123, Op.fieldAddr 32 (Operand.tmp 5) 6, none⟩,
    ⟨some 124, Op.load 2 (Operand.tmp 123), none⟩,
    ⟨some 125, Op.call { callee := Callee.value (Operand.func 19), args := #[Operand.tmp 120, Operand.tmp 122, Operand.tmp 124], argTypes := #[24, 3, 2] }, none⟩,
    ⟨some 119, Op.move (Operand.tmp 125), none⟩,
    ⟨some 126, Op.extract (Operand.tmp 119) 0, none⟩,
    ⟨some 127, Op.extract (Operand.tmp 119) 1, none⟩,
    ⟨some 9, Op.assign (Operand.tmp 126), none⟩,
    ⟨some 12, Op.assign (Operand.tmp 127), none⟩])
  (.ops [⟨some 129, Op.move (Operand.tmp 1), none⟩,
    ⟨some 130, Op.fieldAddr 32 (Operand.tmp 5) 1, none⟩,
    ⟨some 131, Op.load 3 (Operand.tmp 130), none⟩,
    ⟨some 132, Op.fieldAddr 32 (Operand.tmp 5) 6, none⟩,
    ⟨some 133, Op.load 2 (Operand.tmp 132), none⟩,
    ⟨some 134, Op.call { callee := Callee.value (Operand.func 32), args := #[Operand.tmp 129, Operand.tmp 131, Operand.tmp 133, Operand.const (Value.bool true)], argTypes := #[26, 3, 2, 4] }, none⟩,
    ⟨some 128, Op.move (Operand.tmp 134), none⟩,
    ⟨some 135, Op.extract (Operand.tmp 128) 0, none⟩,
    ⟨some 136, Op.extract (Operand.tmp 128) 1, none⟩,
    ⟨some 10, Op.assign (Operand.tmp 135), none⟩,
    ⟨some 11, Op.assign (Operand.tmp 136), none⟩]))
  .skip))))))))))))
  (.seq (.ops [⟨some 137, Op.move (Operand.tmp 7), none⟩,
    ⟨some 138, Op.move (Operand.tmp 8), none⟩,
    ⟨some 139, Op.binOp BinOp.eql 2 (Operand.tmp 137) (Operand.tmp 138) 2, none⟩,
    ⟨some 140, Op.move (Operand.tmp 139), none⟩,
    ⟨some 141, Op.move (Operand.tmp 9), some (140, true)⟩,
    ⟨some 142, Op.move (Operand.tmp 10), some (140, true)⟩,
    ⟨some 143, Op.binOp BinOp.eql 3 (Operand.tmp 141) (Operand.tmp 142) 3, some (140, true)⟩,
    ⟨some 144, Op.pick (Operand.tmp 140) (Operand.tmp 143) (Operand.const (Value.bool false)), none⟩,
    ⟨some 145, Op.move (Operand.tmp 144), none⟩,
    ⟨some 146, Op.move (Operand.tmp 12), some (145, true)⟩,
    ⟨some 147, Op.move (Operand.tmp 11), some (145, true)⟩,
    ⟨some 148, Op.binOp BinOp.eql 3 (Operand.tmp 146) (Operand.tmp 147) 3, some (145, true)⟩,
    ⟨some 149, Op.pick (Operand.tmp 145) (Operand.tmp 148) (Operand.const (Value.bool false)), none⟩,
    ⟨some 6, Op.assign (Operand.tmp 149), none⟩])
  .ret))))))
theorem ir11_eq : (Try.f11.body.map low, Try.f11.ntmps, Try.f11.results.toList) = (some ir11, 150, [.tmp 6]) := by kernel_rfl
noncomputable def rc12 (i : Nat) : Code × Code := (((Try.f12.body.map rangesOf).getD [])[i]?).getD (.skip, .skip)
noncomputable def ir12_a0 : LC := (.ops [⟨some 11, Op.alloc 40, none⟩,
    ⟨none, Op.store 40 (Operand.tmp 11) (Operand.tmp 28), none⟩])
noncomputable def ir12_b0 : LC := (.block 1 (.seq (.ops [⟨some 29, Op.fieldAddr 40 (Operand.tmp 11) 4, none⟩,
    ⟨some 30, Op.load 3 (Operand.tmp 29), none⟩,
    ⟨some 31, Op.load 3 (Operand.tmp 7), none⟩,
    ⟨some 32, Op.binOp BinOp.eql 3 (Operand.tmp 30) (Operand.tmp 31) 3, none⟩,
    ⟨some 33, Op.move (Operand.tmp 32), none⟩,
    ⟨some 34, Op.fieldAddr 40 (Operand.tmp 11) 5, some (33, true)⟩,
    ⟨some 35, Op.load 3 (Operand.tmp 34), some (33, true)⟩,
    ⟨some 36, Op.load 3 (Operand.tmp 8), some (33, true)⟩,
    ⟨some 37, Op.binOp BinOp.eql 3 (Operand.tmp 35) (Operand.tmp 36) 3, some (33, true)⟩,
    ⟨some 38, Op.pick (Operand.tmp 33) (Operand.tmp 37) (Operand.const (Value.bool false)), none⟩,
    ⟨some 39, Op.move (Operand.tmp 38), none⟩,
    ⟨some 40, Op.load 3 (Operand.tmp 9), some (39, true)⟩,
    ⟨some 41, Op.fieldAddr 40 (Operand.tmp 11) 6, some (39, true)⟩,
    ⟨some 42, Op.load 3 (Operand.tmp 41), some (39, true)⟩,
    ⟨some 43, Op.binOp BinOp.andNot 3 (Operand.tmp 40) (Operand.tmp 42) 3, some (39, true)⟩,
    ⟨some 44, Op.binOp BinOp.eql 3 (Operand.tmp 43) (Operand.const (Value.int IntKind.i64 0)) 3, some (39, true)⟩,
    ⟨some 45, Op.pick (Operand.tmp 39) (Operand.tmp 44) (Operand.const (Value.bool false)), none⟩])
  (.cond (Operand.tmp 45)
  (.seq (.ops [⟨none, Op.store 4 (Operand.tmp 10) (Operand.const (Value.bool true)), none⟩])
  .ret)
  .skip)))
theorem ir12_a0_eq : low (rc12 0).1 = ir12_a0 := by kernel_rfl
theorem ir12_b0_eq : low (rc12 0).2 = ir12_b0 := by kernel_rfl
noncomputable def ir12 : LC := (.seq (.ops [⟨some 7, Op.box 3 (Operand.tmp 2), none⟩,
    ⟨some 8, Op.box 3 (Operand.tmp 3), none⟩,
    ⟨some 9, Op.box 3 (Operand.tmp 4), none⟩,
    ⟨some 10, Op.alloc 4, none⟩])
  (.seq (.seq (.ops [⟨some 12, Op.move (Operand.tmp 0), none⟩,
    ⟨some 13, Op.call { callee := Callee.value (Operand.func 33), args := #[Operand.tmp 12], argTypes := #[24] }, none⟩,
    ⟨some 14, Op.unOp UnOp.not 4 (Operand.tmp 13), none⟩,
    ⟨some 15, Op.move (Operand.tmp 14), none⟩,
    ⟨some 16, Op.move (Operand.tmp 1), some (15, false)⟩,
    ⟨some 17, Op.call { callee := Callee.value (Operand.func 34), args := #[Operand.tmp 16], argTypes := #[3] }, some (15, false)⟩,
    ⟨some 18, Op.unOp UnOp.not 4 (Operand.tmp 17), some (15, false)⟩,
    ⟨some 19, Op.pick (Operand.tmp 15) (Operand.const (Value.bool true)) (Operand.tmp 18), none⟩,
    ⟨some 20, Op.move (Operand.tmp 19), none⟩,
    ⟨some 21, Op.load 3 (Operand.tmp 9), some (20, false)⟩,
    ⟨some 22, Op.call { callee := Callee.value (Operand.func 35), args := #[Operand.tmp 21], argTypes := #[3] }, some (20, false)⟩,
    ⟨some 23, Op.unOp UnOp.not 4 (Operand.tmp 22), some (20, false)⟩,
    ⟨some 24, Op.pick (Operand.tmp 20) (Operand.const (Value.bool true)) (Operand.tmp 23), none⟩])
  (.cond (Operand.tmp 24)
  (.seq (.ops [⟨none, Op.store 4 (Operand.tmp 10) (Operand.const (Value.bool false)), none⟩])
  .ret)
  .skip))
  (.seq (.seq (.ops [⟨some 25, Op.move (Operand.tmp 0), none⟩,
    ⟨some 26, Op.move (Operand.tmp 1), none⟩,
    ⟨some 27, Op.call { callee := Callee.value (Operand.func 15), args := #[Operand.tmp 25, Operand.tmp 26], argTypes := #[24, 3] }, none⟩])
  (.block 0 (.range (Operand.tmp 27) #[28] (rc12 0).1 (rc12 0).2)))
  (.seq (.ops [⟨none, Op.store 4 (Operand.tmp 10) (Operand.const (Value.bool false)), none⟩])
  .ret))))
theorem ir12_eq : (Try.f12.body.map low, Try.f12.ntmps, Try.f12.results.toList) = (some ir12, 46, [.cell 10 4]) := by kernel_rfl
def ir13_l0 : LC := (.seq (.seq (.ops [⟨some 13, Op.move (Operand.tmp 11), none⟩,
    ⟨some 14, Op.move (Operand.tmp 0), none⟩,
    ⟨some 15, Op.nilCheck (Operand.tmp 14), none⟩,
    ⟨some 16, Op.fieldAddr 29 (Operand.tmp 15) 0, none⟩,
    ⟨some 17, Op.load 27 (Operand.tmp 16), none⟩,
    ⟨some 18, Op.call { callee := Callee.builtin Builtin.len, args := #[Operand.tmp 17], argTypes := #[27] }, none⟩,
    ⟨some 19, Op.binOp BinOp.lss 3 (Operand.tmp 13) (Operand.tmp 18) 3, none⟩])
  (.cond (Operand.tmp 19)
  .skip
  (.exit 0)))
  (.seq (.block 1 (.seq (.ops [⟨some 22, Op.move (Operand.tmp 0), none⟩,
    ⟨some 23, Op.nilCheck (Operand.tmp 22), none⟩,
    ⟨some 24, Op.fieldAddr 29 (Operand.tmp 23) 0, none⟩,
    ⟨some 25, Op.load 27 (Operand.tmp 24), none⟩,
    ⟨some 26, Op.move (Operand.tmp 11), none⟩,
    ⟨some 27, Op.indexAddr 27 (Operand.tmp 25) (Operand.tmp 26), none⟩,
    ⟨some 28, Op.load 40 (Operand.tmp 27), none⟩,
    ⟨some 12, Op.alloc 40, none⟩,
    ⟨none, Op.store 40 (Operand.tmp 12) (Operand.tmp 28), none⟩])
  (.seq (.ops [⟨some 29, Op.move (Operand.tmp 4), none⟩,
    ⟨some 30, Op.call { callee := Callee.value (Operand.func 36), args := #[Operand.tmp 29], argTypes := #[3] }, none⟩,
    ⟨some 31, Op.move (Operand.tmp 30), none⟩,
    ⟨some 32, Op.fieldAddr 40 (Operand.tmp 12) 2, some (31, true)⟩,
    ⟨some 33, Op.load 3 (Operand.tmp 32), some (31, true)⟩,
    ⟨some 34, Op.move (Operand.tmp 1), some (31, true)⟩,
    ⟨some 35, Op.binOp BinOp.eql 3 (Operand.tmp 33) (Operand.tmp 34) 3, some (31, true)⟩,
    ⟨some 36, Op.pick (Operand.tmp 31) (Operand.tmp 35) (Operand.const (Value.bool false)), none⟩,
    ⟨some 37, Op.move (Operand.tmp 36), none⟩,
    ⟨some 38, Op.fieldAddr 40 (Operand.tmp 12) 4, some (37, true)⟩,
    ⟨some 39, Op.load 3 (Operand.tmp 38), some (37, true)⟩,
    ⟨some 40, Op.move (Operand.tmp 2), some (37, true)⟩,
    ⟨some 41, Op.binOp BinOp.eql 3 (Operand.tmp 39) (Operand.tmp 40) 3, some (37, true)⟩,
    ⟨some 42, Op.pick (Operand.tmp 37) (Operand.tmp 41) (Operand.const (Value.bool false)), none⟩,
    ⟨some 43, Op.move (Operand.tmp 42), none⟩,
    ⟨some 44, Op.fieldAddr 40 (Operand.tmp 12) 5, some (43, true)⟩,
    ⟨some 45, Op.load 3 (Operand.tmp 44), some (43, true)⟩,
    ⟨some 46, Op.move (Operand.tmp 3), some (43, true)⟩,
    ⟨some 47, Op.binOp BinOp.eql 3 (Operand.tmp 45) (Operand.tmp 46) 3, some (43, true)⟩,
    ⟨some 48, Op.pick (Operand.tmp 43) (Operand.tmp 47) (Operand.const (Value.bool false)), none⟩,
    ⟨some 49, Op.move (Operand.tmp 48), none⟩,
    ⟨some 50, Op.move (Operand.tmp 4), some (49, true)⟩,
    ⟨some 51, Op.fieldAddr 40 (Operand.tmp 12) 6, some (49, true)⟩,
    ⟨some 52, Op.load 3 (Operand.tmp 51), some (49, true)⟩,
    ⟨some 53, Op.call { callee := Callee.value (Operand.func 37), args := #[Operand.tmp 50, Operand.tmp 52], argTypes := #[3, 3] }, some (49, true)⟩,
    ⟨some 54, Op.pick (Operand.tmp 49) (Operand.tmp 53) (Operand.const (Value.bool false)), none⟩])
  (.cond (Operand.tmp 54)
  (.seq (.ops [⟨some 10, Op.assign (Operand.const (Value.bool true)), none⟩])
  .ret)
  .skip))))
  (.ops [⟨some 20, Op.move (Operand.tmp 11), none⟩,
    ⟨some 21, Op.binOp BinOp.add 3 (Operand.tmp 20) (Operand.const (Value.int IntKind.i64 1)) 3, none⟩,
    ⟨some 11, Op.assign (Operand.tmp 21), none⟩])))
def ir13 : LC := (.seq (.ops [⟨some 10, Op.assign (Operand.const (Value.bool false)), none⟩])
  (.seq (.seq (.ops [⟨some 11, Op.assign (Operand.const (Value.int IntKind.i64 0)), none⟩])
  (.block 0 (.loop ir13_l0)))
  (.seq (.ops [⟨some 10, Op.assign (Operand.const (Value.bool false)), none⟩])
  .ret)))
theorem ir13_eq : (Try.f13.body.map low, Try.f13.ntmps, Try.f13.results.toList) = (some ir13, 55, [.tmp 10]) := by kernel_rfl
def ir14 : LC := (.seq (.ops [⟨some 3, Op.box 32 (Operand.tmp 1), none⟩])
  (.seq (.ops [⟨some 4, Op.fieldAddr 32 (Operand.tmp 3) 0, none⟩,
    ⟨some 5, Op.load 3 (Operand.tmp 4), none⟩])
  (.block 0 (.seq (.ops [⟨some 7, Op.binOp BinOp.eql 3 (Operand.tmp 5) (Operand.const (Value.int IntKind.i64 1)) 3, none⟩,
    ⟨some 6, Op.assign (Operand.tmp 7), none⟩])
  (.cond (Operand.tmp 6)
  (.ops [⟨some 8, Op.move (Operand.tmp 0), none⟩,
    ⟨some 9, Op.fieldAddr 32 (Operand.tmp 3) 1, none⟩,
    ⟨some 10, Op.load 3 (Operand.tmp 9), none⟩,
    ⟨some 11, Op.fieldAddr 32 (Operand.tmp 3) 3, none⟩,
    ⟨some 12, Op.load 3 (Operand.tmp 11), none⟩,
    ⟨some 13, Op.fieldAddr 32 (Operand.tmp 3) 4, none⟩,
    ⟨some 14, Op.load 3 (Operand.tmp 13), none⟩,
    ⟨some 15, Op.fieldAddr 32 (Operand.tmp 3) 5, none⟩,
    ⟨some 16, Op.load 3 (Operand.tmp 15), none⟩,
    ⟨some 17, Op.call { callee := Callee.value (Operand.func 20), args := #[Operand.tmp 8, Operand.tmp 10, Operand.tmp 12, Operand.tmp 14, Operand.tmp 16], argTypes := #[24, 3, 3, 3, 3] }, none⟩])
  (.seq (.ops [⟨some 19, Op.binOp BinOp.eql 3 (Operand.tmp 5) (Operand.const (Value.int IntKind.i64 2)) 3, none⟩,
    ⟨some 18, Op.assign (Operand.tmp 19), none⟩])
  (.cond (Operand.tmp 18)
  (.ops [⟨some 20, Op.move (Operand.tmp 0), none⟩,
    ⟨some 21, Op.fieldAddr 32 (Operand.tmp 3) 1, none⟩,
    ⟨some 22, Op.load 3 (Operand.tmp 21), none⟩,
    ⟨some 23, Op.fieldAddr 32 (Operand.tmp 3) 6, none⟩,
    ⟨some 24, Op.load 2 (Operand.tmp 23), none⟩,
    ⟨some 25, Op.fieldAddr 32 (Operand.tmp 3) 5, none⟩,
    ⟨some 26, Op.load 3 (Operand.tmp 25), none⟩,
    ⟨some 27, Op.call { callee := Callee.value (Operand.func 21), args := #[Operand.tmp 20, Operand.tmp 22, Operand.tmp 24, Operand.tmp 26], argTypes := #[24, 3, 2, 3] }, none⟩])
  (.seq (.ops [⟨some 29, Op.binOp BinOp.eql 3 (Operand.tmp 5) (Operand.const (Value.int IntKind.i64 3)) 3, none⟩,
    ⟨some 28, Op.assign (Operand.tmp 29), none⟩])
  (.cond (Operand.tmp 28)
  (.ops [⟨some 30, Op.move (Operand.tmp 0), none⟩,
    ⟨some 31, Op.fieldAddr 32 (Operand.tmp 3) 1, none⟩,
    ⟨some 32, Op.load 3 (Operand.tmp 31), none⟩,
    ⟨some 33, Op.fieldAddr 32 (Operand.tmp 3) 6, none⟩,
    ⟨some 34, Op.load 2 (Operand.tmp 33), none⟩,
    ⟨some 35, Op.fieldAddr 32 (Operand.tmp 3) 2, none⟩,
    ⟨some 36, Op.load 3 (Operand.tmp 35), none⟩,
    ⟨some 37, Op.fieldAddr 32 (Operand.tmp 3) 5, none⟩,
    ⟨some 38, Op.load 3 (Operand.tmp 37), none⟩,
    ⟨some 39, Op.call { callee := Callee.value (Operand.func 26), args := #[Operand.tmp 30, Operand.tmp 32, Operand.tmp 34, Operand.tmp 36, Operand.tmp 38], argTypes := #[24, 3, 2, 3, 3] }, none⟩])
  (.seq (.ops [⟨some 41, Op.binOp BinOp.eql 3 (Operand.tmp 5) (Operand.const (Value.int IntKind.i64 4)) 3, none⟩,
    ⟨some 40, Op.assign (Operand.tmp 41), none⟩])
  (.cond (Operand.tmp 40)
  (.ops [⟨some 42, Op.move (Operand.tmp 0), none⟩,
    ⟨some 43, Op.fieldAddr 32 (Operand.tmp 3) 1, none⟩,
    ⟨some 44, Op.load 3 (Operand.tmp 43), none⟩,
    ⟨some 45, Op.fieldAddr 32 (Operand.tmp 3) 6, none⟩,
    ⟨some 46, Op.load 2 (Operand.tmp 45), none⟩,
    ⟨some 47, Op.call { callee := Callee.value (Operand.func 18), args := #[Operand.tmp 42, Operand.tmp 44, Operand.tmp 46], argTypes := #[24, 3, 2] }, none⟩])
  (.seq (.ops [⟨some 49, Op.binOp BinOp.eql 3 (Operand.tmp 5) (Operand.const (Value.int IntKind.i64 5)) 3, none⟩,
    ⟨some 48, Op.assign (Operand.tmp 49), none⟩])
  (.cond (Operand.tmp 48)
  (.ops [⟨some 50, Op.move (Operand.tmp 0), none⟩,
    ⟨some 51, Op.fieldAddr 32 (Operand.tmp 3) 1, none⟩,
    ⟨some 52, Op.load 3 (Operand.tmp 51), none⟩,
    ⟨some 53, Op.fieldAddr 32 (Operand.tmp 3) 6, none⟩,
    ⟨some 54, Op.load 2 (Operand.tmp 53), none⟩,
    ⟨some 55, Op.call { callee := Callee.value (Operand.func 19), args := #[Operand.tmp 50, Operand.tmp 52, Operand.tmp 54], argTypes := #[24, 3, 2] }, none⟩])
  .skip)))))))))))))
theorem ir14_eq : (Try.f14.body.map low, Try.f14.ntmps, Try.f14.results.toList) = (some ir14, 56, []) := by kernel_rfl
def ir15_l0 : LC := (.seq (.ops [⟨some 19, Op.binOp BinOp.lss 3 (Operand.tmp 18) (Operand.tmp 17) 3, none⟩])
  (.seq (.cond (Operand.tmp 19)
  .skip
  (.exit 0))
  (.seq (.block 1 (.seq (.ops [⟨some 20, Op.indexAddr 45 (Operand.tmp 16) (Operand.tmp 18), none⟩,
    ⟨some 21, Op.load 2 (Operand.tmp 20), none⟩,
    ⟨some 7, Op.assign (Operand.tmp 21), none⟩])
  (.seq (.ops [⟨some 22, Op.move (Operand.tmp 0), none⟩,
    ⟨some 23, Op.nilCheck (Operand.tmp 22), none⟩,
    ⟨some 24, Op.fieldAddr 61 (Operand.tmp 23) 0, none⟩,
    ⟨some 25, Op.load 59 (Operand.tmp 24), none⟩,
    ⟨some 26, Op.move (Operand.tmp 7), none⟩,
    ⟨some 27, Op.lookup 59 (Operand.tmp 25) (Operand.tmp 26) false, none⟩,
    ⟨some 8, Op.alloc 40, none⟩,
    ⟨none, Op.store 40 (Operand.tmp 8) (Operand.tmp 27), none⟩])
  (.seq (.ops [⟨some 28, Op.move (Operand.tmp 1), none⟩,
    ⟨some 29, Op.binOp BinOp.lss 3 (Operand.tmp 28) (Operand.const (Value.int IntKind.i64 0)) 3, none⟩,
    ⟨some 30, Op.move (Operand.tmp 29), none⟩,
    ⟨some 31, Op.fieldAddr 40 (Operand.tmp 8) 2, some (30, false)⟩,
    ⟨some 32, Op.load 3 (Operand.tmp 31), some (30, false)⟩,
    ⟨some 33, Op.move (Operand.tmp 1), some (30, false)⟩,
    ⟨some 34, Op.binOp BinOp.eql 3 (Operand.tmp 32) (Operand.tmp 33) 3, some (30, false)⟩,
    ⟨some 35, Op.pick (Operand.tmp 30) (Operand.const (Value.bool true)) (Operand.tmp 34), none⟩])
  (.cond (Operand.tmp 35)
  (.ops [⟨some 36, Op.load 27 (Operand.tmp 5), none⟩,
    ⟨some 37, Op.load 40 (Operand.tmp 8), none⟩,
    ⟨some 38, Op.buildSlice 27 1 #[(0, Operand.tmp 37)], none⟩,
    ⟨some 39, Op.call { callee := Callee.builtin Builtin.append, args := #[Operand.tmp 36, Operand.tmp 38], argTypes := #[27, 27] }, none⟩,
    ⟨none, Op.store 27 (Operand.tmp 5) (Operand.tmp 39), none⟩])
  .skip)))))
  (.ops [⟨some 40, Op.binOp BinOp.add 3 (Operand.tmp 18) (Operand.const (Value.int IntKind.i64 1)) 3, none⟩,
    ⟨some 18, Op.move (Operand.tmp 40), none⟩]))))
def ir15 : LC := (.seq (.ops [⟨some 4, Op.assign (Operand.const Value.nilFunc), none⟩])
  (.seq (.ops [⟨some 5, Op.alloc 27, none⟩])
  (.seq (.seq (.ops [⟨some 9, Op.move (Operand.tmp 0), none⟩,
    ⟨some 10, Op.call { callee := Callee.value (Operand.func 33), args := #[Operand.tmp 9], argTypes := #[24] }, none⟩])
  (.cond (Operand.tmp 10)
  (.seq (.ops [⟨some 11, Op.move (Operand.tmp 0), none⟩,
    ⟨some 12, Op.nilCheck (Operand.tmp 11), none⟩,
    ⟨some 13, Op.fieldAddr 61 (Operand.tmp 12) 0, none⟩,
    ⟨some 14, Op.load 59 (Operand.tmp 13), none⟩,
    ⟨some 15, Op.call { callee := Callee.value (Operand.func 39), args := #[Operand.tmp 14], argTypes := #[59] }, none⟩,
    ⟨some 16, Op.call { callee := Callee.value (Operand.func 38), args := #[Operand.tmp 15], argTypes := #[76] }, none⟩,
    ⟨some 17, Op.call { callee := Callee.builtin Builtin.len, args := #[Operand.tmp 16], argTypes := #[45] }, none⟩,
    ⟨some 18, Op.move (Operand.const (Value.int IntKind.i64 0)), none⟩])
  (.block 0 (.loop ir15_l0)))
  .skip))
  (.seq (.ops [⟨some 41, Op.makeFunc (Fn.func 40) #[] #[Operand.tmp 5], none⟩,
    ⟨some 4, Op.assign (Operand.tmp 41), none⟩])
  .ret))))
theorem ir15_eq : (Try.f15.body.map low, Try.f15.ntmps, Try.f15.results.toList) = (some ir15, 42, [.tmp 4]) := by kernel_rfl
def ir16 : LC := (.seq (.ops [⟨some 4, Op.alloc 40, none⟩,
    ⟨some 5, Op.assign (Operand.const (Value.int IntKind.i64 0)), none⟩])
  (.seq (.seq (.ops [⟨some 8, Op.move (Operand.tmp 0), none⟩,
    ⟨some 9, Op.call { callee := Callee.value (Operand.func 33), args := #[Operand.tmp 8], argTypes := #[24] }, none⟩,
    ⟨some 10, Op.unOp UnOp.not 4 (Operand.tmp 9), none⟩])
  (.cond (Operand.tmp 10)
  (.seq (.ops [⟨some 11, Op.build 40 #[], none⟩,
    ⟨none, Op.store 40 (Operand.tmp 4) (Operand.tmp 11), none⟩,
    ⟨some 5, Op.assign (Operand.const (Value.int IntKind.i64 1)), none⟩])
  .ret)
  .skip))
  (.seq (.ops [⟨some 13, Op.move (Operand.tmp 0), none⟩,
    ⟨some 14, Op.nilCheck (Operand.tmp 13), none⟩,
    ⟨some 15, Op.fieldAddr 61 (Operand.tmp 14) 0, none⟩,
    ⟨some 16, Op.load 59 (Operand.tmp 15), none⟩,
    ⟨some 17, Op.move (Operand.tmp 1), none⟩,
    ⟨some 18, Op.lookup 59 (Operand.tmp 16) (Operand.tmp 17) true, none⟩,
    ⟨some 12, Op.move (Operand.tmp 18), none⟩,
    ⟨some 19, Op.extract (Operand.tmp 12) 0, none⟩,
    ⟨some 20, Op.extract (Operand.tmp 12) 1, none⟩,
    ⟨some 6, Op.alloc 40, none⟩,
    ⟨none, Op.store 40 (Operand.tmp 6) (Operand.tmp 19), none⟩,
    ⟨some 7, Op.assign (Operand.tmp 20), none⟩])
  (.seq (.seq (.ops [⟨some 21, Op.move (Operand.tmp 7), none⟩,
    ⟨some 22, Op.unOp UnOp.not 4 (Operand.tmp 21), none⟩])
  (.cond (Operand.tmp 22)
  (.seq (.ops [⟨some 23, Op.build 40 #[], none⟩,
    ⟨none, Op.store 40 (Operand.tmp 4) (Operand.tmp 23), none⟩,
    ⟨some 5, Op.assign (Operand.const (Value.int IntKind.i64 6)), none⟩])
  .ret)
  .skip))
  (.seq (.ops [⟨some 24, Op.load 40 (Operand.tmp 6), none⟩,
    ⟨none, Op.store 40 (Operand.tmp 4) (Operand.tmp 24), none⟩,
    ⟨some 5, Op.assign (Operand.const (Value.int IntKind.i64 0)), none⟩])
  .ret)))))
theorem ir16_eq : (Try.f16.body.map low, Try.f16.ntmps, Try.f16.results.toList) = (some ir16, 25, [.cell 4 40, .tmp 5]) := by kernel_rfl
def ir17_l0 : LC := (.seq (.seq (.ops [⟨some 30, Op.fieldAddr 40 (Operand.tmp 10) 0, none⟩,
    ⟨some 31, Op.load 2 (Operand.tmp 30), none⟩,
    ⟨some 32, Op.move (Operand.tmp 1), none⟩,
    ⟨some 33, Op.binOp BinOp.neq 2 (Operand.tmp 31) (Operand.tmp 32) 2, none⟩,
    ⟨some 34, Op.move (Operand.tmp 33), none⟩,
    ⟨some 35, Op.fieldAddr 40 (Operand.tmp 10) 1, some (34, true)⟩,
    ⟨some 36, Op.load 2 (Operand.tmp 35), some (34, true)⟩,
    ⟨some 37, Op.binOp BinOp.neq 2 (Operand.tmp 36) (Operand.const (Value.int IntKind.i64 0)) 2, some (34, true)⟩,
    ⟨some 38, Op.pick (Operand.tmp 34) (Operand.tmp 37) (Operand.const (Value.bool false)), none⟩])
  (.cond (Operand.tmp 38)
  .skip
  (.exit 0)))
  (.block 1 (.draw [⟨some 39, Op.move (Operand.tmp 0), none⟩,
    ⟨some 40, Op.nilCheck (Operand.tmp 39), none⟩,
    ⟨some 41, Op.fieldAddr 61 (Operand.tmp 40) 0, none⟩,
    ⟨some 42, Op.load 59 (Operand.tmp 41), none⟩,
    ⟨some 43, Op.fieldAddr 40 (Operand.tmp 10) 1, none⟩,
    ⟨some 44, Op.load 2 (Operand.tmp 43), none⟩,
    ⟨some 45, Op.lookup 59 (Operand.tmp 42) (Operand.tmp 44) false, none⟩,
    ⟨none, Op.store 40 (Operand.tmp 10) (Operand.tmp 45), none⟩] [])))
def ir17 : LC := (.seq (.ops [⟨some 6, Op.assign (Operand.const (Value.bool false)), none⟩,
    ⟨some 7, Op.assign (Operand.const (Value.int IntKind.i64 0)), none⟩])
  (.seq (.seq (.ops [⟨some 13, Op.move (Operand.tmp 0), none⟩,
    ⟨some 14, Op.move (Operand.tmp 1), none⟩,
    ⟨some 15, Op.call { callee := Callee.value (Operand.func 16), args := #[Operand.tmp 13, Operand.tmp 14], argTypes := #[24, 2] }, none⟩,
    ⟨some 12, Op.move (Operand.tmp 15), none⟩,
    ⟨some 16, Op.extract (Operand.tmp 12) 0, none⟩,
    ⟨some 17, Op.extract (Operand.tmp 12) 1, none⟩,
    ⟨some 8, Op.alloc 40, none⟩,
    ⟨none, Op.store 40 (Operand.tmp 8) (Operand.tmp 16), none⟩,
    ⟨some 9, Op.assign (Operand.tmp 17), none⟩])
  (.seq (.ops [⟨some 18, Op.move (Operand.tmp 9), none⟩,
    ⟨some 19, Op.binOp BinOp.neq 41 (Operand.tmp 18) (Operand.const (Value.int IntKind.i64 0)) 41, none⟩])
  (.cond (Operand.tmp 19)
  (.seq (.ops [⟨some 20, Op.move (Operand.tmp 9), none⟩,
    ⟨some 6, Op.assign (Operand.const (Value.bool false)), none⟩,
    ⟨some 7, Op.assign (Operand.tmp 20), none⟩])
  .ret)
  .skip)))
  (.seq (.ops [⟨some 22, Op.move (Operand.tmp 0), none⟩,
    ⟨some 23, Op.move (Operand.tmp 2), none⟩,
    ⟨some 24, Op.call { callee := Callee.value (Operand.func 16), args := #[Operand.tmp 22, Operand.tmp 23], argTypes := #[24, 2] }, none⟩,
    ⟨some 21, Op.move (Operand.tmp 24), none⟩,
    ⟨some 25, Op.extract (Operand.tmp 21) 0, none⟩,
    ⟨some 26, Op.extract (Operand.tmp 21) 1, none⟩,
    ⟨some 10, Op.alloc 40, none⟩,
    ⟨none, Op.store 40 (Operand.tmp 10) (Operand.tmp 25), none⟩,
    ⟨some 11, Op.assign (Operand.tmp 26), none⟩])
  (.seq (.seq (.ops [⟨some 27, Op.move (Operand.tmp 11), none⟩,
    ⟨some 28, Op.binOp BinOp.neq 41 (Operand.tmp 27) (Operand.const (Value.int IntKind.i64 0)) 41, none⟩])
  (.cond (Operand.tmp 28)
  (.seq (.ops [⟨some 29, Op.move (Operand.tmp 11), none⟩,
    ⟨some 6, Op.assign (Operand.const (Value.bool false)), none⟩,
    ⟨some 7, Op.assign (Operand.tmp 29), none⟩])
  .ret)
  .skip))
  (.seq (.block 0 (.loop ir17_l0))
  (.seq (.ops [⟨some 46, Op.fieldAddr 40 (Operand.tmp 10) 0, none⟩,
    ⟨some 47, Op.load 2 (Operand.tmp 46), none⟩,
    ⟨some 48, Op.move (Operand.tmp 1), none⟩,
    ⟨some 49, Op.binOp BinOp.eql 2 (Operand.tmp 47) (Operand.tmp 48) 2, none⟩,
    ⟨some 6, Op.assign (Operand.tmp 49), none⟩,
    ⟨some 7, Op.assign (Operand.const (Value.int IntKind.i64 0)), none⟩])
  .ret))))))
theorem ir17_eq : (Try.f17.body.map low, Try.f17.ntmps, Try.f17.results.toList) = (some ir17, 50, [.tmp 6, .tmp 7]) := by kernel_rfl
def ir18 : LC := (.seq (.ops [⟨some 6, Op.assign (Operand.const (Value.int IntKind.i64 0)), none⟩,
    ⟨some 7, Op.assign (Operand.const (Value.int IntKind.i64 0)), none⟩])
  (.seq (.seq (.ops [⟨some 11, Op.move (Operand.tmp 0), none⟩,
    ⟨some 12, Op.move (Operand.tmp 1), none⟩,
    ⟨some 13, Op.move (Operand.tmp 2), none⟩,
    ⟨some 14, Op.call { callee := Callee.value (Operand.func 41), args := #[Operand.tmp 11, Operand.tmp 12, Operand.tmp 13], argTypes := #[24, 3, 2] }, none⟩,
    ⟨some 10, Op.move (Operand.tmp 14), none⟩,
    ⟨some 15, Op.extract (Operand.tmp 10) 0, none⟩,
    ⟨some 16, Op.extract (Operand.tmp 10) 1, none⟩,
    ⟨some 8, Op.alloc 40, none⟩,
    ⟨none, Op.store 40 (Operand.tmp 8) (Operand.tmp 15), none⟩,
    ⟨some 9, Op.assign (Operand.tmp 16), none⟩])
  (.seq (.ops [⟨some 17, Op.move (Operand.tmp 9), none⟩,
    ⟨some 18, Op.binOp BinOp.neq 41 (Operand.tmp 17) (Operand.const (Value.int IntKind.i64 0)) 41, none⟩])
  (.cond (Operand.tmp 18)
  (.seq (.ops [⟨some 19, Op.move (Operand.tmp 9), none⟩,
    ⟨some 6, Op.assign (Operand.const (Value.int IntKind.i64 0)), none⟩,
    ⟨some 7, Op.assign (Operand.tmp 19), none⟩])
  .ret)
  .skip)))
  (.seq (.ops [⟨some 20, Op.move (Operand.tmp 0), none⟩,
    ⟨some 21, Op.move (Operand.tmp 2), none⟩,
    ⟨some 22, Op.call { callee := Callee.value (Operand.func 42), args := #[Operand.tmp 20, Operand.tmp 21], argTypes := #[24, 2] }, none⟩,
    ⟨some 6, Op.assign (Operand.tmp 22), none⟩,
    ⟨some 7, Op.assign (Operand.const (Value.int IntKind.i64 0)), none⟩])
  .ret)))
theorem ir18_eq : (Try.f18.body.map low, Try.f18.ntmps, Try.f18.results.toList) = (some ir18, 23, [.tmp 6, .tmp 7]) := by kernel_rfl
def ir19 : LC := (.seq (.ops [⟨some 6, Op.assign (Operand.const (Value.int IntKind.i64 0)), none⟩,
    ⟨some 7, Op.assign (Operand.const (Value.int IntKind.i64 0)), none⟩])
  (.seq (.seq (.ops [⟨some 12, Op.move (Operand.tmp 0), none⟩,
    ⟨some 13, Op.move (Operand.tmp 1), none⟩,
    ⟨some 14, Op.move (Operand.tmp 2), none⟩,
    ⟨some 15, Op.call { callee := Callee.value (Operand.func 41), args := #[Operand.tmp 12, Operand.tmp 13, Operand.tmp 14], argTypes := #[24, 3, 2] }, none⟩,
    ⟨some 11, Op.move (Operand.tmp 15), none⟩,
    ⟨some 16, Op.extract (Operand.tmp 11) 0, none⟩,
    ⟨some 17, Op.extract (Operand.tmp 11) 1, none⟩,
    ⟨some 8, Op.alloc 40, none⟩,
    ⟨none, Op.store 40 (Operand.tmp 8) (Operand.tmp 16), none⟩,
    ⟨some 9, Op.assign (Operand.tmp 17), none⟩])
  (.seq (.ops [⟨some 18, Op.move (Operand.tmp 9), none⟩,
    ⟨some 19, Op.binOp BinOp.neq 41 (Operand.tmp 18) (Operand.const (Value.int IntKind.i64 0)) 41, none⟩])
  (.cond (Operand.tmp 19)
  (.seq (.ops [⟨some 20, Op.move (Operand.tmp 9), none⟩,
    ⟨some 6, Op.assign (Operand.const (Value.int IntKind.i64 0)), none⟩,
    ⟨some 7, Op.assign (Operand.tmp 20), none⟩])
  .ret)
  .skip)))
  (.seq (.ops [⟨some 21, Op.move (Operand.tmp 0), none⟩,
    ⟨some 22, Op.move (Operand.tmp 2), none⟩,
    ⟨some 23, Op.call { callee := Callee.value (Operand.func 42), args := #[Operand.tmp 21, Operand.tmp 22], argTypes := #[24, 2] }, none⟩,
    ⟨some 10, Op.assign (Operand.tmp 23), none⟩])
  (.seq (.ops [⟨some 24, Op.move (Operand.tmp 0), none⟩,
    ⟨some 25, Op.nilCheck (Operand.tmp 24), none⟩,
    ⟨some 26, Op.fieldAddr 61 (Operand.tmp 25) 0, none⟩,
    ⟨some 27, Op.load 59 (Operand.tmp 26), none⟩,
    ⟨some 28, Op.move (Operand.tmp 2), none⟩,
    ⟨none, Op.call { callee := Callee.builtin Builtin.delete, args := #[Operand.tmp 27, Operand.tmp 28], argTypes := #[59, 2] }, none⟩])
  (.seq (.ops [⟨some 29, Op.move (Operand.tmp 10), none⟩,
    ⟨some 30, Op.binOp BinOp.add 3 (Operand.tmp 29) (Operand.const (Value.int IntKind.i64 1)) 3, none⟩,
    ⟨some 6, Op.assign (Operand.tmp 30), none⟩,
    ⟨some 7, Op.assign (Operand.const (Value.int IntKind.i64 0)), none⟩])
  .ret)))))
theorem ir19_eq : (Try.f19.body.map low, Try.f19.ntmps, Try.f19.results.toList) = (some ir19, 31, [.tmp 6, .tmp 7]) := by kernel_rfl
def ir20 : LC := (.seq (.ops [⟨some 10, Op.assign (Operand.const (Value.int IntKind.i64 0)), none⟩,
    ⟨some 11, Op.assign (Operand.const (Value.int IntKind.i64 0)), none⟩])
  (.seq (.block 0 (.seq (.ops [⟨some 13, Op.move (Operand.tmp 0), none⟩,
    ⟨some 14, Op.call { callee := Callee.value (Operand.func 33), args := #[Operand.tmp 13], argTypes := #[24] }, none⟩,
    ⟨some 15, Op.unOp UnOp.not 4 (Operand.tmp 14), none⟩,
    ⟨some 12, Op.assign (Operand.tmp 15), none⟩])
  (.cond (Operand.tmp 12)
  (.seq (.ops [⟨some 10, Op.assign (Operand.const (Value.int IntKind.i64 0)), none⟩,
    ⟨some 11, Op.assign (Operand.const (Value.int IntKind.i64 1)), none⟩])
  .ret)
  (.seq (.ops [⟨some 17, Op.move (Operand.tmp 1), none⟩,
    ⟨some 18, Op.call { callee := Callee.value (Operand.func 34), args := #[Operand.tmp 17], argTypes := #[3] }, none⟩,
    ⟨some 19, Op.unOp UnOp.not 4 (Operand.tmp 18), none⟩,
    ⟨some 20, Op.move (Operand.tmp 19), none⟩,
    ⟨some 21, Op.move (Operand.tmp 2), some (20, false)⟩,
    ⟨some 22, Op.binOp BinOp.lss 3 (Operand.tmp 21) (Operand.const (Value.int IntKind.i64 0)) 3, some (20, false)⟩,
    ⟨some 23, Op.pick (Operand.tmp 20) (Operand.const (Value.bool true)) (Operand.tmp 22), none⟩,
    ⟨some 24, Op.move (Operand.tmp 23), none⟩,
    ⟨some 25, Op.move (Operand.tmp 3), some (24, false)⟩,
    ⟨some 26, Op.binOp BinOp.lss 3 (Operand.tmp 25) (Operand.const (Value.int IntKind.i64 0)) 3, some (24, false)⟩,
    ⟨some 27, Op.pick (Operand.tmp 24) (Operand.const (Value.bool true)) (Operand.tmp 26), none⟩,
    ⟨some 28, Op.move (Operand.tmp 27), none⟩,
    ⟨some 29, Op.move (Operand.tmp 4), some (28, false)⟩,
    ⟨some 30, Op.call { callee := Callee.value (Operand.func 35), args := #[Operand.tmp 29], argTypes := #[3] }, some (28, false)⟩,
    ⟨some 31, Op.unOp UnOp.not 4 (Operand.tmp 30), some (28, false)⟩,
    ⟨some 32, Op.pick (Operand.tmp 28) (Operand.const (Value.bool true)) (Operand.tmp 31), none⟩,
    ⟨some 16, Op.assign (Operand.tmp 32), none⟩])
  (.cond (Operand.tmp 16)
  (.seq (.ops [⟨some 10, Op.assign (Operand.const (Value.int IntKind.i64 0)), none⟩,
    ⟨some 11, Op.assign (Operand.const (Value.int IntKind.i64 2)), none⟩])
  .ret)
  .skip)))))
  (.seq (.ops [⟨some 33, Op.move (Operand.tmp 0), none⟩,
    ⟨some 34, Op.move (Operand.tmp 1), none⟩,
    ⟨some 35, Op.move (Operand.tmp 1), none⟩,
    ⟨some 36, Op.move (Operand.tmp 2), none⟩,
    ⟨some 37, Op.move (Operand.tmp 3), none⟩,
    ⟨some 38, Op.move (Operand.tmp 4), none⟩,
    ⟨some 39, Op.build 40 #[(2, Operand.tmp 34), (3, Operand.tmp 35), (4, Operand.tmp 36), (5, Operand.tmp 37), (6, Operand.tmp 38)], none⟩,
    ⟨some 40, Op.call { callee := Callee.value (Operand.func 43), args := #[Operand.tmp 33, Operand.tmp 39], argTypes := #[24, 40] }, none⟩,
    ⟨some 41, Op.extract (Operand.tmp 40) 0, none⟩,
    ⟨some 42, Op.extract (Operand.tmp 40) 1, none⟩,
    ⟨some 10, Op.assign (Operand.tmp 41), none⟩,
    ⟨some 11, Op.assign (Operand.tmp 42), none⟩])
  .ret)))
theorem ir20_eq : (Try.f20.body.map low, Try.f20.ntmps, Try.f20.results.toList) = (some ir20, 43, [.tmp 10, .tmp 11]) := by kernel_rfl
def ir21 : LC := (.seq (.ops [⟨some 8, Op.assign (Operand.const (Value.int IntKind.i64 0)), none⟩,
    ⟨some 9, Op.assign (Operand.const (Value.int IntKind.i64 0)), none⟩])
  (.seq (.ops [⟨some 10, Op.move (Operand.tmp 0), none⟩,
    ⟨some 11, Op.move (Operand.tmp 1), none⟩,
    ⟨some 12, Op.move (Operand.tmp 2), none⟩,
    ⟨some 13, Op.move (Operand.tmp 1), none⟩,
    ⟨some 14, Op.move (Operand.tmp 3), none⟩,
    ⟨some 15, Op.call { callee := Callee.value (Operand.func 44), args := #[Operand.tmp 10, Operand.tmp 11, Operand.tmp 12, Operand.tmp 13, Operand.tmp 14, Operand.const (Value.int IntKind.i64 0)], argTypes := #[24, 3, 2, 3, 3, 3] }, none⟩,
    ⟨some 16, Op.extract (Operand.tmp 15) 0, none⟩,
    ⟨some 17, Op.extract (Operand.tmp 15) 1, none⟩,
    ⟨some 8, Op.assign (Operand.tmp 16), none⟩,
    ⟨some 9, Op.assign (Operand.tmp 17), none⟩])
  .ret))
theorem ir21_eq : (Try.f21.body.map low, Try.f21.ntmps, Try.f21.results.toList) = (some ir21, 18, [.tmp 8, .tmp 9]) := by kernel_rfl
noncomputable def rc22 (i : Nat) : Code × Code := (((Try.f22.body.map rangesOf).getD [])[i]?).getD (.skip, .skip)
noncomputable def ir22_a0 : LC := (.ops [⟨some 4, Op.alloc 40, none⟩,
    ⟨none, Op.store 40 (Operand.tmp 4) (Operand.tmp 10), none⟩])
noncomputable def ir22_b0 : LC := (.block 1 (.seq (.ops [⟨some 11, Op.fieldAddr 40 (Operand.tmp 4) 3, none⟩,
    ⟨some 12, Op.load 3 (Operand.tmp 11), none⟩,
    ⟨some 13, Op.binOp BinOp.neq 3 (Operand.tmp 12) (Operand.const (Value.int IntKind.i64 1)) 3, none⟩])
  (.cond (Operand.tmp 13)
  (.seq (.ops [⟨none, Op.store 4 (Operand.tmp 2) (Operand.const (Value.bool true)), none⟩])
  .ret)
  .skip)))
theorem ir22_a0_eq : low (rc22 0).1 = ir22_a0 := by kernel_rfl
theorem ir22_b0_eq : low (rc22 0).2 = ir22_b0 := by kernel_rfl
noncomputable def ir22 : LC := (.seq (.ops [⟨some 2, Op.alloc 4, none⟩])
  (.seq (.ops [⟨some 5, Op.move (Operand.tmp 0), none⟩,
    ⟨some 6, Op.call { callee := Callee.value (Operand.func 15), args := #[Operand.tmp 5, Operand.const (Value.int IntKind.i64 1)], argTypes := #[24, 3] }, none⟩,
    ⟨some 3, Op.assign (Operand.tmp 6), none⟩])
  (.seq (.seq (.ops [⟨some 7, Op.move (Operand.tmp 3), none⟩,
    ⟨some 8, Op.binOp BinOp.eql 37 (Operand.tmp 7) (Operand.const Value.nilFunc) 37, none⟩])
  (.cond (Operand.tmp 8)
  (.seq (.ops [⟨none, Op.store 4 (Operand.tmp 2) (Operand.const (Value.bool false)), none⟩])
  .ret)
  .skip))
  (.seq (.seq (.ops [⟨some 9, Op.move (Operand.tmp 3), none⟩])
  (.block 0 (.range (Operand.tmp 9) #[10] (rc22 0).1 (rc22 0).2)))
  (.seq (.ops [⟨none, Op.store 4 (Operand.tmp 2) (Operand.const (Value.bool false)), none⟩])
  .ret)))))
theorem ir22_eq : (Try.f22.body.map low, Try.f22.ntmps, Try.f22.results.toList) = (some ir22, 14, [.cell 2 4]) := by kernel_rfl
def ir23 : LC := (.seq (.ops [⟨some 2, Op.assign (Operand.const (Value.pointer none)), none⟩])
  (.seq (.seq (.ops [⟨some 3, Op.move (Operand.tmp 0), none⟩,
    ⟨some 4, Op.call { callee := Callee.value (Operand.func 33), args := #[Operand.tmp 3], argTypes := #[24] }, none⟩,
    ⟨some 5, Op.unOp UnOp.not 4 (Operand.tmp 4), none⟩])
  (.cond (Operand.tmp 5)
  (.seq (.ops [⟨some 2, Op.assign (Operand.const (Value.pointer none)), none⟩])
  .ret)
  .skip))
  (.seq (.draw [⟨some 6, Op.move (Operand.tmp 0), none⟩,
    ⟨some 7, Op.nilCheck (Operand.tmp 6), none⟩,
    ⟨some 8, Op.fieldAddr 61 (Operand.tmp 7) 0, none⟩,
    ⟨some 9, Op.load 59 (Operand.tmp 8), none⟩,
    ⟨some 10, Op.call { callee := Callee.value (Operand.func 45), args := #[Operand.tmp 9], argTypes := #[59] }, none⟩,
    ⟨some 11, Op.move (Operand.tmp 0), none⟩,
    ⟨some 12, Op.nilCheck (Operand.tmp 11), none⟩,
    ⟨some 13, Op.fieldAddr 61 (Operand.tmp 12) 1, none⟩,
    ⟨some 14, Op.load 2 (Operand.tmp 13), none⟩,
    ⟨some 15, Op.build 61 #[(0, Operand.tmp 10), (1, Operand.tmp 14)], none⟩,
    ⟨some 16, Op.box 61 (Operand.tmp 15), none⟩,
    ⟨some 2, Op.assign (Operand.tmp 16), none⟩] [(4, 5), (4, 6), (4, 7), (4, 8)])
  .ret)))
theorem ir23_eq : (Try.f23.body.map low, Try.f23.ntmps, Try.f23.results.toList) = (some ir23, 17, [.tmp 2]) := by kernel_rfl
def ir24 : LC := (.seq (.ops [⟨some 2, Op.assign (Operand.const (Value.pointer none)), none⟩])
  (.seq (.draw [⟨some 3, Op.move (Operand.tmp 0), none⟩,
    ⟨some 4, Op.nilCheck (Operand.tmp 3), none⟩,
    ⟨some 5, Op.fieldAddr 29 (Operand.tmp 4) 0, none⟩,
    ⟨some 6, Op.load 27 (Operand.tmp 5), none⟩,
    ⟨some 7, Op.call { callee := Callee.builtin Builtin.append, args := #[Operand.const (Value.slice none 0 0), Operand.tmp 6], argTypes := #[27, 27] }, none⟩,
    ⟨some 8, Op.move (Operand.tmp 0), none⟩,
    ⟨some 9, Op.nilCheck (Operand.tmp 8), none⟩,
    ⟨some 10, Op.fieldAddr 29 (Operand.tmp 9) 1, none⟩,
    ⟨some 11, Op.load 2 (Operand.tmp 10), none⟩,
    ⟨some 12, Op.build 29 #[(0, Operand.tmp 7), (1, Operand.tmp 11)], none⟩,
    ⟨some 13, Op.box 29 (Operand.tmp 12), none⟩,
    ⟨some 2, Op.assign (Operand.tmp 13), none⟩] [(4, 5), (4, 6), (4, 7), (4, 8)])
  .ret))
theorem ir24_eq : (Try.f24.body.map low, Try.f24.ntmps, Try.f24.results.toList) = (some ir24, 14, [.tmp 2]) := by kernel_rfl
def ir25_l0 : LC := (.seq (.seq (.ops [⟨some 26, Op.move (Operand.tmp 7), none⟩,
    ⟨some 27, Op.binOp BinOp.lss 3 (Operand.tmp 26) (Operand.const (Value.int IntKind.i64 9)) 3, none⟩])
  (.cond (Operand.tmp 27)
  .skip
  (.exit 0)))
  (.seq (.block 1 (.seq (.ops [⟨some 30, Op.move (Operand.tmp 0), none⟩,
    ⟨some 31, Op.move (Operand.tmp 7), none⟩,
    ⟨some 32, Op.call { callee := Callee.value (Operand.func 27), args := #[Operand.tmp 30, Operand.tmp 31], argTypes := #[24, 3] }, none⟩,
    ⟨some 33, Op.move (Operand.tmp 1), none⟩,
    ⟨some 34, Op.move (Operand.tmp 7), none⟩,
    ⟨some 35, Op.call { callee := Callee.value (Operand.func 46), args := #[Operand.tmp 33, Operand.tmp 34], argTypes := #[26, 3] }, none⟩,
    ⟨some 36, Op.binOp BinOp.neq 3 (Operand.tmp 32) (Operand.tmp 35) 3, none⟩,
    ⟨some 37, Op.move (Operand.tmp 36), none⟩,
    ⟨some 38, Op.move (Operand.tmp 0), some (37, false)⟩,
    ⟨some 39, Op.move (Operand.tmp 1), some (37, false)⟩,
    ⟨some 40, Op.move (Operand.tmp 7), some (37, false)⟩,
    ⟨some 41, Op.move (Operand.tmp 2), some (37, false)⟩,
    ⟨some 42, Op.call { callee := Callee.value (Operand.func 29), args := #[Operand.tmp 38, Operand.tmp 39, Operand.tmp 40, Operand.tmp 41], argTypes := #[24, 26, 3, 3] }, some (37, false)⟩,
    ⟨some 43, Op.unOp UnOp.not 4 (Operand.tmp 42), some (37, false)⟩,
    ⟨some 44, Op.pick (Operand.tmp 37) (Operand.const (Value.bool true)) (Operand.tmp 43), none⟩])
  (.cond (Operand.tmp 44)
  (.seq (.ops [⟨some 6, Op.assign (Operand.const (Value.bool false)), none⟩])
  .ret)
  .skip)))
  (.ops [⟨some 28, Op.move (Operand.tmp 7), none⟩,
    ⟨some 29, Op.binOp BinOp.add 3 (Operand.tmp 28) (Operand.const (Value.int IntKind.i64 1)) 3, none⟩,
    ⟨some 7, Op.assign (Operand.tmp 29), none⟩])))
def ir25_l1 : LC := (.seq (.seq (.ops [⟨some 45, Op.move (Operand.tmp 8), none⟩,
    ⟨some 46, Op.move (Operand.tmp 1), none⟩,
    ⟨some 47, Op.nilCheck (Operand.tmp 46), none⟩,
    ⟨some 48, Op.fieldAddr 29 (Operand.tmp 47) 0, none⟩,
    ⟨some 49, Op.load 27 (Operand.tmp 48), none⟩,
    ⟨some 50, Op.call { callee := Callee.builtin Builtin.len, args := #[Operand.tmp 49], argTypes := #[27] }, none⟩,
    ⟨some 51, Op.binOp BinOp.lss 3 (Operand.tmp 45) (Operand.tmp 50) 3, none⟩])
  (.cond (Operand.tmp 51)
  .skip
  (.exit 2)))
  (.seq (.block 3 (.seq (.ops [⟨some 55, Op.move (Operand.tmp 0), none⟩,
    ⟨some 56, Op.move (Operand.tmp 1), none⟩,
    ⟨some 57, Op.nilCheck (Operand.tmp 56), none⟩,
    ⟨some 58, Op.fieldAddr 29 (Operand.tmp 57) 0, none⟩,
    ⟨some 59, Op.load 27 (Operand.tmp 58), none⟩,
    ⟨some 60, Op.move (Operand.tmp 8), none⟩,
    ⟨some 61, Op.indexAddr 27 (Operand.tmp 59) (Operand.tmp 60), none⟩,
    ⟨some 62, Op.fieldAddr 40 (Operand.tmp 61) 0, none⟩,
    ⟨some 63, Op.load 2 (Operand.tmp 62), none⟩,
    ⟨some 64, Op.call { callee := Callee.value (Operand.func 16), args := #[Operand.tmp 55, Operand.tmp 63], argTypes := #[24, 2] }, none⟩,
    ⟨some 54, Op.move (Operand.tmp 64), none⟩,
    ⟨some 65, Op.extract (Operand.tmp 54) 0, none⟩,
    ⟨some 66, Op.extract (Operand.tmp 54) 1, none⟩,
    ⟨some 9, Op.alloc 40, none⟩,
    ⟨none, Op.store 40 (Operand.tmp 9) (Operand.tmp 65), none⟩,
    ⟨some 10, Op.assign (Operand.tmp 66), none⟩])
  (.seq (.seq (.draw [⟨some 67, Op.move (Operand.tmp 10), none⟩,
    ⟨some 68, Op.binOp BinOp.neq 41 (Operand.tmp 67) (Operand.const (Value.int IntKind.i64 0)) 41, none⟩,
    ⟨some 69, Op.move (Operand.tmp 68), none⟩,
    ⟨some 70, Op.load 40 (Operand.tmp 9), some (69, false)⟩,
    ⟨some 71, Op.move (Operand.tmp 1), some (69, false)⟩,
    ⟨some 72, Op.nilCheck (Operand.tmp 71), some (69, false)⟩,
    ⟨some 73, Op.fieldAddr 29 (Operand.tmp 72) 0, some (69, false)⟩,
    ⟨some 74, Op.load 27 (Operand.tmp 73), some (69, false)⟩,
    ⟨some 75, Op.move (Operand.tmp 8), some (69, false)⟩,
    ⟨some 76, Op.indexAddr 27 (Operand.tmp 74) (Operand.tmp 75), some (69, false)⟩,
    ⟨some 77, Op.load 40 (Operand.tmp 76), some (69, false)⟩,
    ⟨some 78, Op.binOp BinOp.neq 40 (Operand.tmp 70) (Operand.tmp 77) 40, some (69, false)⟩,
    ⟨some 79, Op.pick (Operand.tmp 69) (Operand.const (Value.bool true)) (Operand.tmp 78), none⟩] [])
  (.cond (Operand.tmp 79)
  (.seq (.ops [⟨some 6, Op.assign (Operand.const (Value.bool false)), none⟩])
  .ret)
  .skip))
  (.seq (.ops [⟨some 80, Op.move (Operand.tmp 8), none⟩,
    ⟨some 81, Op.binOp BinOp.mul 3 (Operand.tmp 80) (Operand.const (Value.int IntKind.i64 7)) 3, none⟩,
    ⟨some 82, Op.move (Operand.tmp 2), none⟩,
    ⟨some 83, Op.binOp BinOp.and 3 (Operand.tmp 82) (Operand.const (Value.int IntKind.i64 15)) 3, none⟩,
    ⟨some 84, Op.binOp BinOp.add 3 (Operand.tmp 81) (Operand.tmp 83) 3, none⟩,
    ⟨some 85, Op.move (Operand.tmp 1), none⟩,
    ⟨some 86, Op.nilCheck (Operand.tmp 85), none⟩,
    ⟨some 87, Op.fieldAddr 29 (Operand.tmp 86) 0, none⟩,
    ⟨some 88, Op.load 27 (Operand.tmp 87), none⟩,
    ⟨some 89, Op.call { callee := Callee.builtin Builtin.len, args := #[Operand.tmp 88], argTypes := #[27] }, none⟩,
    ⟨some 90, Op.binOp BinOp.rem 3 (Operand.tmp 84) (Operand.tmp 89) 3, none⟩,
    ⟨some 11, Op.assign (Operand.tmp 90), none⟩])
  (.seq (.draw [⟨some 92, Op.move (Operand.tmp 0), none⟩,
    ⟨some 93, Op.move (Operand.tmp 1), none⟩,
    ⟨some 94, Op.nilCheck (Operand.tmp 93), none⟩,
    ⟨some 95, Op.fieldAddr 29 (Operand.tmp 94) 0, none⟩,
    ⟨some 96, Op.load 27 (Operand.tmp 95), none⟩,
    ⟨some 97, Op.move (Operand.tmp 11), none⟩,
    ⟨some 98, Op.indexAddr 27 (Operand.tmp 96) (Operand.tmp 97), none⟩,
    ⟨some 99, Op.fieldAddr 40 (Operand.tmp 98) 0, none⟩,
    ⟨some 100, Op.load 2 (Operand.tmp 99), none⟩,
    ⟨some 101, Op.move (Operand.tmp 1), none⟩,
    ⟨some 102, Op.nilCheck (Operand.tmp 101), none⟩,
    ⟨some 103, Op.fieldAddr 29 (Operand.tmp 102) 0, none⟩,
    ⟨some 104, Op.load 27 (Operand.tmp 103), none⟩,
    ⟨some 105, Op.move (Operand.tmp 8), none⟩,
    ⟨some 106, Op.indexAddr 27 (Operand.tmp 104) (Operand.tmp 105), none⟩,
    ⟨some 107, Op.fieldAddr 40 (Operand.tmp 106) 0, none⟩,
    ⟨some 108, Op.load 2 (Operand.tmp 107), none⟩,
    ⟨some 109, Op.call { callee := Callee.value (Operand.func 17), args := #[Operand.tmp 92, Operand.tmp 100, Operand.tmp 108], argTypes := #[24, 2, 2] }, none⟩,
    ⟨some 91, Op.move (Operand.tmp 109), none⟩,
    ⟨some 110, Op.extract (Operand.tmp 91) 0, none⟩,
    ⟨some 111, Op.extract (Operand.tmp 91) 1, none⟩,
    ⟨some 12, Op.assign (Operand.tmp 110), none⟩,
    ⟨some 13, Op.assign (Operand.tmp 111), none⟩] [])
  (.seq (.draw [⟨some 112, Op.move (Operand.tmp 13), none⟩,
    ⟨some 113, Op.binOp BinOp.neq 41 (Operand.tmp 112) (Operand.const (Value.int IntKind.i64 0)) 41, none⟩,
    ⟨some 114, Op.move (Operand.tmp 113), none⟩,
    ⟨some 115, Op.move (Operand.tmp 12), some (114, false)⟩,
    ⟨some 116, Op.move (Operand.tmp 1), some (114, false)⟩,
    ⟨some 117, Op.move (Operand.tmp 1), some (114, false)⟩,
    ⟨some 118, Op.nilCheck (Operand.tmp 117), some (114, false)⟩,
    ⟨some 119, Op.fieldAddr 29 (Operand.tmp 118) 0, some (114, false)⟩,
    ⟨some 120, Op.load 27 (Operand.tmp 119), some (114, false)⟩,
    ⟨some 121, Op.move (Operand.tmp 11), some (114, false)⟩,
    ⟨some 122, Op.indexAddr 27 (Operand.tmp 120) (Operand.tmp 121), some (114, false)⟩,
    ⟨some 123, Op.fieldAddr 40 (Operand.tmp 122) 0, some (114, false)⟩,
    ⟨some 124, Op.load 2 (Operand.tmp 123), some (114, false)⟩,
    ⟨some 125, Op.move (Operand.tmp 1), some (114, false)⟩,
    ⟨some 126, Op.nilCheck (Operand.tmp 125), some (114, false)⟩,
    ⟨some 127, Op.fieldAddr 29 (Operand.tmp 126) 0, some (114, false)⟩,
    ⟨some 128, Op.load 27 (Operand.tmp 127), some (114, false)⟩,
    ⟨some 129, Op.move (Operand.tmp 8), some (114, false)⟩,
    ⟨some 130, Op.indexAddr 27 (Operand.tmp 128) (Operand.tmp 129), some (114, false)⟩,
    ⟨some 131, Op.fieldAddr 40 (Operand.tmp 130) 0, some (114, false)⟩,
    ⟨some 132, Op.load 2 (Operand.tmp 131), some (114, false)⟩,
    ⟨some 133, Op.call { callee := Callee.value (Operand.func 47), args := #[Operand.tmp 116, Operand.tmp 124, Operand.tmp 132], argTypes := #[26, 2, 2] }, some (114, false)⟩,
    ⟨some 134, Op.binOp BinOp.neq 4 (Operand.tmp 115) (Operand.tmp 133) 4, some (114, false)⟩,
    ⟨some 135, Op.pick (Operand.tmp 114) (Operand.const (Value.bool true)) (Operand.tmp 134), none⟩] [(3, 21)])
  (.cond (Operand.tmp 135)
  (.seq (.ops [⟨some 6, Op.assign (Operand.const (Value.bool false)), none⟩])
  .ret)
  .skip)))))))
  (.ops [⟨some 52, Op.move (Operand.tmp 8), none⟩,
    ⟨some 53, Op.binOp BinOp.add 3 (Operand.tmp 52) (Operand.const (Value.int IntKind.i64 1)) 3, none⟩,
    ⟨some 8, Op.assign (Operand.tmp 53), none⟩])))
def ir25 : LC := (.seq (.ops [⟨some 6, Op.assign (Operand.const (Value.bool false)), none⟩])
  (.seq (.seq (.draw [⟨some 18, Op.move (Operand.tmp 0), none⟩,
    ⟨some 19, Op.call { callee := Callee.value (Operand.func 28), args := #[Operand.tmp 18], argTypes := #[24] }, none⟩,
    ⟨some 20, Op.move (Operand.tmp 1), none⟩,
    ⟨some 21, Op.nilCheck (Operand.tmp 20), none⟩,
    ⟨some 22, Op.fieldAddr 29 (Operand.tmp 21) 0, none⟩,
    ⟨some 23, Op.load 27 (Operand.tmp 22), none⟩,
    ⟨some 24, Op.call { callee := Callee.builtin Builtin.len, args := #[Operand.tmp 23], argTypes := #[27] }, none⟩,
    ⟨some 25, Op.binOp BinOp.neq 3 (Operand.tmp 19) (Operand.tmp 24) 3, none⟩] [(1, 2), (1, 3), (1, 4), (1, 5), (1, 6)])
  (.cond (Operand.tmp 25)
  (.seq (.ops [⟨some 6, Op.assign (Operand.const (Value.bool false)), none⟩])
  .ret)
  .skip))
  (.seq (.seq (.ops [⟨some 7, Op.assign (Operand.const (Value.int IntKind.i64 (-1))), none⟩])
  (.block 0 (.loop ir25_l0)))
  (.seq (.seq (.ops [⟨some 8, Op.assign (Operand.const (Value.int IntKind.i64 0)), none⟩])
  (.block 2 (.loop ir25_l1)))
  (.seq (.ops [⟨some 137, Op.move (Operand.tmp 0), none⟩,
    ⟨some 138, Op.move (Operand.tmp 1), none⟩,
    ⟨some 139, Op.nilCheck (Operand.tmp 138), none⟩,
    ⟨some 140, Op.fieldAddr 29 (Operand.tmp 139) 1, none⟩,
    ⟨some 141, Op.load 2 (Operand.tmp 140), none⟩,
    ⟨some 142, Op.binOp BinOp.add 2 (Operand.tmp 141) (Operand.const (Value.int IntKind.i64 1)) 2, none⟩,
    ⟨some 143, Op.call { callee := Callee.value (Operand.func 16), args := #[Operand.tmp 137, Operand.tmp 142], argTypes := #[24, 2] }, none⟩,
    ⟨some 136, Op.move (Operand.tmp 143), none⟩,
    ⟨some 144, Op.extract (Operand.tmp 136) 0, none⟩,
    ⟨some 145, Op.extract (Operand.tmp 136) 1, none⟩,
    ⟨some 14, Op.alloc 40, none⟩,
    ⟨none, Op.store 40 (Operand.tmp 14) (Operand.tmp 144), none⟩,
    ⟨some 15, Op.assign (Operand.tmp 145), none⟩])
  (.seq (.draw [⟨some 147, Op.move (Operand.tmp 0), none⟩,
    ⟨some 148, Op.move (Operand.tmp 1), none⟩,
    ⟨some 149, Op.nilCheck (Operand.tmp 148), none⟩,
    ⟨some 150, Op.fieldAddr 29 (Operand.tmp 149) 1, none⟩,
    ⟨some 151, Op.load 2 (Operand.tmp 150), none⟩,
    ⟨some 152, Op.binOp BinOp.add 2 (Operand.tmp 151) (Operand.const (Value.int IntKind.i64 1)) 2, none⟩,
    ⟨some 153, Op.move (Operand.tmp 1), none⟩,
    ⟨some 154, Op.nilCheck (Operand.tmp 153), none⟩,
    ⟨some 155, Op.fieldAddr 29 (Operand.tmp 154) 1, none⟩,
    ⟨some 156, Op.load 2 (Operand.tmp 155), none⟩,
    ⟨some 157, Op.binOp BinOp.add 2 (Operand.tmp 156) (Operand.const (Value.int IntKind.i64 1)) 2, none⟩,
    ⟨some 158, Op.call { callee := Callee.value (Operand.func 17), args := #[Operand.tmp 147, Operand.tmp 152, Operand.tmp 157], argTypes := #[24, 2, 2] }, none⟩,
    ⟨some 146, Op.move (Operand.tmp 158), none⟩,
    ⟨some 159, Op.extract (Operand.tmp 146) 0, none⟩,
    ⟨some 160, Op.extract (Operand.tmp 146) 1, none⟩,
    ⟨some 16, Op.assign (Operand.tmp 159), none⟩,
    ⟨some 17, Op.assign (Operand.tmp 160), none⟩] [])
  (.seq (.ops [⟨some 161, Op.move (Operand.tmp 15), none⟩,
    ⟨some 162, Op.binOp BinOp.eql 41 (Operand.tmp 161) (Operand.const (Value.int IntKind.i64 6)) 41, none⟩,
    ⟨some 163, Op.move (Operand.tmp 162), none⟩,
    ⟨some 164, Op.move (Operand.tmp 17), some (163, true)⟩,
    ⟨some 165, Op.binOp BinOp.eql 41 (Operand.tmp 164) (Operand.const (Value.int IntKind.i64 6)) 41, some (163, true)⟩,
    ⟨some 166, Op.pick (Operand.tmp 163) (Operand.tmp 165) (Operand.const (Value.bool false)), none⟩,
    ⟨some 6, Op.assign (Operand.tmp 166), none⟩])
  .ret)))))))
theorem ir25_eq : (Try.f25.body.map low, Try.f25.ntmps, Try.f25.results.toList) = (some ir25, 167, [.tmp 6]) := by kernel_rfl
def ir26 : LC := (.seq (.ops [⟨some 10, Op.assign (Operand.const (Value.int IntKind.i64 0)), none⟩,
    ⟨some 11, Op.assign (Operand.const (Value.int IntKind.i64 0)), none⟩])
  (.seq (.ops [⟨some 12, Op.move (Operand.tmp 0), none⟩,
    ⟨some 13, Op.move (Operand.tmp 1), none⟩,
    ⟨some 14, Op.move (Operand.tmp 2), none⟩,
    ⟨some 15, Op.move (Operand.tmp 3), none⟩,
    ⟨some 16, Op.move (Operand.tmp 4), none⟩,
    ⟨some 17, Op.call { callee := Callee.value (Operand.func 44), args := #[Operand.tmp 12, Operand.tmp 13, Operand.tmp 14, Operand.tmp 15, Operand.tmp 16, Operand.const (Value.int IntKind.i64 8)], argTypes := #[24, 3, 2, 3, 3, 3] }, none⟩,
    ⟨some 18, Op.extract (Operand.tmp 17) 0, none⟩,
    ⟨some 19, Op.extract (Operand.tmp 17) 1, none⟩,
    ⟨some 10, Op.assign (Operand.tmp 18), none⟩,
    ⟨some 11, Op.assign (Operand.tmp 19), none⟩])
  .ret))
theorem ir26_eq : (Try.f26.body.map low, Try.f26.ntmps, Try.f26.results.toList) = (some ir26, 20, [.tmp 10, .tmp 11]) := by kernel_rfl
def ir27_l0 : LC := (.seq (.ops [⟨some 16, Op.next (Operand.tmp 15) false, none⟩,
    ⟨some 17, Op.extract (Operand.tmp 16) 0, none⟩])
  (.seq (.cond (Operand.tmp 17)
  .skip
  (.exit 0))
  (.block 1 (.seq (.ops [⟨some 18, Op.entry (Operand.tmp 15), none⟩,
    ⟨some 19, Op.extract (Operand.tmp 18) 1, none⟩,
    ⟨some 7, Op.alloc 40, none⟩,
    ⟨none, Op.store 40 (Operand.tmp 7) (Operand.tmp 19), none⟩])
  (.seq (.ops [⟨some 20, Op.fieldAddr 40 (Operand.tmp 7) 3, none⟩,
    ⟨some 21, Op.load 3 (Operand.tmp 20), none⟩,
    ⟨some 22, Op.move (Operand.tmp 1), none⟩,
    ⟨some 23, Op.binOp BinOp.eql 3 (Operand.tmp 21) (Operand.tmp 22) 3, none⟩])
  (.cond (Operand.tmp 23)
  (.ops [⟨some 24, Op.move (Operand.tmp 5), none⟩,
    ⟨some 25, Op.binOp BinOp.add 3 (Operand.tmp 24) (Operand.const (Value.int IntKind.i64 1)) 3, none⟩,
    ⟨some 5, Op.assign (Operand.tmp 25), none⟩])
  .skip))))))
def ir27 : LC := (.seq (.ops [⟨some 4, Op.assign (Operand.const (Value.int IntKind.i64 0)), none⟩])
  (.seq (.seq (.ops [⟨some 8, Op.move (Operand.tmp 0), none⟩,
    ⟨some 9, Op.call { callee := Callee.value (Operand.func 33), args := #[Operand.tmp 8], argTypes := #[24] }, none⟩,
    ⟨some 10, Op.unOp UnOp.not 4 (Operand.tmp 9), none⟩])
  (.cond (Operand.tmp 10)
  (.seq (.ops [⟨some 4, Op.assign (Operand.const (Value.int IntKind.i64 0)), none⟩])
  .ret)
  .skip))
  (.seq (.ops [⟨some 5, Op.assign (Operand.const (Value.int IntKind.i64 0)), none⟩])
  (.seq (.seq (.ops [⟨some 11, Op.move (Operand.tmp 0), none⟩,
    ⟨some 12, Op.nilCheck (Operand.tmp 11), none⟩,
    ⟨some 13, Op.fieldAddr 61 (Operand.tmp 12) 0, none⟩,
    ⟨some 14, Op.load 59 (Operand.tmp 13), none⟩,
    ⟨some 15, Op.range 59 (Operand.tmp 14), none⟩])
  (.block 0 (.loop ir27_l0)))
  (.seq (.ops [⟨some 26, Op.move (Operand.tmp 5), none⟩,
    ⟨some 4, Op.assign (Operand.tmp 26), none⟩])
  .ret)))))
theorem ir27_eq : (Try.f27.body.map low, Try.f27.ntmps, Try.f27.results.toList) = (some ir27, 27, [.tmp 4]) := by kernel_rfl
def ir28 : LC := (.seq (.ops [⟨some 2, Op.assign (Operand.const (Value.int IntKind.i64 0)), none⟩])
  (.seq (.seq (.ops [⟨some 3, Op.move (Operand.tmp 0), none⟩,
    ⟨some 4, Op.call { callee := Callee.value (Operand.func 33), args := #[Operand.tmp 3], argTypes := #[24] }, none⟩,
    ⟨some 5, Op.unOp UnOp.not 4 (Operand.tmp 4), none⟩])
  (.cond (Operand.tmp 5)
  (.seq (.ops [⟨some 2, Op.assign (Operand.const (Value.int IntKind.i64 0)), none⟩])
  .ret)
  .skip))
  (.seq (.ops [⟨some 6, Op.move (Operand.tmp 0), none⟩,
    ⟨some 7, Op.nilCheck (Operand.tmp 6), none⟩,
    ⟨some 8, Op.fieldAddr 61 (Operand.tmp 7) 0, none⟩,
    ⟨some 9, Op.load 59 (Operand.tmp 8), none⟩,
    ⟨some 10, Op.call { callee := Callee.builtin Builtin.len, args := #[Operand.tmp 9], argTypes := #[59] }, none⟩,
    ⟨some 2, Op.assign (Operand.tmp 10), none⟩])
  .ret)))
theorem ir28_eq : (Try.f28.body.map low, Try.f28.ntmps, Try.f28.results.toList) = (some ir28, 11, [.tmp 2]) := by kernel_rfl
noncomputable def rc29 (i : Nat) : Code × Code := (((Try.f29.body.map rangesOf).getD [])[i]?).getD (.skip, .skip)
noncomputable def ir29_l0 : LC := (.seq (.seq (.ops [⟨some 15, Op.move (Operand.tmp 10), none⟩,
    ⟨some 16, Op.move (Operand.tmp 1), none⟩,
    ⟨some 17, Op.nilCheck (Operand.tmp 16), none⟩,
    ⟨some 18, Op.fieldAddr 29 (Operand.tmp 17) 0, none⟩,
    ⟨some 19, Op.load 27 (Operand.tmp 18), none⟩,
    ⟨some 20, Op.call { callee := Callee.builtin Builtin.len, args := #[Operand.tmp 19], argTypes := #[27] }, none⟩,
    ⟨some 21, Op.binOp BinOp.lss 3 (Operand.tmp 15) (Operand.tmp 20) 3, none⟩])
  (.cond (Operand.tmp 21)
  .skip
  (.exit 0)))
  (.seq (.block 1 (.seq (.ops [⟨some 24, Op.move (Operand.tmp 2), none⟩,
    ⟨some 25, Op.binOp BinOp.lss 3 (Operand.tmp 24) (Operand.const (Value.int IntKind.i64 0)) 3, none⟩,
    ⟨some 26, Op.move (Operand.tmp 25), none⟩,
    ⟨some 27, Op.move (Operand.tmp 1), some (26, false)⟩,
    ⟨some 28, Op.nilCheck (Operand.tmp 27), some (26, false)⟩,
    ⟨some 29, Op.fieldAddr 29 (Operand.tmp 28) 0, some (26, false)⟩,
    ⟨some 30, Op.load 27 (Operand.tmp 29), some (26, false)⟩,
    ⟨some 31, Op.move (Operand.tmp 10), some (26, false)⟩,
    ⟨some 32, Op.indexAddr 27 (Operand.tmp 30) (Operand.tmp 31), some (26, false)⟩,
    ⟨some 33, Op.fieldAddr 40 (Operand.tmp 32) 2, some (26, false)⟩,
    ⟨some 34, Op.load 3 (Operand.tmp 33), some (26, false)⟩,
    ⟨some 35, Op.move (Operand.tmp 2), some (26, false)⟩,
    ⟨some 36, Op.binOp BinOp.eql 3 (Operand.tmp 34) (Operand.tmp 35) 3, some (26, false)⟩,
    ⟨some 37, Op.pick (Operand.tmp 26) (Operand.const (Value.bool true)) (Operand.tmp 36), none⟩])
  (.cond (Operand.tmp 37)
  (.draw [⟨some 38, Op.load 27 (Operand.tmp 9), none⟩,
    ⟨some 39, Op.move (Operand.tmp 1), none⟩,
    ⟨some 40, Op.nilCheck (Operand.tmp 39), none⟩,
    ⟨some 41, Op.fieldAddr 29 (Operand.tmp 40) 0, none⟩,
    ⟨some 42, Op.load 27 (Operand.tmp 41), none⟩,
    ⟨some 43, Op.move (Operand.tmp 10), none⟩,
    ⟨some 44, Op.indexAddr 27 (Operand.tmp 42) (Operand.tmp 43), none⟩,
    ⟨some 45, Op.load 40 (Operand.tmp 44), none⟩,
    ⟨some 46, Op.buildSlice 27 1 #[(0, Operand.tmp 45)], none⟩,
    ⟨some 47, Op.call { callee := Callee.builtin Builtin.append, args := #[Operand.tmp 38, Operand.tmp 46], argTypes := #[27, 27] }, none⟩,
    ⟨none, Op.store 27 (Operand.tmp 9) (Operand.tmp 47), none⟩] [(0, 8)])
  .skip)))
  (.ops [⟨some 22, Op.move (Operand.tmp 10), none⟩,
    ⟨some 23, Op.binOp BinOp.add 3 (Operand.tmp 22) (Operand.const (Value.int IntKind.i64 1)) 3, none⟩,
    ⟨some 10, Op.assign (Operand.tmp 23), none⟩])))
noncomputable def ir29_l1 : LC := (.seq (.seq (.ops [⟨some 53, Op.load 3 (Operand.tmp 12), none⟩,
    ⟨some 54, Op.binOp BinOp.lss 3 (Operand.tmp 53) (Operand.const (Value.int IntKind.i64 2)) 3, none⟩])
  (.cond (Operand.tmp 54)
  .skip
  (.exit 2)))
  (.seq (.block 3 (.seq (.ops [⟨some 13, Op.alloc 3, none⟩,
    ⟨none, Op.store 3 (Operand.tmp 13) (Operand.const (Value.int IntKind.i64 0)), none⟩])
  (.seq (.seq (.ops [⟨some 57, Op.move (Operand.tmp 11), none⟩])
  (.block 4 (.range (Operand.tmp 57) #[58] (rc29 0).1 (rc29 0).2)))
  (.seq (.ops [⟨some 80, Op.load 3 (Operand.tmp 13), none⟩,
    ⟨some 81, Op.load 27 (Operand.tmp 9), none⟩,
    ⟨some 82, Op.call { callee := Callee.builtin Builtin.len, args := #[Operand.tmp 81], argTypes := #[27] }, none⟩,
    ⟨some 83, Op.binOp BinOp.neq 3 (Operand.tmp 80) (Operand.tmp 82) 3, none⟩,
    ⟨some 84, Op.move (Operand.tmp 83), none⟩,
    ⟨some 85, Op.load 3 (Operand.tmp 12), some (84, true)⟩,
    ⟨some 86, Op.binOp BinOp.eql 3 (Operand.tmp 85) (Operand.const (Value.int IntKind.i64 1)) 3, some (84, true)⟩,
    ⟨some 87, Op.move (Operand.tmp 86), some (84, true)⟩,
    ⟨some 88, Op.load 3 (Operand.tmp 13), some (87, false)⟩,
    ⟨some 89, Op.load 3 (Operand.tmp 7), some (87, false)⟩,
    ⟨some 90, Op.binOp BinOp.neq 3 (Operand.tmp 88) (Operand.tmp 89) 3, some (87, false)⟩,
    ⟨some 91, Op.pick (Operand.tmp 87) (Operand.const (Value.bool true)) (Operand.tmp 90), some (84, true)⟩,
    ⟨some 92, Op.pick (Operand.tmp 84) (Operand.tmp 91) (Operand.const (Value.bool false)), none⟩])
  (.cond (Operand.tmp 92)
  (.seq (.ops [⟨none, Op.store 4 (Operand.tmp 8) (Operand.const (Value.bool false)), none⟩])
  .ret)
  .skip)))))
  (.seq (.seq (.ops [⟨some 93, Op.load 3 (Operand.tmp 12), none⟩])
  (.ops [⟨some 12, Op.alloc 3, none⟩,
    ⟨none, Op.store 3 (Operand.tmp 12) (Operand.tmp 93), none⟩]))
  (.ops [⟨some 55, Op.load 3 (Operand.tmp 12), none⟩,
    ⟨some 56, Op.binOp BinOp.add 3 (Operand.tmp 55) (Operand.const (Value.int IntKind.i64 1)) 3, none⟩,
    ⟨none, Op.store 3 (Operand.tmp 12) (Operand.tmp 56), none⟩]))))
noncomputable def ir29_a0 : LC := (.ops [⟨some 14, Op.alloc 40, none⟩,
    ⟨none, Op.store 40 (Operand.tmp 14) (Operand.tmp 58), none⟩])
noncomputable def ir29_b0 : LC := (.block 5 (.seq (.seq (.draw [⟨some 59, Op.load 3 (Operand.tmp 13), none⟩,
    ⟨some 60, Op.load 27 (Operand.tmp 9), none⟩,
    ⟨some 61, Op.call { callee := Callee.builtin Builtin.len, args := #[Operand.tmp 60], argTypes := #[27] }, none⟩,
    ⟨some 62, Op.binOp BinOp.geq 3 (Operand.tmp 59) (Operand.tmp 61) 3, none⟩,
    ⟨some 63, Op.move (Operand.tmp 62), none⟩,
    ⟨some 64, Op.load 40 (Operand.tmp 14), some (63, false)⟩,
    ⟨some 65, Op.load 27 (Operand.tmp 9), some (63, false)⟩,
    ⟨some 66, Op.load 3 (Operand.tmp 13), some (63, false)⟩,
    ⟨some 67, Op.indexAddr 27 (Operand.tmp 65) (Operand.tmp 66), some (63, false)⟩,
    ⟨some 68, Op.load 40 (Operand.tmp 67), some (63, false)⟩,
    ⟨some 69, Op.binOp BinOp.neq 40 (Operand.tmp 64) (Operand.tmp 68) 40, some (63, false)⟩,
    ⟨some 70, Op.pick (Operand.tmp 63) (Operand.const (Value.bool true)) (Operand.tmp 69), none⟩] [])
  (.cond (Operand.tmp 70)
  (.seq (.ops [⟨none, Op.store 4 (Operand.tmp 8) (Operand.const (Value.bool false)), none⟩])
  .ret)
  .skip))
  (.seq (.ops [⟨some 71, Op.load 3 (Operand.tmp 13), none⟩,
    ⟨some 72, Op.binOp BinOp.add 3 (Operand.tmp 71) (Operand.const (Value.int IntKind.i64 1)) 3, none⟩,
    ⟨none, Op.store 3 (Operand.tmp 13) (Operand.tmp 72), none⟩])
  (.seq (.ops [⟨some 73, Op.load 3 (Operand.tmp 12), none⟩,
    ⟨some 74, Op.binOp BinOp.eql 3 (Operand.tmp 73) (Operand.const (Value.int IntKind.i64 0)) 3, none⟩,
    ⟨some 75, Op.move (Operand.tmp 74), none⟩,
    ⟨some 76, Op.load 3 (Operand.tmp 13), some (75, true)⟩,
    ⟨some 77, Op.load 3 (Operand.tmp 7), some (75, true)⟩,
    ⟨some 78, Op.binOp BinOp.eql 3 (Operand.tmp 76) (Operand.tmp 77) 3, some (75, true)⟩,
    ⟨some 79, Op.pick (Operand.tmp 75) (Operand.tmp 78) (Operand.const (Value.bool false)), none⟩])
  (.cond (Operand.tmp 79)
  (.exit 4)
  .skip)))))
theorem ir29_a0_eq : low (rc29 0).1 = ir29_a0 := by kernel_rfl
theorem ir29_b0_eq : low (rc29 0).2 = ir29_b0 := by kernel_rfl
noncomputable def ir29 : LC := (.seq (.ops [⟨some 7, Op.box 3 (Operand.tmp 3), none⟩,
    ⟨some 8, Op.alloc 4, none⟩])
  (.seq (.ops [⟨some 9, Op.alloc 27, none⟩])
  (.seq (.seq (.ops [⟨some 10, Op.assign (Operand.const (Value.int IntKind.i64 0)), none⟩])
  (.block 0 (.loop ir29_l0)))
  (.seq (.ops [⟨some 48, Op.move (Operand.tmp 0), none⟩,
    ⟨some 49, Op.move (Operand.tmp 2), none⟩,
    ⟨some 50, Op.call { callee := Callee.value (Operand.func 15), args := #[Operand.tmp 48, Operand.tmp 49], argTypes := #[24, 3] }, none⟩,
    ⟨some 11, Op.assign (Operand.tmp 50), none⟩])
  (.seq (.seq (.ops [⟨some 51, Op.move (Operand.tmp 11), none⟩,
    ⟨some 52, Op.binOp BinOp.eql 37 (Operand.tmp 51) (Operand.const Value.nilFunc) 37, none⟩])
  (.cond (Operand.tmp 52)
  (.seq (.ops [⟨none, Op.store 4 (Operand.tmp 8) (Operand.const (Value.bool false)), none⟩])
  .ret)
  .skip))
  (.seq (.seq (.ops [⟨some 12, Op.alloc 3, none⟩,
    ⟨none, Op.store 3 (Operand.tmp 12) (Operand.const (Value.int IntKind.i64 0)), none⟩])
  (.block 2 (.loop ir29_l1)))
  (.seq (.ops [⟨none, Op.store 4 (Operand.tmp 8) (Operand.const (Value.bool true)), none⟩])
  .ret)))))))
theorem ir29_eq : (Try.f29.body.map low, Try.f29.ntmps, Try.f29.results.toList) = (some ir29, 94, [.cell 8 4]) := by kernel_rfl
def ir30 : LC := (.seq (.ops [⟨some 10, Op.assign (Operand.const (Value.int IntKind.i64 0)), none⟩,
    ⟨some 11, Op.assign (Operand.const (Value.int IntKind.i64 0)), none⟩])
  (.seq (.seq (.ops [⟨some 12, Op.move (Operand.tmp 1), none⟩,
    ⟨some 13, Op.call { callee := Callee.value (Operand.func 48), args := #[Operand.tmp 12], argTypes := #[3] }, none⟩,
    ⟨some 14, Op.unOp UnOp.not 4 (Operand.tmp 13), none⟩,
    ⟨some 15, Op.move (Operand.tmp 14), none⟩,
    ⟨some 16, Op.move (Operand.tmp 2), some (15, false)⟩,
    ⟨some 17, Op.binOp BinOp.lss 3 (Operand.tmp 16) (Operand.const (Value.int IntKind.i64 0)) 3, some (15, false)⟩,
    ⟨some 18, Op.pick (Operand.tmp 15) (Operand.const (Value.bool true)) (Operand.tmp 17), none⟩,
    ⟨some 19, Op.move (Operand.tmp 18), none⟩,
    ⟨some 20, Op.move (Operand.tmp 3), some (19, false)⟩,
    ⟨some 21, Op.binOp BinOp.lss 3 (Operand.tmp 20) (Operand.const (Value.int IntKind.i64 0)) 3, some (19, false)⟩,
    ⟨some 22, Op.pick (Operand.tmp 19) (Operand.const (Value.bool true)) (Operand.tmp 21), none⟩,
    ⟨some 23, Op.move (Operand.tmp 22), none⟩,
    ⟨some 24, Op.move (Operand.tmp 4), some (23, false)⟩,
    ⟨some 25, Op.call { callee := Callee.value (Operand.func 36), args := #[Operand.tmp 24], argTypes := #[3] }, some (23, false)⟩,
    ⟨some 26, Op.unOp UnOp.not 4 (Operand.tmp 25), some (23, false)⟩,
    ⟨some 27, Op.pick (Operand.tmp 23) (Operand.const (Value.bool true)) (Operand.tmp 26), none⟩])
  (.cond (Operand.tmp 27)
  (.seq (.ops [⟨some 10, Op.assign (Operand.const (Value.int IntKind.i64 0)), none⟩,
    ⟨some 11, Op.assign (Operand.const (Value.int IntKind.i64 2)), none⟩])
  .ret)
  .skip))
  (.seq (.ops [⟨some 28, Op.move (Operand.tmp 0), none⟩,
    ⟨some 29, Op.move (Operand.tmp 1), none⟩,
    ⟨some 30, Op.move (Operand.tmp 1), none⟩,
    ⟨some 31, Op.move (Operand.tmp 2), none⟩,
    ⟨some 32, Op.move (Operand.tmp 3), none⟩,
    ⟨some 33, Op.move (Operand.tmp 4), none⟩,
    ⟨some 34, Op.build 40 #[(2, Operand.tmp 29), (3, Operand.tmp 30), (4, Operand.tmp 31), (5, Operand.tmp 32), (6, Operand.tmp 33)], none⟩,
    ⟨some 35, Op.call { callee := Callee.value (Operand.func 49), args := #[Operand.tmp 28, Operand.tmp 34], argTypes := #[26, 40] }, none⟩,
    ⟨some 36, Op.extract (Operand.tmp 35) 0, none⟩,
    ⟨some 37, Op.extract (Operand.tmp 35) 1, none⟩,
    ⟨some 10, Op.assign (Operand.tmp 36), none⟩,
    ⟨some 11, Op.assign (Operand.tmp 37), none⟩])
  .ret)))
theorem ir30_eq : (Try.f30.body.map low, Try.f30.ntmps, Try.f30.results.toList) = (some ir30, 38, [.tmp 10, .tmp 11]) := by kernel_rfl
def ir31 : LC := (.seq (.ops [⟨some 12, Op.assign (Operand.const (Value.int IntKind.i64 0)), none⟩,
    ⟨some 13, Op.assign (Operand.const (Value.int IntKind.i64 0)), none⟩])
  (.seq (.seq (.ops [⟨some 15, Op.move (Operand.tmp 1), none⟩,
    ⟨some 16, Op.call { callee := Callee.value (Operand.func 48), args := #[Operand.tmp 15], argTypes := #[3] }, none⟩,
    ⟨some 17, Op.unOp UnOp.not 4 (Operand.tmp 16), none⟩,
    ⟨some 18, Op.move (Operand.tmp 17), none⟩,
    ⟨some 19, Op.move (Operand.tmp 3), some (18, false)⟩,
    ⟨some 20, Op.call { callee := Callee.value (Operand.func 48), args := #[Operand.tmp 19], argTypes := #[3] }, some (18, false)⟩,
    ⟨some 21, Op.unOp UnOp.not 4 (Operand.tmp 20), some (18, false)⟩,
    ⟨some 22, Op.pick (Operand.tmp 18) (Operand.const (Value.bool true)) (Operand.tmp 21), none⟩,
    ⟨some 23, Op.move (Operand.tmp 22), none⟩,
    ⟨some 24, Op.move (Operand.tmp 4), some (23, false)⟩,
    ⟨some 25, Op.call { callee := Callee.value (Operand.func 36), args := #[Operand.tmp 24], argTypes := #[3] }, some (23, false)⟩,
    ⟨some 26, Op.unOp UnOp.not 4 (Operand.tmp 25), some (23, false)⟩,
    ⟨some 27, Op.pick (Operand.tmp 23) (Operand.const (Value.bool true)) (Operand.tmp 26), none⟩])
  (.cond (Operand.tmp 27)
  (.seq (.ops [⟨some 12, Op.assign (Operand.const (Value.int IntKind.i64 0)), none⟩,
    ⟨some 13, Op.assign (Operand.const (Value.int IntKind.i64 2)), none⟩])
  .ret)
  .skip))
  (.seq (.seq (.ops [⟨some 28, Op.move (Operand.tmp 0), none⟩,
    ⟨some 29, Op.move (Operand.tmp 1), none⟩,
    ⟨some 30, Op.move (Operand.tmp 2), none⟩,
    ⟨some 31, Op.call { callee := Callee.value (Operand.func 50), args := #[Operand.tmp 28, Operand.tmp 29, Operand.tmp 30], argTypes := #[26, 3, 2] }, none⟩,
    ⟨some 32, Op.unOp UnOp.not 4 (Operand.tmp 31), none⟩])
  (.cond (Operand.tmp 32)
  (.seq (.ops [⟨some 12, Op.assign (Operand.const (Value.int IntKind.i64 0)), none⟩,
    ⟨some 13, Op.assign (Operand.const (Value.int IntKind.i64 6)), none⟩])
  .ret)
  .skip))
  (.seq (.draw [⟨some 33, Op.move (Operand.tmp 0), none⟩,
    ⟨some 34, Op.nilCheck (Operand.tmp 33), none⟩,
    ⟨some 35, Op.fieldAddr 29 (Operand.tmp 34) 0, none⟩,
    ⟨some 36, Op.load 27 (Operand.tmp 35), none⟩,
    ⟨some 37, Op.move (Operand.tmp 0), none⟩,
    ⟨some 38, Op.move (Operand.tmp 2), none⟩,
    ⟨some 39, Op.call { callee := Callee.value (Operand.func 51), args := #[Operand.tmp 37, Operand.tmp 38], argTypes := #[26, 2] }, none⟩,
    ⟨some 40, Op.indexAddr 27 (Operand.tmp 36) (Operand.tmp 39), none⟩,
    ⟨some 41, Op.load 40 (Operand.tmp 40), none⟩,
    ⟨some 14, Op.alloc 40, none⟩,
    ⟨none, Op.store 40 (Operand.tmp 14) (Operand.tmp 41), none⟩] [(0, 6), (1, 6), (2, 6), (3, 6), (0, 9), (1, 9), (2, 9), (3, 9), (4, 9), (5, 9), (6, 9), (7, 9), (8, 9)])
  (.seq (.seq (.ops [⟨some 42, Op.move (Operand.tmp 4), none⟩,
    ⟨some 43, Op.fieldAddr 40 (Operand.tmp 14) 6, none⟩,
    ⟨some 44, Op.load 3 (Operand.tmp 43), none⟩,
    ⟨some 45, Op.call { callee := Callee.value (Operand.func 37), args := #[Operand.tmp 42, Operand.tmp 44], argTypes := #[3, 3] }, none⟩,
    ⟨some 46, Op.unOp UnOp.not 4 (Operand.tmp 45), none⟩,
    ⟨some 47, Op.move (Operand.tmp 46), none⟩,
    ⟨some 48, Op.move (Operand.tmp 5), some (47, false)⟩,
    ⟨some 49, Op.fieldAddr 40 (Operand.tmp 14) 6, some (47, false)⟩,
    ⟨some 50, Op.load 3 (Operand.tmp 49), some (47, false)⟩,
    ⟨some 51, Op.call { callee := Callee.value (Operand.func 37), args := #[Operand.tmp 48, Operand.tmp 50], argTypes := #[3, 3] }, some (47, false)⟩,
    ⟨some 52, Op.unOp UnOp.not 4 (Operand.tmp 51), some (47, false)⟩,
    ⟨some 53, Op.pick (Operand.tmp 47) (Operand.const (Value.bool true)) (Operand.tmp 52), none⟩])
  (.cond (Operand.tmp 53)
  (.seq (.ops [⟨some 12, Op.assign (Operand.const (Value.int IntKind.i64 0)), none⟩,
    ⟨some 13, Op.assign (Operand.const (Value.int IntKind.i64 8)), none⟩])
  .ret)
  .skip))
  (.seq (.ops [⟨some 54, Op.move (Operand.tmp 0), none⟩,
    ⟨some 55, Op.move (Operand.tmp 2), none⟩,
    ⟨some 56, Op.move (Operand.tmp 3), none⟩,
    ⟨some 57, Op.move (Operand.tmp 1), none⟩,
    ⟨some 58, Op.fieldAddr 40 (Operand.tmp 14) 4, none⟩,
    ⟨some 59, Op.load 3 (Operand.tmp 58), none⟩,
    ⟨some 60, Op.fieldAddr 40 (Operand.tmp 14) 5, none⟩,
    ⟨some 61, Op.load 3 (Operand.tmp 60), none⟩,
    ⟨some 62, Op.move (Operand.tmp 4), none⟩,
    ⟨some 63, Op.build 40 #[(1, Operand.tmp 55), (2, Operand.tmp 56), (3, Operand.tmp 57), (4, Operand.tmp 59), (5, Operand.tmp 61), (6, Operand.tmp 62)], none⟩,
    ⟨some 64, Op.call { callee := Callee.value (Operand.func 49), args := #[Operand.tmp 54, Operand.tmp 63], argTypes := #[26, 40] }, none⟩,
    ⟨some 65, Op.extract (Operand.tmp 64) 0, none⟩,
    ⟨some 66, Op.extract (Operand.tmp 64) 1, none⟩,
    ⟨some 12, Op.assign (Operand.tmp 65), none⟩,
    ⟨some 13, Op.assign (Operand.tmp 66), none⟩])
  .ret))))))
theorem ir31_eq : (Try.f31.body.map low, Try.f31.ntmps, Try.f31.results.toList) = (some ir31, 67, [.tmp 12, .tmp 13]) := by kernel_rfl
def ir32_l0 : LC := (.seq (.seq (.ops [⟨some 22, Op.move (Operand.tmp 11), none⟩,
    ⟨some 23, Op.move (Operand.tmp 0), none⟩,
    ⟨some 24, Op.nilCheck (Operand.tmp 23), none⟩,
    ⟨some 25, Op.fieldAddr 29 (Operand.tmp 24) 0, none⟩,
    ⟨some 26, Op.load 27 (Operand.tmp 25), none⟩,
    ⟨some 27, Op.call { callee := Callee.builtin Builtin.len, args := #[Operand.tmp 26], argTypes := #[27] }, none⟩,
    ⟨some 28, Op.binOp BinOp.lss 3 (Operand.tmp 22) (Operand.tmp 27) 3, none⟩])
  (.cond (Operand.tmp 28)
  .skip
  (.exit 0)))
  (.seq (.block 1 (.seq (.ops [⟨some 31, Op.move (Operand.tmp 0), none⟩,
    ⟨some 32, Op.nilCheck (Operand.tmp 31), none⟩,
    ⟨some 33, Op.fieldAddr 29 (Operand.tmp 32) 0, none⟩,
    ⟨some 34, Op.load 27 (Operand.tmp 33), none⟩,
    ⟨some 35, Op.move (Operand.tmp 11), none⟩,
    ⟨some 36, Op.indexAddr 27 (Operand.tmp 34) (Operand.tmp 35), none⟩,
    ⟨some 37, Op.load 40 (Operand.tmp 36), none⟩,
    ⟨some 12, Op.alloc 40, none⟩,
    ⟨none, Op.store 40 (Operand.tmp 12) (Operand.tmp 37), none⟩])
  (.seq (.ops [⟨some 38, Op.move (Operand.tmp 0), none⟩,
    ⟨some 39, Op.move (Operand.tmp 2), none⟩,
    ⟨some 40, Op.fieldAddr 40 (Operand.tmp 12) 0, none⟩,
    ⟨some 41, Op.load 2 (Operand.tmp 40), none⟩,
    ⟨some 42, Op.call { callee := Callee.value (Operand.func 47), args := #[Operand.tmp 38, Operand.tmp 39, Operand.tmp 41], argTypes := #[26, 2, 2] }, none⟩,
    ⟨some 43, Op.unOp UnOp.not 4 (Operand.tmp 42), none⟩,
    ⟨some 44, Op.move (Operand.tmp 43), none⟩,
    ⟨some 45, Op.fieldAddr 40 (Operand.tmp 12) 0, some (44, false)⟩,
    ⟨some 46, Op.load 2 (Operand.tmp 45), some (44, false)⟩,
    ⟨some 47, Op.move (Operand.tmp 2), some (44, false)⟩,
    ⟨some 48, Op.binOp BinOp.eql 2 (Operand.tmp 46) (Operand.tmp 47) 2, some (44, false)⟩,
    ⟨some 49, Op.move (Operand.tmp 48), some (44, false)⟩,
    ⟨some 50, Op.move (Operand.tmp 3), some (49, true)⟩,
    ⟨some 51, Op.unOp UnOp.not 4 (Operand.tmp 50), some (49, true)⟩,
    ⟨some 52, Op.pick (Operand.tmp 49) (Operand.tmp 51) (Operand.const (Value.bool false)), some (44, false)⟩,
    ⟨some 53, Op.pick (Operand.tmp 44) (Operand.const (Value.bool true)) (Operand.tmp 52), none⟩])
  (.cond (Operand.tmp 53)
  (.ops [⟨some 54, Op.move (Operand.tmp 10), none⟩,
    ⟨some 55, Op.load 40 (Operand.tmp 12), none⟩,
    ⟨some 56, Op.buildSlice 27 1 #[(0, Operand.tmp 55)], none⟩,
    ⟨some 57, Op.call { callee := Callee.builtin Builtin.append, args := #[Operand.tmp 54, Operand.tmp 56], argTypes := #[27, 27] }, none⟩,
    ⟨some 10, Op.assign (Operand.tmp 57), none⟩])
  .skip))))
  (.ops [⟨some 29, Op.move (Operand.tmp 11), none⟩,
    ⟨some 30, Op.binOp BinOp.add 3 (Operand.tmp 29) (Operand.const (Value.int IntKind.i64 1)) 3, none⟩,
    ⟨some 11, Op.assign (Operand.tmp 30), none⟩])))
def ir32 : LC := (.seq (.ops [⟨some 8, Op.assign (Operand.const (Value.int IntKind.i64 0)), none⟩,
    ⟨some 9, Op.assign (Operand.const (Value.int IntKind.i64 0)), none⟩])
  (.seq (.seq (.ops [⟨some 14, Op.move (Operand.tmp 1), none⟩,
    ⟨some 15, Op.call { callee := Callee.value (Operand.func 48), args := #[Operand.tmp 14], argTypes := #[3] }, none⟩,
    ⟨some 16, Op.unOp UnOp.not 4 (Operand.tmp 15), none⟩])
  (.cond (Operand.tmp 16)
  (.seq (.ops [⟨some 8, Op.assign (Operand.const (Value.int IntKind.i64 0)), none⟩,
    ⟨some 9, Op.assign (Operand.const (Value.int IntKind.i64 2)), none⟩])
  .ret)
  .skip))
  (.seq (.seq (.ops [⟨some 17, Op.move (Operand.tmp 0), none⟩,
    ⟨some 18, Op.move (Operand.tmp 1), none⟩,
    ⟨some 19, Op.move (Operand.tmp 2), none⟩,
    ⟨some 20, Op.call { callee := Callee.value (Operand.func 50), args := #[Operand.tmp 17, Operand.tmp 18, Operand.tmp 19], argTypes := #[26, 3, 2] }, none⟩,
    ⟨some 21, Op.unOp UnOp.not 4 (Operand.tmp 20), none⟩])
  (.cond (Operand.tmp 21)
  (.seq (.ops [⟨some 8, Op.assign (Operand.const (Value.int IntKind.i64 0)), none⟩,
    ⟨some 9, Op.assign (Operand.const (Value.int IntKind.i64 6)), none⟩])
  .ret)
  .skip))
  (.seq (.ops [⟨some 10, Op.assign (Operand.const (Value.slice none 0 0)), none⟩])
  (.seq (.seq (.ops [⟨some 11, Op.assign (Operand.const (Value.int IntKind.i64 0)), none⟩])
  (.block 0 (.loop ir32_l0)))
  (.seq (.ops [⟨some 58, Op.move (Operand.tmp 0), none⟩,
    ⟨some 59, Op.nilCheck (Operand.tmp 58), none⟩,
    ⟨some 60, Op.fieldAddr 29 (Operand.tmp 59) 0, none⟩,
    ⟨some 61, Op.load 27 (Operand.tmp 60), none⟩,
    ⟨some 62, Op.call { callee := Callee.builtin Builtin.len, args := #[Operand.tmp 61], argTypes := #[27] }, none⟩,
    ⟨some 63, Op.move (Operand.tmp 10), none⟩,
    ⟨some 64, Op.call { callee := Callee.builtin Builtin.len, args := #[Operand.tmp 63], argTypes := #[27] }, none⟩,
    ⟨some 65, Op.binOp BinOp.sub 3 (Operand.tmp 62) (Operand.tmp 64) 3, none⟩,
    ⟨some 13, Op.assign (Operand.tmp 65), none⟩])
  (.seq (.ops [⟨some 66, Op.move (Operand.tmp 0), none⟩,
    ⟨some 67, Op.move (Operand.tmp 10), none⟩,
    ⟨some 68, Op.nilCheck (Operand.tmp 66), none⟩,
    ⟨some 69, Op.fieldAddr 29 (Operand.tmp 68) 0, none⟩,
    ⟨none, Op.store 27 (Operand.tmp 69) (Operand.tmp 67), none⟩])
  (.seq (.ops [⟨some 70, Op.move (Operand.tmp 13), none⟩,
    ⟨some 8, Op.assign (Operand.tmp 70), none⟩,
    ⟨some 9, Op.assign (Operand.const (Value.int IntKind.i64 0)), none⟩])
  .ret))))))))
theorem ir32_eq : (Try.f32.body.map low, Try.f32.ntmps, Try.f32.results.toList) = (some ir32, 71, [.tmp 8, .tmp 9]) := by kernel_rfl
def ir33 : LC := (.seq (.ops [⟨some 2, Op.assign (Operand.const (Value.bool false)), none⟩])
  (.seq (.ops [⟨some 3, Op.move (Operand.tmp 0), none⟩,
    ⟨some 4, Op.binOp BinOp.neq 24 (Operand.tmp 3) (Operand.const (Value.pointer none)) 24, none⟩,
    ⟨some 5, Op.move (Operand.tmp 4), none⟩,
    ⟨some 6, Op.move (Operand.tmp 0), some (5, true)⟩,
    ⟨some 7, Op.nilCheck (Operand.tmp 6), some (5, true)⟩,
    ⟨some 8, Op.fieldAddr 61 (Operand.tmp 7) 0, some (5, true)⟩,
    ⟨some 9, Op.load 59 (Operand.tmp 8), some (5, true)⟩,
    ⟨some 10, Op.binOp BinOp.neq 59 (Operand.tmp 9) (Operand.const (Value.map none)) 59, some (5, true)⟩,
    ⟨some 11, Op.pick (Operand.tmp 5) (Operand.tmp 10) (Operand.const (Value.bool false)), none⟩,
    ⟨some 2, Op.assign (Operand.tmp 11), none⟩])
  .ret))
theorem ir33_eq : (Try.f33.body.map low, Try.f33.ntmps, Try.f33.results.toList) = (some ir33, 12, [.tmp 2]) := by kernel_rfl
def ir34 : LC := (.seq (.ops [⟨some 2, Op.assign (Operand.const (Value.bool false)), none⟩])
  (.seq (.ops [⟨some 3, Op.move (Operand.tmp 0), none⟩,
    ⟨some 4, Op.binOp BinOp.geq 3 (Operand.tmp 3) (Operand.const (Value.int IntKind.i64 0)) 3, none⟩,
    ⟨some 5, Op.move (Operand.tmp 4), none⟩,
    ⟨some 6, Op.move (Operand.tmp 0), some (5, true)⟩,
    ⟨some 7, Op.binOp BinOp.lss 3 (Operand.tmp 6) (Operand.const (Value.int IntKind.i64 8)) 3, some (5, true)⟩,
    ⟨some 8, Op.pick (Operand.tmp 5) (Operand.tmp 7) (Operand.const (Value.bool false)), none⟩,
    ⟨some 2, Op.assign (Operand.tmp 8), none⟩])
  .ret))
theorem ir34_eq : (Try.f34.body.map low, Try.f34.ntmps, Try.f34.results.toList) = (some ir34, 9, [.tmp 2]) := by kernel_rfl
def ir35 : LC := (.seq (.ops [⟨some 2, Op.assign (Operand.const (Value.bool false)), none⟩])
  (.seq (.ops [⟨some 3, Op.move (Operand.tmp 0), none⟩,
    ⟨some 4, Op.binOp BinOp.geq 3 (Operand.tmp 3) (Operand.const (Value.int IntKind.i64 1)) 3, none⟩,
    ⟨some 5, Op.move (Operand.tmp 4), none⟩,
    ⟨some 6, Op.move (Operand.tmp 0), some (5, true)⟩,
    ⟨some 7, Op.binOp BinOp.leq 3 (Operand.tmp 6) (Operand.const (Value.int IntKind.i64 15)) 3, some (5, true)⟩,
    ⟨some 8, Op.pick (Operand.tmp 5) (Operand.tmp 7) (Operand.const (Value.bool false)), none⟩,
    ⟨some 2, Op.assign (Operand.tmp 8), none⟩])
  .ret))
theorem ir35_eq : (Try.f35.body.map low, Try.f35.ntmps, Try.f35.results.toList) = (some ir35, 9, [.tmp 2]) := by kernel_rfl
def ir36 : LC := (.seq (.ops [⟨some 2, Op.assign (Operand.const (Value.bool false)), none⟩])
  (.seq (.ops [⟨some 3, Op.move (Operand.tmp 0), none⟩,
    ⟨some 4, Op.binOp BinOp.geq 3 (Operand.tmp 3) (Operand.const (Value.int IntKind.i64 1)) 3, none⟩,
    ⟨some 5, Op.move (Operand.tmp 4), none⟩,
    ⟨some 6, Op.move (Operand.tmp 0), some (5, true)⟩,
    ⟨some 7, Op.binOp BinOp.leq 3 (Operand.tmp 6) (Operand.const (Value.int IntKind.i64 15)) 3, some (5, true)⟩,
    ⟨some 8, Op.pick (Operand.tmp 5) (Operand.tmp 7) (Operand.const (Value.bool false)), none⟩,
    ⟨some 2, Op.assign (Operand.tmp 8), none⟩])
  .ret))
theorem ir36_eq : (Try.f36.body.map low, Try.f36.ntmps, Try.f36.results.toList) = (some ir36, 9, [.tmp 2]) := by kernel_rfl
def ir37 : LC := (.seq (.ops [⟨some 4, Op.assign (Operand.const (Value.bool false)), none⟩])
  (.seq (.ops [⟨some 5, Op.move (Operand.tmp 0), none⟩,
    ⟨some 6, Op.move (Operand.tmp 1), none⟩,
    ⟨some 7, Op.binOp BinOp.and 3 (Operand.tmp 5) (Operand.tmp 6) 3, none⟩,
    ⟨some 8, Op.move (Operand.tmp 0), none⟩,
    ⟨some 9, Op.binOp BinOp.eql 3 (Operand.tmp 7) (Operand.tmp 8) 3, none⟩,
    ⟨some 4, Op.assign (Operand.tmp 9), none⟩])
  .ret))
theorem ir37_eq : (Try.f37.body.map low, Try.f37.ntmps, Try.f37.results.toList) = (some ir37, 10, [.tmp 4]) := by kernel_rfl
def ir38 : LC := (.seq (.ops [⟨some 2, Op.assign (Operand.const (Value.slice none 0 0)), none⟩])
  (.seq (.ops [⟨some 4, Op.move (Operand.tmp 0), none⟩,
    ⟨some 5, Op.call { callee := Callee.value (Operand.func 52), args := #[Operand.tmp 4], argTypes := #[76] }, none⟩,
    ⟨some 3, Op.assign (Operand.tmp 5), none⟩])
  (.seq (.ops [⟨some 6, Op.move (Operand.tmp 3), none⟩,
    ⟨some 7, Op.call { callee := Callee.value (Operand.func 53), args := #[Operand.tmp 6], argTypes := #[45] }, none⟩])
  (.seq (.ops [⟨some 8, Op.move (Operand.tmp 3), none⟩,
    ⟨some 2, Op.assign (Operand.tmp 8), none⟩])
  .ret))))
theorem ir38_eq : (Try.f38.body.map low, Try.f38.ntmps, Try.f38.results.toList) = (some ir38, 9, [.tmp 2]) := by kernel_rfl
def ir39 : LC := (.seq (.ops [⟨some 1, Op.box 59 (Operand.tmp 0), none⟩,
    ⟨some 2, Op.assign (Operand.const Value.nilFunc), none⟩])
  (.seq (.ops [⟨some 3, Op.makeFunc (Fn.func 54) #[] #[Operand.tmp 1], none⟩,
    ⟨some 2, Op.assign (Operand.tmp 3), none⟩])
  .ret))
theorem ir39_eq : (Try.f39.body.map low, Try.f39.ntmps, Try.f39.results.toList) = (some ir39, 4, [.tmp 2]) := by kernel_rfl
def ir40_l0 : LC := (.seq (.ops [⟨some 8, Op.binOp BinOp.lss 3 (Operand.tmp 7) (Operand.tmp 6) 3, none⟩])
  (.seq (.cond (Operand.tmp 8)
  .skip
  (.exit 0))
  (.seq (.block 1 (.seq (.ops [⟨some 9, Op.indexAddr 27 (Operand.tmp 5) (Operand.tmp 7), none⟩,
    ⟨some 10, Op.load 40 (Operand.tmp 9), none⟩,
    ⟨some 4, Op.alloc 40, none⟩,
    ⟨none, Op.store 40 (Operand.tmp 4) (Operand.tmp 10), none⟩])
  (.seq (.ops [⟨some 11, Op.move (Operand.tmp 0), none⟩,
    ⟨some 12, Op.load 40 (Operand.tmp 4), none⟩,
    ⟨some 13, Op.call { callee := Callee.value (Operand.tmp 11), args := #[Operand.tmp 12], argTypes := #[40] }, none⟩,
    ⟨some 14, Op.unOp UnOp.not 4 (Operand.tmp 13), none⟩])
  (.cond (Operand.tmp 14)
  .ret
  .skip))))
  (.ops [⟨some 15, Op.binOp BinOp.add 3 (Operand.tmp 7) (Operand.const (Value.int IntKind.i64 1)) 3, none⟩,
    ⟨some 7, Op.move (Operand.tmp 15), none⟩]))))
def ir40 : LC := (.seq (.ops [⟨some 5, Op.load 27 (Operand.tmp 1), none⟩,
    ⟨some 6, Op.call { callee := Callee.builtin Builtin.len, args := #[Operand.tmp 5], argTypes := #[27] }, none⟩,
    ⟨some 7, Op.move (Operand.const (Value.int IntKind.i64 0)), none⟩])
  (.block 0 (.loop ir40_l0)))
theorem ir40_eq : (Try.f40.body.map low, Try.f40.ntmps, Try.f40.results.toList) = (some ir40, 16, []) := by kernel_rfl
def ir41 : LC := (.seq (.ops [⟨some 6, Op.alloc 40, none⟩,
    ⟨some 7, Op.assign (Operand.const (Value.int IntKind.i64 0)), none⟩])
  (.seq (.block 0 (.seq (.ops [⟨some 11, Op.move (Operand.tmp 0), none⟩,
    ⟨some 12, Op.call { callee := Callee.value (Operand.func 33), args := #[Operand.tmp 11], argTypes := #[24] }, none⟩,
    ⟨some 13, Op.unOp UnOp.not 4 (Operand.tmp 12), none⟩,
    ⟨some 10, Op.assign (Operand.tmp 13), none⟩])
  (.cond (Operand.tmp 10)
  (.seq (.ops [⟨some 14, Op.build 40 #[], none⟩,
    ⟨none, Op.store 40 (Operand.tmp 6) (Operand.tmp 14), none⟩,
    ⟨some 7, Op.assign (Operand.const (Value.int IntKind.i64 1)), none⟩])
  .ret)
  (.seq (.ops [⟨some 16, Op.move (Operand.tmp 1), none⟩,
    ⟨some 17, Op.call { callee := Callee.value (Operand.func 34), args := #[Operand.tmp 16], argTypes := #[3] }, none⟩,
    ⟨some 18, Op.unOp UnOp.not 4 (Operand.tmp 17), none⟩,
    ⟨some 15, Op.assign (Operand.tmp 18), none⟩])
  (.cond (Operand.tmp 15)
  (.seq (.ops [⟨some 19, Op.build 40 #[], none⟩,
    ⟨none, Op.store 40 (Operand.tmp 6) (Operand.tmp 19), none⟩,
    ⟨some 7, Op.assign (Operand.const (Value.int IntKind.i64 2)), none⟩])
  .ret)
  .skip)))))
  (.seq (.ops [⟨some 21, Op.move (Operand.tmp 0), none⟩,
    ⟨some 22, Op.nilCheck (Operand.tmp 21), none⟩,
    ⟨some 23, Op.fieldAddr 61 (Operand.tmp 22) 0, none⟩,
    ⟨some 24, Op.load 59 (Operand.tmp 23), none⟩,
    ⟨some 25, Op.move (Operand.tmp 2), none⟩,
    ⟨some 26, Op.lookup 59 (Operand.tmp 24) (Operand.tmp 25) true, none⟩,
    ⟨some 20, Op.move (Operand.tmp 26), none⟩,
    ⟨some 27, Op.extract (Operand.tmp 20) 0, none⟩,
    ⟨some 28, Op.extract (Operand.tmp 20) 1, none⟩,
    ⟨some 8, Op.alloc 40, none⟩,
    ⟨none, Op.store 40 (Operand.tmp 8) (Operand.tmp 27), none⟩,
    ⟨some 9, Op.assign (Operand.tmp 28), none⟩])
  (.seq (.seq (.ops [⟨some 29, Op.move (Operand.tmp 9), none⟩,
    ⟨some 30, Op.unOp UnOp.not 4 (Operand.tmp 29), none⟩,
    ⟨some 31, Op.move (Operand.tmp 30), none⟩,
    ⟨some 32, Op.fieldAddr 40 (Operand.tmp 8) 2, some (31, false)⟩,
    ⟨some 33, Op.load 3 (Operand.tmp 32), some (31, false)⟩,
    ⟨some 34, Op.move (Operand.tmp 1), some (31, false)⟩,
    ⟨some 35, Op.binOp BinOp.neq 3 (Operand.tmp 33) (Operand.tmp 34) 3, some (31, false)⟩,
    ⟨some 36, Op.pick (Operand.tmp 31) (Operand.const (Value.bool true)) (Operand.tmp 35), none⟩])
  (.cond (Operand.tmp 36)
  (.seq (.ops [⟨some 37, Op.build 40 #[], none⟩,
    ⟨none, Op.store 40 (Operand.tmp 6) (Operand.tmp 37), none⟩,
    ⟨some 7, Op.assign (Operand.const (Value.int IntKind.i64 6)), none⟩])
  .ret)
  .skip))
  (.seq (.ops [⟨some 38, Op.load 40 (Operand.tmp 8), none⟩,
    ⟨none, Op.store 40 (Operand.tmp 6) (Operand.tmp 38), none⟩,
    ⟨some 7, Op.assign (Operand.const (Value.int IntKind.i64 0)), none⟩])
  .ret)))))
theorem ir41_eq : (Try.f41.body.map low, Try.f41.ntmps, Try.f41.results.toList) = (some ir41, 39, [.cell 6 40, .tmp 7]) := by kernel_rfl
def ir42 : LC := (.seq (.ops [⟨some 2, Op.box 24 (Operand.tmp 0), none⟩,
    ⟨some 4, Op.assign (Operand.const (Value.int IntKind.i64 0)), none⟩])
  (.seq (.ops [⟨some 5, Op.alloc 3, none⟩,
    ⟨none, Op.store 3 (Operand.tmp 5) (Operand.const (Value.int IntKind.i64 0)), none⟩])
  (.seq (.ops [⟨some 6, Op.alloc 90, none⟩])
  (.seq (.ops [⟨some 7, Op.makeFunc (Fn.func 55) #[] #[Operand.tmp 2, Operand.tmp 5, Operand.tmp 6], none⟩,
    ⟨none, Op.store 90 (Operand.tmp 6) (Operand.tmp 7), none⟩])
  (.seq (.ops [⟨some 8, Op.load 90 (Operand.tmp 6), none⟩,
    ⟨some 9, Op.move (Operand.tmp 1), none⟩,
    ⟨some 10, Op.call { callee := Callee.value (Operand.tmp 8), args := #[Operand.tmp 9], argTypes := #[2] }, none⟩])
  (.seq (.ops [⟨some 11, Op.load 3 (Operand.tmp 5), none⟩,
    ⟨some 4, Op.assign (Operand.tmp 11), none⟩])
  .ret))))))
theorem ir42_eq : (Try.f42.body.map low, Try.f42.ntmps, Try.f42.results.toList) = (some ir42, 12, [.tmp 4]) := by kernel_rfl
def ir43 : LC := (.seq (.ops [⟨some 3, Op.box 40 (Operand.tmp 1), none⟩,
    ⟨some 4, Op.assign (Operand.const (Value.int IntKind.i64 0)), none⟩,
    ⟨some 5, Op.assign (Operand.const (Value.int IntKind.i64 0)), none⟩])
  (.seq (.seq (.ops [⟨some 6, Op.move (Operand.tmp 0), none⟩,
    ⟨some 7, Op.fieldAddr 40 (Operand.tmp 3) 3, none⟩,
    ⟨some 8, Op.load 3 (Operand.tmp 7), none⟩,
    ⟨some 9, Op.call { callee := Callee.value (Operand.func 27), args := #[Operand.tmp 6, Operand.tmp 8], argTypes := #[24, 3] }, none⟩,
    ⟨some 10, Op.binOp BinOp.geq 3 (Operand.tmp 9) (Operand.const (Value.int IntKind.i64 32)) 3, none⟩])
  (.cond (Operand.tmp 10)
  (.seq (.ops [⟨some 4, Op.assign (Operand.const (Value.int IntKind.i64 0)), none⟩,
    ⟨some 5, Op.assign (Operand.const (Value.int IntKind.i64 5)), none⟩])
  .ret)
  .skip))
  (.seq (.ops [⟨some 11, Op.move (Operand.tmp 0), none⟩,
    ⟨some 12, Op.nilCheck (Operand.tmp 11), none⟩,
    ⟨some 13, Op.fieldAddr 61 (Operand.tmp 12) 1, none⟩,
    ⟨some 14, Op.load 2 (Operand.tmp 13), none⟩,
    ⟨some 15, Op.binOp BinOp.add 2 (Operand.tmp 14) (Operand.const (Value.int IntKind.i64 1)) 2, none⟩,
    ⟨some 16, Op.nilCheck (Operand.tmp 11), none⟩,
    ⟨some 17, Op.fieldAddr 61 (Operand.tmp 16) 1, none⟩,
    ⟨none, Op.store 2 (Operand.tmp 17) (Operand.tmp 15), none⟩])
  (.seq (.ops [⟨some 18, Op.move (Operand.tmp 0), none⟩,
    ⟨some 19, Op.nilCheck (Operand.tmp 18), none⟩,
    ⟨some 20, Op.fieldAddr 61 (Operand.tmp 19) 1, none⟩,
    ⟨some 21, Op.load 2 (Operand.tmp 20), none⟩,
    ⟨some 22, Op.fieldAddr 40 (Operand.tmp 3) 0, none⟩,
    ⟨none, Op.store 2 (Operand.tmp 22) (Operand.tmp 21), none⟩])
  (.seq (.draw [⟨some 23, Op.move (Operand.tmp 0), none⟩,
    ⟨some 24, Op.nilCheck (Operand.tmp 23), none⟩,
    ⟨some 25, Op.fieldAddr 61 (Operand.tmp 24) 0, none⟩,
    ⟨some 26, Op.load 59 (Operand.tmp 25), none⟩,
    ⟨some 27, Op.fieldAddr 40 (Operand.tmp 3) 0, none⟩,
    ⟨some 28, Op.load 2 (Operand.tmp 27), none⟩,
    ⟨some 29, Op.load 40 (Operand.tmp 3), none⟩,
    ⟨none, Op.mapUpdate 59 (Operand.tmp 26) (Operand.tmp 28) (Operand.tmp 29), none⟩] [])
  (.seq (.ops [⟨some 30, Op.fieldAddr 40 (Operand.tmp 3) 0, none⟩,
    ⟨some 31, Op.load 2 (Operand.tmp 30), none⟩,
    ⟨some 4, Op.assign (Operand.tmp 31), none⟩,
    ⟨some 5, Op.assign (Operand.const (Value.int IntKind.i64 0)), none⟩])
  .ret))))))
theorem ir43_eq : (Try.f43.body.map low, Try.f43.ntmps, Try.f43.results.toList) = (some ir43, 32, [.tmp 4, .tmp 5]) := by kernel_rfl
def ir44 : LC := (.seq (.ops [⟨some 12, Op.assign (Operand.const (Value.int IntKind.i64 0)), none⟩,
    ⟨some 13, Op.assign (Operand.const (Value.int IntKind.i64 0)), none⟩])
  (.seq (.seq (.ops [⟨some 16, Op.move (Operand.tmp 0), none⟩,
    ⟨some 17, Op.call { callee := Callee.value (Operand.func 33), args := #[Operand.tmp 16], argTypes := #[24] }, none⟩,
    ⟨some 18, Op.move (Operand.tmp 17), none⟩,
    ⟨some 19, Op.move (Operand.tmp 3), some (18, true)⟩,
    ⟨some 20, Op.call { callee := Callee.value (Operand.func 34), args := #[Operand.tmp 19], argTypes := #[3] }, some (18, true)⟩,
    ⟨some 21, Op.unOp UnOp.not 4 (Operand.tmp 20), some (18, true)⟩,
    ⟨some 22, Op.move (Operand.tmp 21), some (18, true)⟩,
    ⟨some 23, Op.move (Operand.tmp 4), some (22, false)⟩,
    ⟨some 24, Op.call { callee := Callee.value (Operand.func 35), args := #[Operand.tmp 23], argTypes := #[3] }, some (22, false)⟩,
    ⟨some 25, Op.unOp UnOp.not 4 (Operand.tmp 24), some (22, false)⟩,
    ⟨some 26, Op.pick (Operand.tmp 22) (Operand.const (Value.bool true)) (Operand.tmp 25), some (18, true)⟩,
    ⟨some 27, Op.pick (Operand.tmp 18) (Operand.tmp 26) (Operand.const (Value.bool false)), none⟩])
  (.cond (Operand.tmp 27)
  (.seq (.ops [⟨some 12, Op.assign (Operand.const (Value.int IntKind.i64 0)), none⟩,
    ⟨some 13, Op.assign (Operand.const (Value.int IntKind.i64 2)), none⟩])
  .ret)
  .skip))
  (.seq (.ops [⟨some 29, Op.move (Operand.tmp 0), none⟩,
    ⟨some 30, Op.move (Operand.tmp 1), none⟩,
    ⟨some 31, Op.move (Operand.tmp 2), none⟩,
    ⟨some 32, Op.call { callee := Callee.value (Operand.func 41), args := #[Operand.tmp 29, Operand.tmp 30, Operand.tmp 31], argTypes := #[24, 3, 2] }, none⟩,
    ⟨some 28, Op.move (Operand.tmp 32), none⟩,
    ⟨some 33, Op.extract (Operand.tmp 28) 0, none⟩,
    ⟨some 34, Op.extract (Operand.tmp 28) 1, none⟩,
    ⟨some 14, Op.alloc 40, none⟩,
    ⟨none, Op.store 40 (Operand.tmp 14) (Operand.tmp 33), none⟩,
    ⟨some 15, Op.assign (Operand.tmp 34), none⟩])
  (.seq (.block 0 (.seq (.ops [⟨some 36, Op.move (Operand.tmp 15), none⟩,
    ⟨some 37, Op.binOp BinOp.neq 41 (Operand.tmp 36) (Operand.const (Value.int IntKind.i64 0)) 41, none⟩,
    ⟨some 35, Op.assign (Operand.tmp 37), none⟩])
  (.cond (Operand.tmp 35)
  (.seq (.ops [⟨some 38, Op.move (Operand.tmp 15), none⟩,
    ⟨some 12, Op.assign (Operand.const (Value.int IntKind.i64 0)), none⟩,
    ⟨some 13, Op.assign (Operand.tmp 38), none⟩])
  .ret)
  (.seq (.ops [⟨some 40, Op.move (Operand.tmp 4), none⟩,
    ⟨some 41, Op.fieldAddr 40 (Operand.tmp 14) 6, none⟩,
    ⟨some 42, Op.load 3 (Operand.tmp 41), none⟩,
    ⟨some 43, Op.binOp BinOp.andNot 3 (Operand.tmp 40) (Operand.tmp 42) 3, none⟩,
    ⟨some 44, Op.binOp BinOp.neq 3 (Operand.tmp 43) (Operand.const (Value.int IntKind.i64 0)) 3, none⟩,
    ⟨some 45, Op.move (Operand.tmp 44), none⟩,
    ⟨some 46, Op.move (Operand.tmp 5), some (45, false)⟩,
    ⟨some 47, Op.fieldAddr 40 (Operand.tmp 14) 6, some (45, false)⟩,
    ⟨some 48, Op.load 3 (Operand.tmp 47), some (45, false)⟩,
    ⟨some 49, Op.binOp BinOp.andNot 3 (Operand.tmp 46) (Operand.tmp 48) 3, some (45, false)⟩,
    ⟨some 50, Op.binOp BinOp.neq 3 (Operand.tmp 49) (Operand.const (Value.int IntKind.i64 0)) 3, some (45, false)⟩,
    ⟨some 51, Op.pick (Operand.tmp 45) (Operand.const (Value.bool true)) (Operand.tmp 50), none⟩,
    ⟨some 39, Op.assign (Operand.tmp 51), none⟩])
  (.cond (Operand.tmp 39)
  (.seq (.ops [⟨some 12, Op.assign (Operand.const (Value.int IntKind.i64 0)), none⟩,
    ⟨some 13, Op.assign (Operand.const (Value.int IntKind.i64 8)), none⟩])
  .ret)
  .skip)))))
  (.seq (.ops [⟨some 52, Op.move (Operand.tmp 0), none⟩,
    ⟨some 53, Op.move (Operand.tmp 2), none⟩,
    ⟨some 54, Op.move (Operand.tmp 3), none⟩,
    ⟨some 55, Op.move (Operand.tmp 1), none⟩,
    ⟨some 56, Op.fieldAddr 40 (Operand.tmp 14) 4, none⟩,
    ⟨some 57, Op.load 3 (Operand.tmp 56), none⟩,
    ⟨some 58, Op.fieldAddr 40 (Operand.tmp 14) 5, none⟩,
    ⟨some 59, Op.load 3 (Operand.tmp 58), none⟩,
    ⟨some 60, Op.move (Operand.tmp 4), none⟩,
    ⟨some 61, Op.build 40 #[(1, Operand.tmp 53), (2, Operand.tmp 54), (3, Operand.tmp 55), (4, Operand.tmp 57), (5, Operand.tmp 59), (6, Operand.tmp 60)], none⟩,
    ⟨some 62, Op.call { callee := Callee.value (Operand.func 43), args := #[Operand.tmp 52, Operand.tmp 61], argTypes := #[24, 40] }, none⟩,
    ⟨some 63, Op.extract (Operand.tmp 62) 0, none⟩,
    ⟨some 64, Op.extract (Operand.tmp 62) 1, none⟩,
    ⟨some 12, Op.assign (Operand.tmp 63), none⟩,
    ⟨some 13, Op.assign (Operand.tmp 64), none⟩])
  .ret)))))
theorem ir44_eq : (Try.f44.body.map low, Try.f44.ntmps, Try.f44.results.toList) = (some ir44, 65, [.tmp 12, .tmp 13]) := by kernel_rfl
def ir46_l0 : LC := (.seq (.seq (.ops [⟨some 7, Op.move (Operand.tmp 6), none⟩,
    ⟨some 8, Op.move (Operand.tmp 0), none⟩,
    ⟨some 9, Op.nilCheck (Operand.tmp 8), none⟩,
    ⟨some 10, Op.fieldAddr 29 (Operand.tmp 9) 0, none⟩,
    ⟨some 11, Op.load 27 (Operand.tmp 10), none⟩,
    ⟨some 12, Op.call { callee := Callee.builtin Builtin.len, args := #[Operand.tmp 11], argTypes := #[27] }, none⟩,
    ⟨some 13, Op.binOp BinOp.lss 3 (Operand.tmp 7) (Operand.tmp 12) 3, none⟩])
  (.cond (Operand.tmp 13)
  .skip
  (.exit 0)))
  (.seq (.block 1 (.seq (.ops [⟨some 16, Op.move (Operand.tmp 0), none⟩,
    ⟨some 17, Op.nilCheck (Operand.tmp 16), none⟩,
    ⟨some 18, Op.fieldAddr 29 (Operand.tmp 17) 0, none⟩,
    ⟨some 19, Op.load 27 (Operand.tmp 18), none⟩,
    ⟨some 20, Op.move (Operand.tmp 6), none⟩,
    ⟨some 21, Op.indexAddr 27 (Operand.tmp 19) (Operand.tmp 20), none⟩,
    ⟨some 22, Op.fieldAddr 40 (Operand.tmp 21) 3, none⟩,
    ⟨some 23, Op.load 3 (Operand.tmp 22), none⟩,
    ⟨some 24, Op.move (Operand.tmp 1), none⟩,
    ⟨some 25, Op.binOp BinOp.eql 3 (Operand.tmp 23) (Operand.tmp 24) 3, none⟩])
  (.cond (Operand.tmp 25)
  (.ops [⟨some 26, Op.move (Operand.tmp 5), none⟩,
    ⟨some 27, Op.binOp BinOp.add 3 (Operand.tmp 26) (Operand.const (Value.int IntKind.i64 1)) 3, none⟩,
    ⟨some 5, Op.assign (Operand.tmp 27), none⟩])
  .skip)))
  (.ops [⟨some 14, Op.move (Operand.tmp 6), none⟩,
    ⟨some 15, Op.binOp BinOp.add 3 (Operand.tmp 14) (Operand.const (Value.int IntKind.i64 1)) 3, none⟩,
    ⟨some 6, Op.assign (Operand.tmp 15), none⟩])))
def ir46 : LC := (.seq (.ops [⟨some 4, Op.assign (Operand.const (Value.int IntKind.i64 0)), none⟩])
  (.seq (.ops [⟨some 5, Op.assign (Operand.const (Value.int IntKind.i64 0)), none⟩])
  (.seq (.seq (.ops [⟨some 6, Op.assign (Operand.const (Value.int IntKind.i64 0)), none⟩])
  (.block 0 (.loop ir46_l0)))
  (.seq (.ops [⟨some 28, Op.move (Operand.tmp 5), none⟩,
    ⟨some 4, Op.assign (Operand.tmp 28), none⟩])
  .ret))))
theorem ir46_eq : (Try.f46.body.map low, Try.f46.ntmps, Try.f46.results.toList) = (some ir46, 29, [.tmp 4]) := by kernel_rfl
def ir47_l0 : LC := (.seq (.seq (.ops [⟨some 8, Op.move (Operand.tmp 2), none⟩,
    ⟨some 9, Op.move (Operand.tmp 1), none⟩,
    ⟨some 10, Op.binOp BinOp.neq 2 (Operand.tmp 8) (Operand.tmp 9) 2, none⟩])
  (.cond (Operand.tmp 10)
  .skip
  (.exit 0)))
  (.block 1 (.seq (.ops [⟨some 11, Op.move (Operand.tmp 0), none⟩,
    ⟨some 12, Op.move (Operand.tmp 2), none⟩,
    ⟨some 13, Op.call { callee := Callee.value (Operand.func 51), args := #[Operand.tmp 11, Operand.tmp 12], argTypes := #[26, 2] }, none⟩,
    ⟨some 7, Op.assign (Operand.tmp 13), none⟩])
  (.seq (.seq (.ops [⟨some 14, Op.move (Operand.tmp 7), none⟩,
    ⟨some 15, Op.binOp BinOp.lss 3 (Operand.tmp 14) (Operand.const (Value.int IntKind.i64 0)) 3, none⟩])
  (.cond (Operand.tmp 15)
  (.seq (.ops [⟨some 6, Op.assign (Operand.const (Value.bool false)), none⟩])
  .ret)
  .skip))
  (.ops [⟨some 16, Op.move (Operand.tmp 0), none⟩,
    ⟨some 17, Op.nilCheck (Operand.tmp 16), none⟩,
    ⟨some 18, Op.fieldAddr 29 (Operand.tmp 17) 0, none⟩,
    ⟨some 19, Op.load 27 (Operand.tmp 18), none⟩,
    ⟨some 20, Op.move (Operand.tmp 7), none⟩,
    ⟨some 21, Op.indexAddr 27 (Operand.tmp 19) (Operand.tmp 20), none⟩,
    ⟨some 22, Op.fieldAddr 40 (Operand.tmp 21) 1, none⟩,
    ⟨some 23, Op.load 2 (Operand.tmp 22), none⟩,
    ⟨some 2, Op.assign (Operand.tmp 23), none⟩])))))
def ir47 : LC := (.seq (.ops [⟨some 6, Op.assign (Operand.const (Value.bool false)), none⟩])
  (.seq (.block 0 (.loop ir47_l0))
  (.seq (.ops [⟨some 6, Op.assign (Operand.const (Value.bool true)), none⟩])
  .ret)))
theorem ir47_eq : (Try.f47.body.map low, Try.f47.ntmps, Try.f47.results.toList) = (some ir47, 24, [.tmp 6]) := by kernel_rfl
def ir48 : LC := (.seq (.ops [⟨some 2, Op.assign (Operand.const (Value.bool false)), none⟩])
  (.seq (.ops [⟨some 3, Op.move (Operand.tmp 0), none⟩,
    ⟨some 4, Op.binOp BinOp.geq 3 (Operand.tmp 3) (Operand.const (Value.int IntKind.i64 0)) 3, none⟩,
    ⟨some 5, Op.move (Operand.tmp 4), none⟩,
    ⟨some 6, Op.move (Operand.tmp 0), some (5, true)⟩,
    ⟨some 7, Op.binOp BinOp.lss 3 (Operand.tmp 6) (Operand.const (Value.int IntKind.i64 8)) 3, some (5, true)⟩,
    ⟨some 8, Op.pick (Operand.tmp 5) (Operand.tmp 7) (Operand.const (Value.bool false)), none⟩,
    ⟨some 2, Op.assign (Operand.tmp 8), none⟩])
  .ret))
theorem ir48_eq : (Try.f48.body.map low, Try.f48.ntmps, Try.f48.results.toList) = (some ir48, 9, [.tmp 2]) := by kernel_rfl
def ir49 : LC := (.seq (.ops [⟨some 3, Op.box 40 (Operand.tmp 1), none⟩,
    ⟨some 4, Op.assign (Operand.const (Value.int IntKind.i64 0)), none⟩,
    ⟨some 5, Op.assign (Operand.const (Value.int IntKind.i64 0)), none⟩])
  (.seq (.seq (.ops [⟨some 6, Op.move (Operand.tmp 0), none⟩,
    ⟨some 7, Op.fieldAddr 40 (Operand.tmp 3) 3, none⟩,
    ⟨some 8, Op.load 3 (Operand.tmp 7), none⟩,
    ⟨some 9, Op.call { callee := Callee.value (Operand.func 46), args := #[Operand.tmp 6, Operand.tmp 8], argTypes := #[26, 3] }, none⟩,
    ⟨some 10, Op.binOp BinOp.geq 3 (Operand.tmp 9) (Operand.const (Value.int IntKind.i64 32)) 3, none⟩])
  (.cond (Operand.tmp 10)
  (.seq (.ops [⟨some 4, Op.assign (Operand.const (Value.int IntKind.i64 0)), none⟩,
    ⟨some 5, Op.assign (Operand.const (Value.int IntKind.i64 5)), none⟩])
  .ret)
  .skip))
  (.seq (.ops [⟨some 11, Op.move (Operand.tmp 0), none⟩,
    ⟨some 12, Op.nilCheck (Operand.tmp 11), none⟩,
    ⟨some 13, Op.fieldAddr 29 (Operand.tmp 12) 1, none⟩,
    ⟨some 14, Op.load 2 (Operand.tmp 13), none⟩,
    ⟨some 15, Op.binOp BinOp.add 2 (Operand.tmp 14) (Operand.const (Value.int IntKind.i64 1)) 2, none⟩,
    ⟨some 16, Op.nilCheck (Operand.tmp 11), none⟩,
    ⟨some 17, Op.fieldAddr 29 (Operand.tmp 16) 1, none⟩,
    ⟨none, Op.store 2 (Operand.tmp 17) (Operand.tmp 15), none⟩])
  (.seq (.ops [⟨some 18, Op.move (Operand.tmp 0), none⟩,
    ⟨some 19, Op.nilCheck (Operand.tmp 18), none⟩,
    ⟨some 20, Op.fieldAddr 29 (Operand.tmp 19) 1, none⟩,
    ⟨some 21, Op.load 2 (Operand.tmp 20), none⟩,
    ⟨some 22, Op.fieldAddr 40 (Operand.tmp 3) 0, none⟩,
    ⟨none, Op.store 2 (Operand.tmp 22) (Operand.tmp 21), none⟩])
  (.seq (.draw [⟨some 23, Op.move (Operand.tmp 0), none⟩,
    ⟨some 24, Op.move (Operand.tmp 0), none⟩,
    ⟨some 25, Op.nilCheck (Operand.tmp 24), none⟩,
    ⟨some 26, Op.fieldAddr 29 (Operand.tmp 25) 0, none⟩,
    ⟨some 27, Op.load 27 (Operand.tmp 26), none⟩,
    ⟨some 28, Op.load 40 (Operand.tmp 3), none⟩,
    ⟨some 29, Op.buildSlice 27 1 #[(0, Operand.tmp 28)], none⟩,
    ⟨some 30, Op.call { callee := Callee.builtin Builtin.append, args := #[Operand.tmp 27, Operand.tmp 29], argTypes := #[27, 27] }, none⟩,
    ⟨some 31, Op.nilCheck (Operand.tmp 23), none⟩,
    ⟨some 32, Op.fieldAddr 29 (Operand.tmp 31) 0, none⟩,
    ⟨none, Op.store 27 (Operand.tmp 32) (Operand.tmp 30), none⟩] [(0, 6), (1, 6), (2, 6), (3, 6), (4, 6), (0, 7)])
  (.seq (.ops [⟨some 33, Op.fieldAddr 40 (Operand.tmp 3) 0, none⟩,
    ⟨some 34, Op.load 2 (Operand.tmp 33), none⟩,
    ⟨some 4, Op.assign (Operand.tmp 34), none⟩,
    ⟨some 5, Op.assign (Operand.const (Value.int IntKind.i64 0)), none⟩])
  .ret))))))
theorem ir49_eq : (Try.f49.body.map low, Try.f49.ntmps, Try.f49.results.toList) = (some ir49, 35, [.tmp 4, .tmp 5]) := by kernel_rfl
def ir50 : LC := (.seq (.ops [⟨some 6, Op.assign (Operand.const (Value.bool false)), none⟩])
  (.seq (.ops [⟨some 8, Op.move (Operand.tmp 0), none⟩,
    ⟨some 9, Op.move (Operand.tmp 2), none⟩,
    ⟨some 10, Op.call { callee := Callee.value (Operand.func 51), args := #[Operand.tmp 8, Operand.tmp 9], argTypes := #[26, 2] }, none⟩,
    ⟨some 7, Op.assign (Operand.tmp 10), none⟩])
  (.seq (.ops [⟨some 11, Op.move (Operand.tmp 7), none⟩,
    ⟨some 12, Op.binOp BinOp.geq 3 (Operand.tmp 11) (Operand.const (Value.int IntKind.i64 0)) 3, none⟩,
    ⟨some 13, Op.move (Operand.tmp 12), none⟩,
    ⟨some 14, Op.move (Operand.tmp 0), some (13, true)⟩,
    ⟨some 15, Op.nilCheck (Operand.tmp 14), some (13, true)⟩,
    ⟨some 16, Op.fieldAddr 29 (Operand.tmp 15) 0, some (13, true)⟩,
    ⟨some 17, Op.load 27 (Operand.tmp 16), some (13, true)⟩,
    ⟨some 18, Op.move (Operand.tmp 7), some (13, true)⟩,
    ⟨some 19, Op.indexAddr 27 (Operand.tmp 17) (Operand.tmp 18), some (13, true)⟩,
    ⟨some 20, Op.fieldAddr 40 (Operand.tmp 19) 2, some (13, true)⟩,
    ⟨some 21, Op.load 3 (Operand.tmp 20), some (13, true)⟩,
    ⟨some 22, Op.move (Operand.tmp 1), some (13, true)⟩,
    ⟨some 23, Op.binOp BinOp.eql 3 (Operand.tmp 21) (Operand.tmp 22) 3, some (13, true)⟩,
    ⟨some 24, Op.pick (Operand.tmp 13) (Operand.tmp 23) (Operand.const (Value.bool false)), none⟩,
    ⟨some 6, Op.assign (Operand.tmp 24), none⟩])
  .ret)))
theorem ir50_eq : (Try.f50.body.map low, Try.f50.ntmps, Try.f50.results.toList) = (some ir50, 25, [.tmp 6]) := by kernel_rfl
def ir51_l0 : LC := (.seq (.seq (.ops [⟨some 6, Op.move (Operand.tmp 5), none⟩,
    ⟨some 7, Op.move (Operand.tmp 0), none⟩,
    ⟨some 8, Op.nilCheck (Operand.tmp 7), none⟩,
    ⟨some 9, Op.fieldAddr 29 (Operand.tmp 8) 0, none⟩,
    ⟨some 10, Op.load 27 (Operand.tmp 9), none⟩,
    ⟨some 11, Op.call { callee := Callee.builtin Builtin.len, args := #[Operand.tmp 10], argTypes := #[27] }, none⟩,
    ⟨some 12, Op.binOp BinOp.lss 3 (Operand.tmp 6) (Operand.tmp 11) 3, none⟩])
  (.cond (Operand.tmp 12)
  .skip
  (.exit 0)))
  (.seq (.block 1 (.seq (.ops [⟨some 15, Op.move (Operand.tmp 0), none⟩,
    ⟨some 16, Op.nilCheck (Operand.tmp 15), none⟩,
    ⟨some 17, Op.fieldAddr 29 (Operand.tmp 16) 0, none⟩,
    ⟨some 18, Op.load 27 (Operand.tmp 17), none⟩,
    ⟨some 19, Op.move (Operand.tmp 5), none⟩,
    ⟨some 20, Op.indexAddr 27 (Operand.tmp 18) (Operand.tmp 19), none⟩,
    ⟨some 21, Op.fieldAddr 40 (Operand.tmp 20) 0, none⟩,
    ⟨some 22, Op.load 2 (Operand.tmp 21), none⟩,
    ⟨some 23, Op.move (Operand.tmp 1), none⟩,
    ⟨some 24, Op.binOp BinOp.eql 2 (Operand.tmp 22) (Operand.tmp 23) 2, none⟩])
  (.cond (Operand.tmp 24)
  (.seq (.ops [⟨some 25, Op.move (Operand.tmp 5), none⟩,
    ⟨some 4, Op.assign (Operand.tmp 25), none⟩])
  .ret)
  .skip)))
  (.ops [⟨some 13, Op.move (Operand.tmp 5), none⟩,
    ⟨some 14, Op.binOp BinOp.add 3 (Operand.tmp 13) (Operand.const (Value.int IntKind.i64 1)) 3, none⟩,
    ⟨some 5, Op.assign (Operand.tmp 14), none⟩])))
def ir51 : LC := (.seq (.ops [⟨some 4, Op.assign (Operand.const (Value.int IntKind.i64 0)), none⟩])
  (.seq (.seq (.ops [⟨some 5, Op.assign (Operand.const (Value.int IntKind.i64 0)), none⟩])
  (.block 0 (.loop ir51_l0)))
  (.seq (.ops [⟨some 4, Op.assign (Operand.const (Value.int IntKind.i64 (-1))), none⟩])
  .ret)))
theorem ir51_eq : (Try.f51.body.map low, Try.f51.ntmps, Try.f51.results.toList) = (some ir51, 26, [.tmp 4]) := by kernel_rfl
def ir52 : LC := (.seq (.ops [⟨some 2, Op.assign (Operand.const (Value.slice none 0 0)), none⟩])
  (.seq (.ops [⟨some 3, Op.move (Operand.tmp 0), none⟩,
    ⟨some 4, Op.call { callee := Callee.value (Operand.func 57), args := #[Operand.const (Value.slice none 0 0), Operand.tmp 3], argTypes := #[45, 76] }, none⟩,
    ⟨some 2, Op.assign (Operand.tmp 4), none⟩])
  .ret))
theorem ir52_eq : (Try.f52.body.map low, Try.f52.ntmps, Try.f52.results.toList) = (some ir52, 5, [.tmp 2]) := by kernel_rfl
def ir54_l0 : LC := (.seq (.ops [⟨some 6, Op.next (Operand.tmp 5) false, none⟩,
    ⟨some 7, Op.extract (Operand.tmp 6) 0, none⟩])
  (.seq (.cond (Operand.tmp 7)
  .skip
  (.exit 0))
  (.block 1 (.seq (.ops [⟨some 8, Op.entry (Operand.tmp 5), none⟩,
    ⟨some 9, Op.extract (Operand.tmp 8) 0, none⟩,
    ⟨some 3, Op.assign (Operand.tmp 9), none⟩])
  (.seq (.ops [⟨some 10, Op.move (Operand.tmp 0), none⟩,
    ⟨some 11, Op.move (Operand.tmp 3), none⟩,
    ⟨some 12, Op.call { callee := Callee.value (Operand.tmp 10), args := #[Operand.tmp 11], argTypes := #[2] }, none⟩,
    ⟨some 13, Op.unOp UnOp.not 4 (Operand.tmp 12), none⟩])
  (.cond (Operand.tmp 13)
  .ret
  .skip))))))
def ir54 : LC := (.seq (.ops [⟨some 4, Op.load 59 (Operand.tmp 1), none⟩,
    ⟨some 5, Op.range 59 (Operand.tmp 4), none⟩])
  (.block 0 (.loop ir54_l0)))
theorem ir54_eq : (Try.f54.body.map low, Try.f54.ntmps, Try.f54.results.toList) = (some ir54, 14, []) := by kernel_rfl
def ir55_l0 : LC := (.seq (.ops [⟨some 17, Op.binOp BinOp.lss 3 (Operand.tmp 16) (Operand.tmp 15) 3, none⟩])
  (.seq (.cond (Operand.tmp 17)
  .skip
  (.exit 0))
  (.seq (.block 1 (.seq (.ops [⟨some 18, Op.indexAddr 45 (Operand.tmp 14) (Operand.tmp 16), none⟩,
    ⟨some 19, Op.load 2 (Operand.tmp 18), none⟩,
    ⟨some 6, Op.assign (Operand.tmp 19), none⟩])
  (.seq (.ops [⟨some 21, Op.load 24 (Operand.tmp 1), none⟩,
    ⟨some 22, Op.nilCheck (Operand.tmp 21), none⟩,
    ⟨some 23, Op.fieldAddr 61 (Operand.tmp 22) 0, none⟩,
    ⟨some 24, Op.load 59 (Operand.tmp 23), none⟩,
    ⟨some 25, Op.move (Operand.tmp 6), none⟩,
    ⟨some 26, Op.lookup 59 (Operand.tmp 24) (Operand.tmp 25) true, none⟩,
    ⟨some 20, Op.move (Operand.tmp 26), none⟩,
    ⟨some 27, Op.extract (Operand.tmp 20) 0, none⟩,
    ⟨some 28, Op.extract (Operand.tmp 20) 1, none⟩,
    ⟨some 7, Op.alloc 40, none⟩,
    ⟨none, Op.store 40 (Operand.tmp 7) (Operand.tmp 27), none⟩,
    ⟨some 8, Op.assign (Operand.tmp 28), none⟩])
  (.seq (.ops [⟨some 29, Op.move (Operand.tmp 8), none⟩,
    ⟨some 30, Op.move (Operand.tmp 29), none⟩,
    ⟨some 31, Op.fieldAddr 40 (Operand.tmp 7) 1, some (30, true)⟩,
    ⟨some 32, Op.load 2 (Operand.tmp 31), some (30, true)⟩,
    ⟨some 33, Op.move (Operand.tmp 0), some (30, true)⟩,
    ⟨some 34, Op.binOp BinOp.eql 2 (Operand.tmp 32) (Operand.tmp 33) 2, some (30, true)⟩,
    ⟨some 35, Op.pick (Operand.tmp 30) (Operand.tmp 34) (Operand.const (Value.bool false)), none⟩])
  (.cond (Operand.tmp 35)
  (.seq (.ops [⟨some 36, Op.load 24 (Operand.tmp 1), none⟩,
    ⟨some 37, Op.nilCheck (Operand.tmp 36), none⟩,
    ⟨some 38, Op.fieldAddr 61 (Operand.tmp 37) 0, none⟩,
    ⟨some 39, Op.load 59 (Operand.tmp 38), none⟩,
    ⟨some 40, Op.move (Operand.tmp 6), none⟩,
    ⟨none, Op.call { callee := Callee.builtin Builtin.delete, args := #[Operand.tmp 39, Operand.tmp 40], argTypes := #[59, 2] }, none⟩])
  (.seq (.ops [⟨some 41, Op.load 3 (Operand.tmp 2), none⟩,
    ⟨some 42, Op.binOp BinOp.add 3 (Operand.tmp 41) (Operand.const (Value.int IntKind.i64 1)) 3, none⟩,
    ⟨none, Op.store 3 (Operand.tmp 2) (Operand.tmp 42), none⟩])
  (.ops [⟨some 43, Op.load 90 (Operand.tmp 3), none⟩,
    ⟨some 44, Op.move (Operand.tmp 6), none⟩,
    ⟨some 45, Op.call { callee := Callee.value (Operand.tmp 43), args := #[Operand.tmp 44], argTypes := #[2] }, none⟩])))
  .skip)))))
  (.ops [⟨some 46, Op.binOp BinOp.add 3 (Operand.tmp 16) (Operand.const (Value.int IntKind.i64 1)) 3, none⟩,
    ⟨some 16, Op.move (Operand.tmp 46), none⟩]))))
def ir55 : LC := (.seq (.ops [⟨some 9, Op.load 24 (Operand.tmp 1), none⟩,
    ⟨some 10, Op.nilCheck (Operand.tmp 9), none⟩,
    ⟨some 11, Op.fieldAddr 61 (Operand.tmp 10) 0, none⟩,
    ⟨some 12, Op.load 59 (Operand.tmp 11), none⟩,
    ⟨some 13, Op.call { callee := Callee.value (Operand.func 39), args := #[Operand.tmp 12], argTypes := #[59] }, none⟩,
    ⟨some 14, Op.call { callee := Callee.value (Operand.func 38), args := #[Operand.tmp 13], argTypes := #[76] }, none⟩,
    ⟨some 15, Op.call { callee := Callee.builtin Builtin.len, args := #[Operand.tmp 14], argTypes := #[45] }, none⟩,
    ⟨some 16, Op.move (Operand.const (Value.int IntKind.i64 0)), none⟩])
  (.block 0 (.loop ir55_l0)))
theorem ir55_eq : (Try.f55.body.map low, Try.f55.ntmps, Try.f55.results.toList) = (some ir55, 47, []) := by kernel_rfl
noncomputable def rc57 (i : Nat) : Code × Code := (((Try.f57.body.map rangesOf).getD [])[i]?).getD (.skip, .skip)
noncomputable def ir57_a0 : LC := (.ops [⟨some 5, Op.assign (Operand.tmp 7), none⟩])
noncomputable def ir57_b0 : LC := (.block 1 (.ops [⟨some 8, Op.load 45 (Operand.tmp 2), none⟩,
    ⟨some 9, Op.move (Operand.tmp 5), none⟩,
    ⟨some 10, Op.buildSlice 45 1 #[(0, Operand.tmp 9)], none⟩,
    ⟨some 11, Op.call { callee := Callee.builtin Builtin.append, args := #[Operand.tmp 8, Operand.tmp 10], argTypes := #[45, 45] }, none⟩,
    ⟨none, Op.store 45 (Operand.tmp 2) (Operand.tmp 11), none⟩]))
theorem ir57_a0_eq : low (rc57 0).1 = ir57_a0 := by kernel_rfl
theorem ir57_b0_eq : low (rc57 0).2 = ir57_b0 := by kernel_rfl
noncomputable def ir57 : LC := (.seq (.ops [⟨some 2, Op.box 45 (Operand.tmp 0), none⟩,
    ⟨some 4, Op.assign (Operand.const (Value.slice none 0 0)), none⟩])
  (.seq (.seq (.ops [⟨some 6, Op.move (Operand.tmp 1), none⟩])
  (.block 0 (.range (Operand.tmp 6) #[7] (rc57 0).1 (rc57 0).2)))
  (.seq (.ops [⟨some 12, Op.load 45 (Operand.tmp 2), none⟩,
    ⟨some 4, Op.assign (Operand.tmp 12), none⟩])
  .ret)))
theorem ir57_eq : (Try.f57.body.map low, Try.f57.ntmps, Try.f57.results.toList) = (some ir57, 13, [.tmp 4]) := by kernel_rfl

end Go.Proofs.Ytehgjkopobkbmaa
