/- The code of this seat struck bare (printed by program). -/
import Derived.Test.YtehgjkopobkbmaaProg
import Derived.Test.YtehgjkopobkbmaaVmZ
import Derived.KernelRfl
set_option maxRecDepth 100000
namespace Go.Proofs.Ytehgjkopobkbmaa
open Go Go.Vm
def ir3_l0 : LC := (.seq (.seq (.ops [⟨some 21, Op.move (Operand.tmp 13), none⟩,
    ⟨some 22, Op.move (Operand.tmp 0), none⟩,
    ⟨some 23, Op.call { callee := Callee.builtin Builtin.len, args := #[Operand.tmp 22], argTypes := #[22] }, none⟩,
    ⟨some 24, Op.binOp BinOp.lss 3 (Operand.tmp 21) (Operand.tmp 23) 3, none⟩])
  (.cond (Operand.tmp 24)
  .skip
  (.exit 0)))
  (.seq (.block 1 (.seq (.ops [⟨some 27, Op.move (Operand.tmp 11), none⟩,
    ⟨some 28, Op.move (Operand.tmp 12), none⟩,
    ⟨some 29, Op.move (Operand.tmp 0), none⟩,
    ⟨some 30, Op.move (Operand.tmp 13), none⟩,
    ⟨some 31, Op.indexAddr 22 (Operand.tmp 29) (Operand.tmp 30), none⟩,
    ⟨some 32, Op.load 32 (Operand.tmp 31), none⟩,
    ⟨some 33, Op.call { callee := Callee.value (Operand.func 11), args := #[Operand.tmp 27, Operand.tmp 28, Operand.tmp 32], argTypes := #[24, 26, 32] }, none⟩,
    ⟨some 34, Op.unOp UnOp.not 4 (Operand.tmp 33), none⟩])
  (.cond (Operand.tmp 34)
  (.seq (.ops [⟨some 10, Op.assign (Operand.const (Value.bool false)), none⟩])
  .ret)
  .skip)))
  (.ops [⟨some 25, Op.move (Operand.tmp 13), none⟩,
    ⟨some 26, Op.binOp BinOp.add 3 (Operand.tmp 25) (Operand.const (Value.int IntKind.i64 1)) 3, none⟩,
    ⟨some 13, Op.assign (Operand.tmp 26), none⟩])))
def ir3 : LC := (.seq (.ops [⟨some 10, Op.assign (Operand.const (Value.bool false)), none⟩])
  (.seq (.seq (.ops [⟨some 14, Op.move (Operand.tmp 0), none⟩,
    ⟨some 15, Op.call { callee := Callee.builtin Builtin.len, args := #[Operand.tmp 14], argTypes := #[22] }, none⟩,
    ⟨some 16, Op.binOp BinOp.gtr 3 (Operand.tmp 15) (Operand.const (Value.int IntKind.i64 60)) 3, none⟩])
  (.cond (Operand.tmp 16)
  (.seq (.ops [⟨some 17, Op.call { callee := Callee.value (Operand.func 9), args := #[], argTypes := #[] }, none⟩,
    ⟨some 10, Op.assign (Operand.tmp 17), none⟩])
  .ret)
  .skip))
  (.seq (.ops [⟨some 18, Op.call { callee := Callee.value (Operand.func 10), args := #[], argTypes := #[] }, none⟩,
    ⟨some 11, Op.assign (Operand.tmp 18), none⟩])
  (.seq (.ops [⟨some 19, Op.build 29 #[], none⟩,
    ⟨some 20, Op.box 29 (Operand.tmp 19), none⟩,
    ⟨some 12, Op.assign (Operand.tmp 20), none⟩])
  (.seq (.seq (.ops [⟨some 13, Op.assign (Operand.const (Value.int IntKind.i64 0)), none⟩])
  (.block 0 (.loop ir3_l0)))
  (.seq (.ops [⟨some 35, Op.move (Operand.tmp 11), none⟩,
    ⟨some 36, Op.move (Operand.tmp 1), none⟩,
    ⟨some 37, Op.move (Operand.tmp 2), none⟩,
    ⟨some 38, Op.move (Operand.tmp 3), none⟩,
    ⟨some 39, Op.move (Operand.tmp 4), none⟩,
    ⟨some 40, Op.call { callee := Callee.value (Operand.func 12), args := #[Operand.tmp 35, Operand.tmp 36, Operand.tmp 37, Operand.tmp 38, Operand.tmp 39], argTypes := #[24, 3, 3, 3, 3] }, none⟩,
    ⟨some 41, Op.move (Operand.tmp 12), none⟩,
    ⟨some 42, Op.move (Operand.tmp 1), none⟩,
    ⟨some 43, Op.move (Operand.tmp 2), none⟩,
    ⟨some 44, Op.move (Operand.tmp 3), none⟩,
    ⟨some 45, Op.move (Operand.tmp 4), none⟩,
    ⟨some 46, Op.call { callee := Callee.value (Operand.func 13), args := #[Operand.tmp 41, Operand.tmp 42, Operand.tmp 43, Operand.tmp 44, Operand.tmp 45], argTypes := #[26, 3, 3, 3, 3] }, none⟩,
    ⟨some 47, Op.binOp BinOp.eql 4 (Operand.tmp 40) (Operand.tmp 46) 4, none⟩,
    ⟨some 48, Op.move (Operand.tmp 47), none⟩,
    ⟨some 49, Op.call { callee := Callee.value (Operand.func 9), args := #[], argTypes := #[] }, some (48, true)⟩,
    ⟨some 50, Op.pick (Operand.tmp 48) (Operand.tmp 49) (Operand.const (Value.bool false)), none⟩,
    ⟨some 10, Op.assign (Operand.tmp 50), none⟩])
  .ret))))))
theorem ir3_eq : (Try.f3.body.map low, Try.f3.ntmps, Try.f3.results.toList) = (some ir3, 51, [.tmp 10]) := by kernel_rfl
noncomputable def rc4 (i : Nat) : Code × Code := (((Try.f4.body.map rangesOf).getD [])[i]?).getD (.skip, .skip)
noncomputable def ir4_l0 : LC := (.seq (.seq (.ops [⟨some 14, Op.move (Operand.tmp 4), none⟩,
    ⟨some 15, Op.move (Operand.tmp 0), none⟩,
    ⟨some 16, Op.call { callee := Callee.builtin Builtin.len, args := #[Operand.tmp 15], argTypes := #[22] }, none⟩,
    ⟨some 17, Op.binOp BinOp.lss 3 (Operand.tmp 14) (Operand.tmp 16) 3, none⟩])
  (.cond (Operand.tmp 17)
  .skip
  (.exit 0)))
  (.seq (.block 1 (.seq (.draw [⟨some 20, Op.load 24 (Operand.tmp 3), none⟩,
    ⟨some 21, Op.move (Operand.tmp 0), none⟩,
    ⟨some 22, Op.move (Operand.tmp 4), none⟩,
    ⟨some 23, Op.indexAddr 22 (Operand.tmp 21) (Operand.tmp 22), none⟩,
    ⟨some 24, Op.load 32 (Operand.tmp 23), none⟩,
    ⟨some 25, Op.call { callee := Callee.value (Operand.func 14), args := #[Operand.tmp 20, Operand.tmp 24], argTypes := #[24, 32] }, none⟩] [])
  (.seq (.ops [⟨some 26, Op.load 24 (Operand.tmp 3), none⟩,
    ⟨some 27, Op.call { callee := Callee.value (Operand.func 15), args := #[Operand.tmp 26, Operand.const (Value.int IntKind.i64 (-1))], argTypes := #[24, 3] }, none⟩,
    ⟨some 5, Op.assign (Operand.tmp 27), none⟩])
  (.seq (.seq (.ops [⟨some 28, Op.move (Operand.tmp 5), none⟩,
    ⟨some 29, Op.binOp BinOp.eql 37 (Operand.tmp 28) (Operand.const Value.nilFunc) 37, none⟩])
  (.cond (Operand.tmp 29)
  (.seq (.ops [⟨none, Op.store 4 (Operand.tmp 2) (Operand.const (Value.bool false)), none⟩])
  .ret)
  .skip))
  (.seq (.ops [⟨some 30, Op.move (Operand.tmp 5), none⟩])
  (.block 2 (.range (Operand.tmp 30) #[31] (rc4 0).1 (rc4 0).2)))))))
  (.ops [⟨some 18, Op.move (Operand.tmp 4), none⟩,
    ⟨some 19, Op.binOp BinOp.add 3 (Operand.tmp 18) (Operand.const (Value.int IntKind.i64 1)) 3, none⟩,
    ⟨some 4, Op.assign (Operand.tmp 19), none⟩])))
noncomputable def ir4_a0 : LC := (.ops [⟨some 6, Op.alloc 40, none⟩,
    ⟨none, Op.store 40 (Operand.tmp 6) (Operand.tmp 31), none⟩])
noncomputable def ir4_b0 : LC := (.block 3 (.seq (.seq (.ops [⟨some 32, Op.fieldAddr 40 (Operand.tmp 6) 1, none⟩,
    ⟨some 33, Op.load 2 (Operand.tmp 32), none⟩,
    ⟨some 34, Op.binOp BinOp.eql 2 (Operand.tmp 33) (Operand.const (Value.int IntKind.i64 0)) 2, none⟩])
  (.cond (Operand.tmp 34)
  (.exit 3)
  .skip))
  (.seq (.ops [⟨some 36, Op.load 24 (Operand.tmp 3), none⟩,
    ⟨some 37, Op.fieldAddr 40 (Operand.tmp 6) 1, none⟩,
    ⟨some 38, Op.load 2 (Operand.tmp 37), none⟩,
    ⟨some 39, Op.call { callee := Callee.value (Operand.func 16), args := #[Operand.tmp 36, Operand.tmp 38], argTypes := #[24, 2] }, none⟩,
    ⟨some 35, Op.move (Operand.tmp 39), none⟩,
    ⟨some 40, Op.extract (Operand.tmp 35) 0, none⟩,
    ⟨some 41, Op.extract (Operand.tmp 35) 1, none⟩,
    ⟨some 7, Op.alloc 40, none⟩,
    ⟨none, Op.store 40 (Operand.tmp 7) (Operand.tmp 40), none⟩,
    ⟨some 8, Op.assign (Operand.tmp 41), none⟩])
  (.seq (.ops [⟨some 42, Op.move (Operand.tmp 8), none⟩,
    ⟨some 43, Op.binOp BinOp.neq 41 (Operand.tmp 42) (Operand.const (Value.int IntKind.i64 0)) 41, none⟩,
    ⟨some 44, Op.move (Operand.tmp 43), none⟩,
    ⟨some 45, Op.fieldAddr 40 (Operand.tmp 6) 6, some (44, false)⟩,
    ⟨some 46, Op.load 3 (Operand.tmp 45), some (44, false)⟩,
    ⟨some 47, Op.fieldAddr 40 (Operand.tmp 7) 6, some (44, false)⟩,
    ⟨some 48, Op.load 3 (Operand.tmp 47), some (44, false)⟩,
    ⟨some 49, Op.binOp BinOp.and 3 (Operand.tmp 46) (Operand.tmp 48) 3, some (44, false)⟩,
    ⟨some 50, Op.fieldAddr 40 (Operand.tmp 6) 6, some (44, false)⟩,
    ⟨some 51, Op.load 3 (Operand.tmp 50), some (44, false)⟩,
    ⟨some 52, Op.binOp BinOp.neq 3 (Operand.tmp 49) (Operand.tmp 51) 3, some (44, false)⟩,
    ⟨some 53, Op.pick (Operand.tmp 44) (Operand.const (Value.bool true)) (Operand.tmp 52), none⟩,
    ⟨some 54, Op.move (Operand.tmp 53), none⟩,
    ⟨some 55, Op.fieldAddr 40 (Operand.tmp 6) 4, some (54, false)⟩,
    ⟨some 56, Op.load 3 (Operand.tmp 55), some (54, false)⟩,
    ⟨some 57, Op.fieldAddr 40 (Operand.tmp 7) 4, some (54, false)⟩,
    ⟨some 58, Op.load 3 (Operand.tmp 57), some (54, false)⟩,
    ⟨some 59, Op.binOp BinOp.neq 3 (Operand.tmp 56) (Operand.tmp 58) 3, some (54, false)⟩,
    ⟨some 60, Op.pick (Operand.tmp 54) (Operand.const (Value.bool true)) (Operand.tmp 59), none⟩,
    ⟨some 61, Op.move (Operand.tmp 60), none⟩,
    ⟨some 62, Op.fieldAddr 40 (Operand.tmp 6) 5, some (61, false)⟩,
    ⟨some 63, Op.load 3 (Operand.tmp 62), some (61, false)⟩,
    ⟨some 64, Op.fieldAddr 40 (Operand.tmp 7) 5, some (61, false)⟩,
    ⟨some 65, Op.load 3 (Operand.tmp 64), some (61, false)⟩,
    ⟨some 66, Op.binOp BinOp.neq 3 (Operand.tmp 63) (Operand.tmp 65) 3, some (61, false)⟩,
    ⟨some 67, Op.pick (Operand.tmp 61) (Operand.const (Value.bool true)) (Operand.tmp 66), none⟩,
    ⟨some 68, Op.move (Operand.tmp 67), none⟩,
    ⟨some 69, Op.fieldAddr 40 (Operand.tmp 6) 0, some (68, false)⟩,
    ⟨some 70, Op.load 2 (Operand.tmp 69), some (68, false)⟩,
    ⟨some 71, Op.fieldAddr 40 (Operand.tmp 7) 0, some (68, false)⟩,
    ⟨some 72, Op.load 2 (Operand.tmp 71), some (68, false)⟩,
    ⟨some 73, Op.binOp BinOp.leq 2 (Operand.tmp 70) (Operand.tmp 72) 2, some (68, false)⟩,
    ⟨some 74, Op.pick (Operand.tmp 68) (Operand.const (Value.bool true)) (Operand.tmp 73), none⟩])
  (.cond (Operand.tmp 74)
  (.seq (.ops [⟨none, Op.store 4 (Operand.tmp 2) (Operand.const (Value.bool false)), none⟩])
  .ret)
  .skip)))))
theorem ir4_a0_eq : low (rc4 0).1 = ir4_a0 := by kernel_rfl
theorem ir4_b0_eq : low (rc4 0).2 = ir4_b0 := by kernel_rfl
noncomputable def ir4 : LC := (.seq (.ops [⟨some 2, Op.alloc 4, none⟩])
  (.seq (.seq (.ops [⟨some 9, Op.move (Operand.tmp 0), none⟩,
    ⟨some 10, Op.call { callee := Callee.builtin Builtin.len, args := #[Operand.tmp 9], argTypes := #[22] }, none⟩,
    ⟨some 11, Op.binOp BinOp.gtr 3 (Operand.tmp 10) (Operand.const (Value.int IntKind.i64 60)) 3, none⟩])
  (.cond (Operand.tmp 11)
  (.seq (.ops [⟨some 12, Op.call { callee := Callee.value (Operand.func 9), args := #[], argTypes := #[] }, none⟩,
    ⟨none, Op.store 4 (Operand.tmp 2) (Operand.tmp 12), none⟩])
  .ret)
  .skip))
  (.seq (.ops [⟨some 13, Op.call { callee := Callee.value (Operand.func 10), args := #[], argTypes := #[] }, none⟩,
    ⟨some 3, Op.alloc 24, none⟩,
    ⟨none, Op.store 24 (Operand.tmp 3) (Operand.tmp 13), none⟩])
  (.seq (.seq (.ops [⟨some 4, Op.assign (Operand.const (Value.int IntKind.i64 0)), none⟩])
  (.block 0 (.loop ir4_l0)))
  (.seq (.ops [⟨some 75, Op.call { callee := Callee.value (Operand.func 9), args := #[], argTypes := #[] }, none⟩,
    ⟨none, Op.store 4 (Operand.tmp 2) (Operand.tmp 75), none⟩])
  .ret)))))
theorem ir4_eq : (Try.f4.body.map low, Try.f4.ntmps, Try.f4.results.toList) = (some ir4, 76, [.cell 2 4]) := by kernel_rfl
noncomputable def rc5 (i : Nat) : Code × Code := (((Try.f5.body.map rangesOf).getD [])[i]?).getD (.skip, .skip)
noncomputable def ir5_l0 : LC := (.seq (.seq (.ops [⟨some 28, Op.move (Operand.tmp 8), none⟩,
    ⟨some 29, Op.move (Operand.tmp 0), none⟩,
    ⟨some 30, Op.call { callee := Callee.builtin Builtin.len, args := #[Operand.tmp 29], argTypes := #[22] }, none⟩,
    ⟨some 31, Op.binOp BinOp.lss 3 (Operand.tmp 28) (Operand.tmp 30) 3, none⟩])
  (.cond (Operand.tmp 31)
  .skip
  (.exit 0)))
  (.seq (.block 1 (.draw [⟨some 34, Op.load 24 (Operand.tmp 7), none⟩,
    ⟨some 35, Op.move (Operand.tmp 0), none⟩,
    ⟨some 36, Op.move (Operand.tmp 8), none⟩,
    ⟨some 37, Op.indexAddr 22 (Operand.tmp 35) (Operand.tmp 36), none⟩,
    ⟨some 38, Op.load 32 (Operand.tmp 37), none⟩,
    ⟨some 39, Op.call { callee := Callee.value (Operand.func 14), args := #[Operand.tmp 34, Operand.tmp 38], argTypes := #[24, 32] }, none⟩] []))
  (.ops [⟨some 32, Op.move (Operand.tmp 8), none⟩,
    ⟨some 33, Op.binOp BinOp.add 3 (Operand.tmp 32) (Operand.const (Value.int IntKind.i64 1)) 3, none⟩,
    ⟨some 8, Op.assign (Operand.tmp 33), none⟩])))
noncomputable def ir5_l1 : LC := (.seq (.seq (.ops [⟨some 103, Op.move (Operand.tmp 18), none⟩,
    ⟨some 104, Op.load 45 (Operand.tmp 11), none⟩,
    ⟨some 105, Op.call { callee := Callee.builtin Builtin.len, args := #[Operand.tmp 104], argTypes := #[45] }, none⟩,
    ⟨some 106, Op.binOp BinOp.lss 3 (Operand.tmp 103) (Operand.tmp 105) 3, none⟩])
  (.cond (Operand.tmp 106)
  .skip
  (.exit 4)))
  (.seq (.block 5 (.seq (.draw [⟨some 110, Op.load 24 (Operand.tmp 7), none⟩,
    ⟨some 111, Op.load 45 (Operand.tmp 11), none⟩,
    ⟨some 112, Op.move (Operand.tmp 18), none⟩,
    ⟨some 113, Op.indexAddr 45 (Operand.tmp 111) (Operand.tmp 112), none⟩,
    ⟨some 114, Op.load 2 (Operand.tmp 113), none⟩,
    ⟨some 115, Op.call { callee := Callee.value (Operand.func 16), args := #[Operand.tmp 110, Operand.tmp 114], argTypes := #[24, 2] }, none⟩,
    ⟨some 109, Op.move (Operand.tmp 115), none⟩,
    ⟨some 116, Op.extract (Operand.tmp 109) 0, none⟩,
    ⟨some 117, Op.extract (Operand.tmp 109) 1, none⟩,
    ⟨some 19, Op.alloc 40, none⟩,
    ⟨none, Op.store 40 (Operand.tmp 19) (Operand.tmp 116), none⟩,
    ⟨some 20, Op.assign (Operand.tmp 117), none⟩] [(0, 9), (1, 9), (2, 9), (3, 9), (4, 9), (5, 9), (6, 9), (7, 9), (8, 9), (8, 10)])
  (.seq (.ops [⟨some 118, Op.move (Operand.tmp 20), none⟩,
    ⟨some 119, Op.binOp BinOp.neq 41 (Operand.tmp 118) (Operand.const (Value.int IntKind.i64 6)) 41, none⟩])
  (.cond (Operand.tmp 119)
  (.seq (.ops [⟨none, Op.store 4 (Operand.tmp 6) (Operand.const (Value.bool false)), none⟩])
  .ret)
  .skip))))
  (.ops [⟨some 107, Op.move (Operand.tmp 18), none⟩,
    ⟨some 108, Op.binOp BinOp.add 3 (Operand.tmp 107) (Operand.const (Value.int IntKind.i64 1)) 3, none⟩,
    ⟨some 18, Op.assign (Operand.tmp 108), none⟩])))
noncomputable def ir5_a0 : LC := (.ops [⟨some 13, Op.alloc 40, none⟩,
    ⟨none, Op.store 40 (Operand.tmp 13) (Operand.tmp 58), none⟩])
noncomputable def ir5_b0 : LC := (.block 3 (.seq (.ops [⟨some 60, Op.load 24 (Operand.tmp 7), none⟩,
    ⟨some 61, Op.load 2 (Operand.tmp 4), none⟩,
    ⟨some 62, Op.fieldAddr 40 (Operand.tmp 13) 0, none⟩,
    ⟨some 63, Op.load 2 (Operand.tmp 62), none⟩,
    ⟨some 64, Op.call { callee := Callee.value (Operand.func 17), args := #[Operand.tmp 60, Operand.tmp 61, Operand.tmp 63], argTypes := #[24, 2, 2] }, none⟩,
    ⟨some 59, Op.move (Operand.tmp 64), none⟩,
    ⟨some 65, Op.extract (Operand.tmp 59) 0, none⟩,
    ⟨some 66, Op.extract (Operand.tmp 59) 1, none⟩,
    ⟨some 14, Op.assign (Operand.tmp 65), none⟩,
    ⟨some 15, Op.assign (Operand.tmp 66), none⟩])
  (.seq (.seq (.ops [⟨some 67, Op.move (Operand.tmp 15), none⟩,
    ⟨some 68, Op.binOp BinOp.neq 41 (Operand.tmp 67) (Operand.const (Value.int IntKind.i64 0)) 41, none⟩])
  (.cond (Operand.tmp 68)
  (.seq (.ops [⟨none, Op.store 4 (Operand.tmp 6) (Operand.const (Value.bool false)), none⟩])
  .ret)
  .skip))
  (.seq (.ops [⟨some 69, Op.move (Operand.tmp 14), none⟩,
    ⟨some 70, Op.move (Operand.tmp 69), none⟩,
    ⟨some 71, Op.fieldAddr 40 (Operand.tmp 13) 0, some (70, true)⟩,
    ⟨some 72, Op.load 2 (Operand.tmp 71), some (70, true)⟩,
    ⟨some 73, Op.load 2 (Operand.tmp 4), some (70, true)⟩,
    ⟨some 74, Op.binOp BinOp.neq 2 (Operand.tmp 72) (Operand.tmp 73) 2, some (70, true)⟩,
    ⟨some 75, Op.pick (Operand.tmp 70) (Operand.tmp 74) (Operand.const (Value.bool false)), none⟩])
  (.cond (Operand.tmp 75)
  (.ops [⟨some 76, Op.load 45 (Operand.tmp 11), none⟩,
    ⟨some 77, Op.fieldAddr 40 (Operand.tmp 13) 0, none⟩,
    ⟨some 78, Op.load 2 (Operand.tmp 77), none⟩,
    ⟨some 79, Op.buildSlice 45 1 #[(0, Operand.tmp 78)], none⟩,
    ⟨some 80, Op.call { callee := Callee.builtin Builtin.append, args := #[Operand.tmp 76, Operand.tmp 79], argTypes := #[45, 45] }, none⟩,
    ⟨none, Op.store 45 (Operand.tmp 11) (Operand.tmp 80), none⟩])
  .skip)))))
theorem ir5_a0_eq : low (rc5 0).1 = ir5_a0 := by kernel_rfl
theorem ir5_b0_eq : low (rc5 0).2 = ir5_b0 := by kernel_rfl
noncomputable def ir5 : LC := (.seq (.ops [⟨some 4, Op.box 2 (Operand.tmp 1), none⟩,
    ⟨some 6, Op.alloc 4, none⟩])
  (.seq (.seq (.ops [⟨some 23, Op.move (Operand.tmp 0), none⟩,
    ⟨some 24, Op.call { callee := Callee.builtin Builtin.len, args := #[Operand.tmp 23], argTypes := #[22] }, none⟩,
    ⟨some 25, Op.binOp BinOp.gtr 3 (Operand.tmp 24) (Operand.const (Value.int IntKind.i64 60)) 3, none⟩])
  (.cond (Operand.tmp 25)
  (.seq (.ops [⟨some 26, Op.call { callee := Callee.value (Operand.func 9), args := #[], argTypes := #[] }, none⟩,
    ⟨none, Op.store 4 (Operand.tmp 6) (Operand.tmp 26), none⟩])
  .ret)
  .skip))
  (.seq (.ops [⟨some 27, Op.call { callee := Callee.value (Operand.func 10), args := #[], argTypes := #[] }, none⟩,
    ⟨some 7, Op.alloc 24, none⟩,
    ⟨none, Op.store 24 (Operand.tmp 7) (Operand.tmp 27), none⟩])
  (.seq (.seq (.ops [⟨some 8, Op.assign (Operand.const (Value.int IntKind.i64 0)), none⟩])
  (.block 0 (.loop ir5_l0)))
  (.seq (.ops [⟨some 41, Op.load 24 (Operand.tmp 7), none⟩,
    ⟨some 42, Op.load 2 (Operand.tmp 4), none⟩,
    ⟨some 43, Op.call { callee := Callee.value (Operand.func 16), args := #[Operand.tmp 41, Operand.tmp 42], argTypes := #[24, 2] }, none⟩,
    ⟨some 40, Op.move (Operand.tmp 43), none⟩,
    ⟨some 44, Op.extract (Operand.tmp 40) 0, none⟩,
    ⟨some 45, Op.extract (Operand.tmp 40) 1, none⟩,
    ⟨some 9, Op.alloc 40, none⟩,
    ⟨none, Op.store 40 (Operand.tmp 9) (Operand.tmp 44), none⟩,
    ⟨some 10, Op.assign (Operand.tmp 45), none⟩])
  (.seq (.seq (.ops [⟨some 46, Op.move (Operand.tmp 10), none⟩,
    ⟨some 47, Op.binOp BinOp.neq 41 (Operand.tmp 46) (Operand.const (Value.int IntKind.i64 0)) 41, none⟩])
  (.cond (Operand.tmp 47)
  (.seq (.ops [⟨some 48, Op.move (Operand.tmp 10), none⟩,
    ⟨some 49, Op.binOp BinOp.eql 41 (Operand.tmp 48) (Operand.const (Value.int IntKind.i64 6)) 41, none⟩,
    ⟨some 50, Op.move (Operand.tmp 49), none⟩,
    ⟨some 51, Op.call { callee := Callee.value (Operand.func 9), args := #[], argTypes := #[] }, some (50, true)⟩,
    ⟨some 52, Op.pick (Operand.tmp 50) (Operand.tmp 51) (Operand.const (Value.bool false)), none⟩,
    ⟨none, Op.store 4 (Operand.tmp 6) (Operand.tmp 52), none⟩])
  .ret)
  .skip))
  (.seq (.ops [⟨some 11, Op.alloc 45, none⟩])
  (.seq (.ops [⟨some 53, Op.load 24 (Operand.tmp 7), none⟩,
    ⟨some 54, Op.call { callee := Callee.value (Operand.func 15), args := #[Operand.tmp 53, Operand.const (Value.int IntKind.i64 (-1))], argTypes := #[24, 3] }, none⟩,
    ⟨some 12, Op.assign (Operand.tmp 54), none⟩])
  (.seq (.seq (.ops [⟨some 55, Op.move (Operand.tmp 12), none⟩,
    ⟨some 56, Op.binOp BinOp.eql 37 (Operand.tmp 55) (Operand.const Value.nilFunc) 37, none⟩])
  (.cond (Operand.tmp 56)
  (.seq (.ops [⟨none, Op.store 4 (Operand.tmp 6) (Operand.const (Value.bool false)), none⟩])
  .ret)
  .skip))
  (.seq (.seq (.ops [⟨some 57, Op.move (Operand.tmp 12), none⟩])
  (.block 2 (.range (Operand.tmp 57) #[58] (rc5 0).1 (rc5 0).2)))
  (.seq (.ops [⟨some 82, Op.load 24 (Operand.tmp 7), none⟩,
    ⟨some 83, Op.fieldAddr 40 (Operand.tmp 9) 2, none⟩,
    ⟨some 84, Op.load 3 (Operand.tmp 83), none⟩,
    ⟨some 85, Op.load 2 (Operand.tmp 4), none⟩,
    ⟨some 86, Op.call { callee := Callee.value (Operand.func 18), args := #[Operand.tmp 82, Operand.tmp 84, Operand.tmp 85], argTypes := #[24, 3, 2] }, none⟩,
    ⟨some 81, Op.move (Operand.tmp 86), none⟩,
    ⟨some 87, Op.extract (Operand.tmp 81) 0, none⟩,
    ⟨some 88, Op.extract (Operand.tmp 81) 1, none⟩,
    ⟨some 16, Op.assign (Operand.tmp 87), none⟩,
    ⟨some 17, Op.assign (Operand.tmp 88), none⟩])
  (.seq (.seq (.ops [⟨some 89, Op.move (Operand.tmp 2), none⟩])
  (.cond (Operand.tmp 89)
  (.seq (.ops [⟨some 91, Op.load 24 (Operand.tmp 7), none⟩,
    ⟨some 92, Op.fieldAddr 40 (Operand.tmp 9) 2, none⟩,
    ⟨some 93, Op.load 3 (Operand.tmp 92), none⟩,
    ⟨some 94, Op.load 2 (Operand.tmp 4), none⟩,
    ⟨some 95, Op.call { callee := Callee.value (Operand.func 19), args := #[Operand.tmp 91, Operand.tmp 93, Operand.tmp 94], argTypes := #[24, 3, 2] }, none⟩,
    ⟨some 90, Op.move (Operand.tmp 95), none⟩,
    ⟨some 96, Op.extract (Operand.tmp 90) 0, none⟩,
    ⟨some 97, Op.extract (Operand.tmp 90) 1, none⟩,
    ⟨some 16, Op.assign (Operand.tmp 96), none⟩,
    ⟨some 17, Op.assign (Operand.tmp 97), none⟩])
  (.ops [⟨some 98, Op.move (Operand.tmp 16), none⟩,
    ⟨some 99, Op.load 45 (Operand.tmp 11), none⟩,
    ⟨some 100, Op.call { callee := Callee.builtin Builtin.len, args := #[Operand.tmp 99], argTypes := #[45] }, none⟩,
    ⟨some 101, Op.binOp BinOp.add 3 (Operand.tmp 98) (Operand.tmp 100) 3, none⟩,
    ⟨some 102, Op.binOp BinOp.sub 3 (Operand.tmp 101) (Operand.const (Value.int IntKind.i64 1)) 3, none⟩,
    ⟨some 16, Op.assign (Operand.tmp 102), none⟩]))
  .skip))
  (.seq (.seq (.ops [⟨some 18, Op.assign (Operand.const (Value.int IntKind.i64 0)), none⟩])
  (.block 4 (.loop ir5_l1)))
  (.seq (.ops [⟨some 121, Op.load 24 (Operand.tmp 7), none⟩,
    ⟨some 122, Op.load 2 (Operand.tmp 4), none⟩,
    ⟨some 123, Op.call { callee := Callee.value (Operand.func 16), args := #[Operand.tmp 121, Operand.tmp 122], argTypes := #[24, 2] }, none⟩,
    ⟨some 120, Op.move (Operand.tmp 123), none⟩,
    ⟨some 124, Op.extract (Operand.tmp 120) 0, none⟩,
    ⟨some 125, Op.extract (Operand.tmp 120) 1, none⟩,
    ⟨some 21, Op.alloc 40, none⟩,
    ⟨none, Op.store 40 (Operand.tmp 21) (Operand.tmp 124), none⟩,
    ⟨some 22, Op.assign (Operand.tmp 125), none⟩])
  (.seq (.ops [⟨some 126, Op.move (Operand.tmp 17), none⟩,
    ⟨some 127, Op.binOp BinOp.eql 41 (Operand.tmp 126) (Operand.const (Value.int IntKind.i64 0)) 41, none⟩,
    ⟨some 128, Op.move (Operand.tmp 127), none⟩,
    ⟨some 129, Op.move (Operand.tmp 16), some (128, true)⟩,
    ⟨some 130, Op.load 45 (Operand.tmp 11), some (128, true)⟩,
    ⟨some 131, Op.call { callee := Callee.builtin Builtin.len, args := #[Operand.tmp 130], argTypes := #[45] }, some (128, true)⟩,
    ⟨some 132, Op.binOp BinOp.eql 3 (Operand.tmp 129) (Operand.tmp 131) 3, some (128, true)⟩,
    ⟨some 133, Op.pick (Operand.tmp 128) (Operand.tmp 132) (Operand.const (Value.bool false)), none⟩,
    ⟨some 134, Op.move (Operand.tmp 133), none⟩,
    ⟨some 135, Op.move (Operand.tmp 22), some (134, true)⟩,
    ⟨some 136, Op.binOp BinOp.eql 41 (Operand.tmp 135) (Operand.const (Value.int IntKind.i64 6)) 41, some (134, true)⟩,
    ⟨some 137, Op.move (Operand.tmp 2), some (134, true)⟩,
    ⟨some 138, Op.binOp BinOp.eql 4 (Operand.tmp 136) (Operand.tmp 137) 4, some (134, true)⟩,
    ⟨some 139, Op.pick (Operand.tmp 134) (Operand.tmp 138) (Operand.const (Value.bool false)), none⟩,
    ⟨some 140, Op.move (Operand.tmp 139), none⟩,
    ⟨some 141, Op.call { callee := Callee.value (Operand.func 9), args := #[], argTypes := #[] }, some (140, true)⟩,
    ⟨some 142, Op.pick (Operand.tmp 140) (Operand.tmp 141) (Operand.const (Value.bool false)), none⟩,
    ⟨none, Op.store 4 (Operand.tmp 6) (Operand.tmp 142), none⟩])
  .ret)))))))))))))))
theorem ir5_eq : (Try.f5.body.map low, Try.f5.ntmps, Try.f5.results.toList) = (some ir5, 143, [.cell 6 4]) := by kernel_rfl
def ir6_l0 : LC := (.seq (.seq (.ops [⟨some 44, Op.move (Operand.tmp 11), none⟩,
    ⟨some 45, Op.move (Operand.tmp 0), none⟩,
    ⟨some 46, Op.call { callee := Callee.builtin Builtin.len, args := #[Operand.tmp 45], argTypes := #[22] }, none⟩,
    ⟨some 47, Op.binOp BinOp.lss 3 (Operand.tmp 44) (Operand.tmp 46) 3, none⟩])
  (.cond (Operand.tmp 47)
  .skip
  (.exit 0)))
  (.seq (.block 1 (.seq (.seq (.ops [⟨some 50, Op.move (Operand.tmp 11), none⟩,
    ⟨some 51, Op.move (Operand.tmp 1), none⟩,
    ⟨some 52, Op.call { callee := Callee.builtin Builtin.len, args := #[Operand.tmp 51], argTypes := #[22] }, none⟩,
    ⟨some 53, Op.binOp BinOp.lss 3 (Operand.tmp 50) (Operand.tmp 52) 3, none⟩])
  (.cond (Operand.tmp 53)
  (.seq (.ops [⟨some 54, Op.move (Operand.tmp 1), none⟩,
    ⟨some 55, Op.move (Operand.tmp 11), none⟩,
    ⟨some 56, Op.indexAddr 22 (Operand.tmp 54) (Operand.tmp 55), none⟩,
    ⟨some 57, Op.load 32 (Operand.tmp 56), none⟩,
    ⟨some 12, Op.alloc 32, none⟩,
    ⟨none, Op.store 32 (Operand.tmp 12) (Operand.tmp 57), none⟩])
  (.seq (.seq (.ops [⟨some 58, Op.fieldAddr 32 (Operand.tmp 12) 1, none⟩,
    ⟨some 59, Op.load 3 (Operand.tmp 58), none⟩,
    ⟨some 60, Op.binOp BinOp.eql 3 (Operand.tmp 59) (Operand.const (Value.int IntKind.i64 1)) 3, none⟩])
  (.cond (Operand.tmp 60)
  (.ops [⟨some 61, Op.fieldAddr 32 (Operand.tmp 12) 1, none⟩,
    ⟨none, Op.store 3 (Operand.tmp 61) (Operand.const (Value.int IntKind.i64 2)), none⟩])
  .skip))
  (.seq (.ops [⟨some 62, Op.fieldAddr 32 (Operand.tmp 12) 0, none⟩,
    ⟨some 63, Op.load 3 (Operand.tmp 62), none⟩,
    ⟨some 64, Op.binOp BinOp.neq 3 (Operand.tmp 63) (Operand.const (Value.int IntKind.i64 4)) 3, none⟩,
    ⟨some 65, Op.move (Operand.tmp 64), none⟩,
    ⟨some 66, Op.fieldAddr 32 (Operand.tmp 12) 0, some (65, true)⟩,
    ⟨some 67, Op.load 3 (Operand.tmp 66), some (65, true)⟩,
    ⟨some 68, Op.binOp BinOp.neq 3 (Operand.tmp 67) (Operand.const (Value.int IntKind.i64 5)) 3, some (65, true)⟩,
    ⟨some 69, Op.pick (Operand.tmp 65) (Operand.tmp 68) (Operand.const (Value.bool false)), none⟩])
  (.cond (Operand.tmp 69)
  (.ops [⟨some 70, Op.move (Operand.tmp 6), none⟩,
    ⟨some 71, Op.load 32 (Operand.tmp 12), none⟩,
    ⟨some 72, Op.call { callee := Callee.value (Operand.func 14), args := #[Operand.tmp 70, Operand.tmp 71], argTypes := #[24, 32] }, none⟩])
  .skip))))
  .skip))
  (.seq (.ops [⟨some 74, Op.move (Operand.tmp 5), none⟩,
    ⟨some 75, Op.move (Operand.tmp 7), none⟩,
    ⟨some 76, Op.move (Operand.tmp 0), none⟩,
    ⟨some 77, Op.move (Operand.tmp 11), none⟩,
    ⟨some 78, Op.indexAddr 22 (Operand.tmp 76) (Operand.tmp 77), none⟩,
    ⟨some 79, Op.fieldAddr 32 (Operand.tmp 78) 5, none⟩,
    ⟨some 80, Op.load 3 (Operand.tmp 79), none⟩,
    ⟨some 81, Op.call { callee := Callee.value (Operand.func 21), args := #[Operand.tmp 74, Operand.const (Value.int IntKind.i64 1), Operand.tmp 75, Operand.tmp 80], argTypes := #[24, 3, 2, 3] }, none⟩,
    ⟨some 73, Op.move (Operand.tmp 81), none⟩,
    ⟨some 82, Op.extract (Operand.tmp 73) 0, none⟩,
    ⟨some 83, Op.extract (Operand.tmp 73) 1, none⟩,
    ⟨some 13, Op.assign (Operand.tmp 82), none⟩,
    ⟨some 14, Op.assign (Operand.tmp 83), none⟩])
  (.seq (.ops [⟨some 85, Op.move (Operand.tmp 6), none⟩,
    ⟨some 86, Op.move (Operand.tmp 9), none⟩,
    ⟨some 87, Op.move (Operand.tmp 0), none⟩,
    ⟨some 88, Op.move (Operand.tmp 11), none⟩,
    ⟨some 89, Op.indexAddr 22 (Operand.tmp 87) (Operand.tmp 88), none⟩,
    ⟨some 90, Op.fieldAddr 32 (Operand.tmp 89) 5, none⟩,
    ⟨some 91, Op.load 3 (Operand.tmp 90), none⟩,
    ⟨some 92, Op.call { callee := Callee.value (Operand.func 21), args := #[Operand.tmp 85, Operand.const (Value.int IntKind.i64 1), Operand.tmp 86, Operand.tmp 91], argTypes := #[24, 3, 2, 3] }, none⟩,
    ⟨some 84, Op.move (Operand.tmp 92), none⟩,
    ⟨some 93, Op.extract (Operand.tmp 84) 0, none⟩,
    ⟨some 94, Op.extract (Operand.tmp 84) 1, none⟩,
    ⟨some 15, Op.assign (Operand.tmp 93), none⟩,
    ⟨some 16, Op.assign (Operand.tmp 94), none⟩])
  (.seq (.draw [⟨some 95, Op.move (Operand.tmp 14), none⟩,
    ⟨some 96, Op.move (Operand.tmp 16), none⟩,
    ⟨some 97, Op.binOp BinOp.neq 41 (Operand.tmp 95) (Operand.tmp 96) 41, none⟩,
    ⟨some 98, Op.move (Operand.tmp 97), none⟩,
    ⟨some 99, Op.move (Operand.tmp 5), some (98, false)⟩,
    ⟨some 100, Op.move (Operand.tmp 0), some (98, false)⟩,
    ⟨some 101, Op.move (Operand.tmp 11), some (98, false)⟩,
    ⟨some 102, Op.indexAddr 22 (Operand.tmp 100) (Operand.tmp 101), some (98, false)⟩,
    ⟨some 103, Op.fieldAddr 32 (Operand.tmp 102) 5, some (98, false)⟩,
    ⟨some 104, Op.load 3 (Operand.tmp 103), some (98, false)⟩,
    ⟨some 105, Op.call { callee := Callee.value (Operand.func 12), args := #[Operand.tmp 99, Operand.const (Value.int IntKind.i64 1), Operand.const (Value.int IntKind.i64 0), Operand.const (Value.int IntKind.i64 1), Operand.tmp 104], argTypes := #[24, 3, 3, 3, 3] }, some (98, false)⟩,
    ⟨some 106, Op.move (Operand.tmp 6), some (98, false)⟩,
    ⟨some 107, Op.move (Operand.tmp 0), some (98, false)⟩,
    ⟨some 108, Op.move (Operand.tmp 11), some (98, false)⟩,
    ⟨some 109, Op.indexAddr 22 (Operand.tmp 107) (Operand.tmp 108), some (98, false)⟩,
    ⟨some 110, Op.fieldAddr 32 (Operand.tmp 109) 5, some (98, false)⟩,
    ⟨some 111, Op.load 3 (Operand.tmp 110), some (98, false)⟩,
    ⟨some 112, Op.call { callee := Callee.value (Operand.func 12), args := #[Operand.tmp 106, Operand.const (Value.int IntKind.i64 1), Operand.const (Value.int IntKind.i64 0), Operand.const (Value.int IntKind.i64 1), Operand.tmp 111], argTypes := #[24, 3, 3, 3, 3] }, some (98, false)⟩,
    ⟨some 113, Op.binOp BinOp.neq 4 (Operand.tmp 105) (Operand.tmp 112) 4, some (98, false)⟩,
    ⟨some 114, Op.move (Operand.tmp 113), some (98, false)⟩,
    ⟨some 115, Op.move (Operand.tmp 6), some (114, true)⟩,
    ⟨some 116, Op.call { callee := Callee.value (Operand.func 22), args := #[Operand.tmp 115], argTypes := #[24] }, some (114, true)⟩,
    ⟨some 117, Op.unOp UnOp.not 4 (Operand.tmp 116), some (114, true)⟩,
    ⟨some 118, Op.pick (Operand.tmp 114) (Operand.tmp 117) (Operand.const (Value.bool false)), some (98, false)⟩,
    ⟨some 119, Op.pick (Operand.tmp 98) (Operand.const (Value.bool true)) (Operand.tmp 118), none⟩] [(10, 11), (10, 12), (10, 13), (10, 14), (10, 15), (10, 16)])
  (.cond (Operand.tmp 119)
  (.seq (.ops [⟨some 4, Op.assign (Operand.const (Value.bool false)), none⟩])
  .ret)
  .skip))))))
  (.ops [⟨some 48, Op.move (Operand.tmp 11), none⟩,
    ⟨some 49, Op.binOp BinOp.add 3 (Operand.tmp 48) (Operand.const (Value.int IntKind.i64 1)) 3, none⟩,
    ⟨some 11, Op.assign (Operand.tmp 49), none⟩])))
def ir6 : LC := (.seq (.ops [⟨some 4, Op.assign (Operand.const (Value.bool false)), none⟩])
  (.seq (.seq (.ops [⟨some 17, Op.move (Operand.tmp 0), none⟩,
    ⟨some 18, Op.call { callee := Callee.builtin Builtin.len, args := #[Operand.tmp 17], argTypes := #[22] }, none⟩,
    ⟨some 19, Op.binOp BinOp.gtr 3 (Operand.tmp 18) (Operand.const (Value.int IntKind.i64 40)) 3, none⟩,
    ⟨some 20, Op.move (Operand.tmp 19), none⟩,
    ⟨some 21, Op.move (Operand.tmp 1), some (20, false)⟩,
    ⟨some 22, Op.call { callee := Callee.builtin Builtin.len, args := #[Operand.tmp 21], argTypes := #[22] }, some (20, false)⟩,
    ⟨some 23, Op.binOp BinOp.gtr 3 (Operand.tmp 22) (Operand.const (Value.int IntKind.i64 40)) 3, some (20, false)⟩,
    ⟨some 24, Op.pick (Operand.tmp 20) (Operand.const (Value.bool true)) (Operand.tmp 23), none⟩])
  (.cond (Operand.tmp 24)
  (.seq (.ops [⟨some 25, Op.call { callee := Callee.value (Operand.func 9), args := #[], argTypes := #[] }, none⟩,
    ⟨some 4, Op.assign (Operand.tmp 25), none⟩])
  .ret)
  .skip))
  (.seq (.ops [⟨some 26, Op.call { callee := Callee.value (Operand.func 10), args := #[], argTypes := #[] }, none⟩,
    ⟨some 27, Op.call { callee := Callee.value (Operand.func 10), args := #[], argTypes := #[] }, none⟩,
    ⟨some 5, Op.assign (Operand.tmp 26), none⟩,
    ⟨some 6, Op.assign (Operand.tmp 27), none⟩])
  (.seq (.ops [⟨some 29, Op.move (Operand.tmp 5), none⟩,
    ⟨some 30, Op.call { callee := Callee.value (Operand.func 20), args := #[Operand.tmp 29, Operand.const (Value.int IntKind.i64 1), Operand.const (Value.int IntKind.i64 0), Operand.const (Value.int IntKind.i64 1), Operand.const (Value.int IntKind.i64 7)], argTypes := #[24, 3, 3, 3, 3] }, none⟩,
    ⟨some 28, Op.move (Operand.tmp 30), none⟩,
    ⟨some 31, Op.extract (Operand.tmp 28) 0, none⟩,
    ⟨some 32, Op.extract (Operand.tmp 28) 1, none⟩,
    ⟨some 7, Op.assign (Operand.tmp 31), none⟩,
    ⟨some 8, Op.assign (Operand.tmp 32), none⟩])
  (.seq (.ops [⟨some 34, Op.move (Operand.tmp 6), none⟩,
    ⟨some 35, Op.call { callee := Callee.value (Operand.func 20), args := #[Operand.tmp 34, Operand.const (Value.int IntKind.i64 1), Operand.const (Value.int IntKind.i64 0), Operand.const (Value.int IntKind.i64 1), Operand.const (Value.int IntKind.i64 7)], argTypes := #[24, 3, 3, 3, 3] }, none⟩,
    ⟨some 33, Op.move (Operand.tmp 35), none⟩,
    ⟨some 36, Op.extract (Operand.tmp 33) 0, none⟩,
    ⟨some 37, Op.extract (Operand.tmp 33) 1, none⟩,
    ⟨some 9, Op.assign (Operand.tmp 36), none⟩,
    ⟨some 10, Op.assign (Operand.tmp 37), none⟩])
  (.seq (.seq (.ops [⟨some 38, Op.move (Operand.tmp 8), none⟩,
    ⟨some 39, Op.binOp BinOp.neq 41 (Operand.tmp 38) (Operand.const (Value.int IntKind.i64 0)) 41, none⟩,
    ⟨some 40, Op.move (Operand.tmp 39), none⟩,
    ⟨some 41, Op.move (Operand.tmp 10), some (40, false)⟩,
    ⟨some 42, Op.binOp BinOp.neq 41 (Operand.tmp 41) (Operand.const (Value.int IntKind.i64 0)) 41, some (40, false)⟩,
    ⟨some 43, Op.pick (Operand.tmp 40) (Operand.const (Value.bool true)) (Operand.tmp 42), none⟩])
  (.cond (Operand.tmp 43)
  (.seq (.ops [⟨some 4, Op.assign (Operand.const (Value.bool false)), none⟩])
  .ret)
  .skip))
  (.seq (.seq (.ops [⟨some 11, Op.assign (Operand.const (Value.int IntKind.i64 0)), none⟩])
  (.block 0 (.loop ir6_l0)))
  (.seq (.ops [⟨some 120, Op.call { callee := Callee.value (Operand.func 9), args := #[], argTypes := #[] }, none⟩,
    ⟨some 4, Op.assign (Operand.tmp 120), none⟩])
  .ret))))))))
theorem ir6_eq : (Try.f6.body.map low, Try.f6.ntmps, Try.f6.results.toList) = (some ir6, 121, [.tmp 4]) := by kernel_rfl
def ir7_l0 : LC := (.seq (.seq (.ops [⟨some 17, Op.move (Operand.tmp 9), none⟩,
    ⟨some 18, Op.move (Operand.tmp 0), none⟩,
    ⟨some 19, Op.call { callee := Callee.builtin Builtin.len, args := #[Operand.tmp 18], argTypes := #[22] }, none⟩,
    ⟨some 20, Op.binOp BinOp.lss 3 (Operand.tmp 17) (Operand.tmp 19) 3, none⟩])
  (.cond (Operand.tmp 20)
  .skip
  (.exit 0)))
  (.seq (.block 1 (.seq (.seq (.ops [⟨some 23, Op.move (Operand.tmp 0), none⟩,
    ⟨some 24, Op.move (Operand.tmp 9), none⟩,
    ⟨some 25, Op.indexAddr 22 (Operand.tmp 23) (Operand.tmp 24), none⟩,
    ⟨some 26, Op.fieldAddr 32 (Operand.tmp 25) 0, none⟩,
    ⟨some 27, Op.load 3 (Operand.tmp 26), none⟩,
    ⟨some 28, Op.binOp BinOp.eql 3 (Operand.tmp 27) (Operand.const (Value.int IntKind.i64 6)) 3, none⟩])
  (.cond (Operand.tmp 28)
  (.seq (.ops [⟨some 29, Op.move (Operand.tmp 5), none⟩,
    ⟨some 30, Op.move (Operand.tmp 6), none⟩,
    ⟨some 7, Op.assign (Operand.tmp 29), none⟩,
    ⟨some 8, Op.assign (Operand.tmp 30), none⟩])
  (.seq (.ops [⟨some 31, Op.move (Operand.tmp 5), none⟩,
    ⟨some 32, Op.call { callee := Callee.value (Operand.func 23), args := #[Operand.tmp 31], argTypes := #[24] }, none⟩,
    ⟨some 33, Op.move (Operand.tmp 6), none⟩,
    ⟨some 34, Op.call { callee := Callee.value (Operand.func 24), args := #[Operand.tmp 33], argTypes := #[26] }, none⟩,
    ⟨some 5, Op.assign (Operand.tmp 32), none⟩,
    ⟨some 6, Op.assign (Operand.tmp 34), none⟩])
  (.seq (.ops [⟨some 35, Op.move (Operand.tmp 5), none⟩,
    ⟨some 36, Op.binOp BinOp.eql 24 (Operand.tmp 35) (Operand.const (Value.pointer none)) 24, none⟩])
  (.cond (Operand.tmp 36)
  (.seq (.ops [⟨some 4, Op.assign (Operand.const (Value.bool false)), none⟩])
  .ret)
  .skip))))
  .skip))
  (.seq (.ops [⟨some 37, Op.move (Operand.tmp 5), none⟩,
    ⟨some 38, Op.move (Operand.tmp 6), none⟩,
    ⟨some 39, Op.move (Operand.tmp 0), none⟩,
    ⟨some 40, Op.move (Operand.tmp 9), none⟩,
    ⟨some 41, Op.indexAddr 22 (Operand.tmp 39) (Operand.tmp 40), none⟩,
    ⟨some 42, Op.load 32 (Operand.tmp 41), none⟩,
    ⟨some 43, Op.call { callee := Callee.value (Operand.func 11), args := #[Operand.tmp 37, Operand.tmp 38, Operand.tmp 42], argTypes := #[24, 26, 32] }, none⟩,
    ⟨some 44, Op.unOp UnOp.not 4 (Operand.tmp 43), none⟩,
    ⟨some 45, Op.move (Operand.tmp 44), none⟩,
    ⟨some 46, Op.move (Operand.tmp 5), some (45, false)⟩,
    ⟨some 47, Op.move (Operand.tmp 6), some (45, false)⟩,
    ⟨some 48, Op.move (Operand.tmp 1), some (45, false)⟩,
    ⟨some 49, Op.call { callee := Callee.value (Operand.func 25), args := #[Operand.tmp 46, Operand.tmp 47, Operand.tmp 48], argTypes := #[24, 26, 3] }, some (45, false)⟩,
    ⟨some 50, Op.unOp UnOp.not 4 (Operand.tmp 49), some (45, false)⟩,
    ⟨some 51, Op.pick (Operand.tmp 45) (Operand.const (Value.bool true)) (Operand.tmp 50), none⟩])
  (.cond (Operand.tmp 51)
  (.seq (.ops [⟨some 4, Op.assign (Operand.const (Value.bool false)), none⟩])
  .ret)
  .skip))))
  (.ops [⟨some 21, Op.move (Operand.tmp 9), none⟩,
    ⟨some 22, Op.binOp BinOp.add 3 (Operand.tmp 21) (Operand.const (Value.int IntKind.i64 1)) 3, none⟩,
    ⟨some 9, Op.assign (Operand.tmp 22), none⟩])))
def ir7 : LC := (.seq (.ops [⟨some 4, Op.assign (Operand.const (Value.bool false)), none⟩])
  (.seq (.seq (.ops [⟨some 10, Op.move (Operand.tmp 0), none⟩,
    ⟨some 11, Op.call { callee := Callee.builtin Builtin.len, args := #[Operand.tmp 10], argTypes := #[22] }, none⟩,
    ⟨some 12, Op.binOp BinOp.gtr 3 (Operand.tmp 11) (Operand.const (Value.int IntKind.i64 60)) 3, none⟩])
  (.cond (Operand.tmp 12)
  (.seq (.ops [⟨some 13, Op.call { callee := Callee.value (Operand.func 9), args := #[], argTypes := #[] }, none⟩,
    ⟨some 4, Op.assign (Operand.tmp 13), none⟩])
  .ret)
  .skip))
  (.seq (.ops [⟨some 14, Op.call { callee := Callee.value (Operand.func 10), args := #[], argTypes := #[] }, none⟩,
    ⟨some 5, Op.assign (Operand.tmp 14), none⟩])
  (.seq (.ops [⟨some 15, Op.build 29 #[], none⟩,
    ⟨some 16, Op.box 29 (Operand.tmp 15), none⟩,
    ⟨some 6, Op.assign (Operand.tmp 16), none⟩])
  (.seq (.ops [⟨some 7, Op.assign (Operand.const (Value.pointer none)), none⟩])
  (.seq (.ops [⟨some 8, Op.assign (Operand.const (Value.pointer none)), none⟩])
  (.seq (.seq (.ops [⟨some 9, Op.assign (Operand.const (Value.int IntKind.i64 0)), none⟩])
  (.block 0 (.loop ir7_l0)))
  (.seq (.ops [⟨some 52, Op.move (Operand.tmp 7), none⟩,
    ⟨some 53, Op.binOp BinOp.eql 24 (Operand.tmp 52) (Operand.const (Value.pointer none)) 24, none⟩,
    ⟨some 54, Op.move (Operand.tmp 53), none⟩,
    ⟨some 55, Op.move (Operand.tmp 7), some (54, false)⟩,
    ⟨some 56, Op.move (Operand.tmp 8), some (54, false)⟩,
    ⟨some 57, Op.move (Operand.tmp 1), some (54, false)⟩,
    ⟨some 58, Op.call { callee := Callee.value (Operand.func 25), args := #[Operand.tmp 55, Operand.tmp 56, Operand.tmp 57], argTypes := #[24, 26, 3] }, some (54, false)⟩,
    ⟨some 59, Op.pick (Operand.tmp 54) (Operand.const (Value.bool true)) (Operand.tmp 58), none⟩,
    ⟨some 60, Op.move (Operand.tmp 59), none⟩,
    ⟨some 61, Op.call { callee := Callee.value (Operand.func 9), args := #[], argTypes := #[] }, some (60, true)⟩,
    ⟨some 62, Op.pick (Operand.tmp 60) (Operand.tmp 61) (Operand.const (Value.bool false)), none⟩,
    ⟨some 4, Op.assign (Operand.tmp 62), none⟩])
  .ret))))))))
theorem ir7_eq : (Try.f7.body.map low, Try.f7.ntmps, Try.f7.results.toList) = (some ir7, 63, [.tmp 4]) := by kernel_rfl
def ir8_l0 : LC := (.seq (.seq (.ops [⟨some 42, Op.move (Operand.tmp 2), none⟩,
    ⟨some 43, Op.binOp BinOp.lss 3 (Operand.tmp 42) (Operand.const (Value.int IntKind.i64 2)) 3, none⟩])
  (.cond (Operand.tmp 43)
  .skip
  (.exit 0)))
  (.seq (.block 1 (.seq (.ops [⟨some 46, Op.move (Operand.tmp 1), none⟩,
    ⟨some 47, Op.move (Operand.tmp 2), none⟩,
    ⟨some 48, Op.indexAddr 62 (Operand.tmp 46) (Operand.tmp 47), none⟩,
    ⟨some 49, Op.load 24 (Operand.tmp 48), none⟩,
    ⟨some 3, Op.assign (Operand.tmp 49), none⟩])
  (.seq (.ops [⟨some 51, Op.move (Operand.tmp 3), none⟩,
    ⟨some 52, Op.call { callee := Callee.value (Operand.func 20), args := #[Operand.tmp 51, Operand.const (Value.int IntKind.i64 (-1)), Operand.const (Value.int IntKind.i64 0), Operand.const (Value.int IntKind.i64 0), Operand.const (Value.int IntKind.i64 0)], argTypes := #[24, 3, 3, 3, 3] }, none⟩,
    ⟨some 50, Op.move (Operand.tmp 52), none⟩,
    ⟨some 53, Op.extract (Operand.tmp 50) 0, none⟩,
    ⟨some 54, Op.extract (Operand.tmp 50) 1, none⟩,
    ⟨some 4, Op.assign (Operand.tmp 53), none⟩,
    ⟨some 5, Op.assign (Operand.tmp 54), none⟩])
  (.seq (.ops [⟨some 56, Op.move (Operand.tmp 3), none⟩,
    ⟨some 57, Op.call { callee := Callee.value (Operand.func 21), args := #[Operand.tmp 56, Operand.const (Value.int IntKind.i64 (-1)), Operand.const (Value.int IntKind.i64 0), Operand.const (Value.int IntKind.i64 0)], argTypes := #[24, 3, 2, 3] }, none⟩,
    ⟨some 55, Op.move (Operand.tmp 57), none⟩,
    ⟨some 58, Op.extract (Operand.tmp 55) 0, none⟩,
    ⟨some 59, Op.extract (Operand.tmp 55) 1, none⟩,
    ⟨some 6, Op.assign (Operand.tmp 58), none⟩,
    ⟨some 7, Op.assign (Operand.tmp 59), none⟩])
  (.seq (.ops [⟨some 61, Op.move (Operand.tmp 3), none⟩,
    ⟨some 62, Op.call { callee := Callee.value (Operand.func 26), args := #[Operand.tmp 61, Operand.const (Value.int IntKind.i64 (-1)), Operand.const (Value.int IntKind.i64 0), Operand.const (Value.int IntKind.i64 0), Operand.const (Value.int IntKind.i64 0)], argTypes := #[24, 3, 2, 3, 3] }, none⟩,
    ⟨some 60, Op.move (Operand.tmp 62), none⟩,
    ⟨some 63, Op.extract (Operand.tmp 60) 0, none⟩,
    ⟨some 64, Op.extract (Operand.tmp 60) 1, none⟩,
    ⟨some 8, Op.assign (Operand.tmp 63), none⟩,
    ⟨some 9, Op.assign (Operand.tmp 64), none⟩])
  (.seq (.ops [⟨some 66, Op.move (Operand.tmp 3), none⟩,
    ⟨some 67, Op.call { callee := Callee.value (Operand.func 18), args := #[Operand.tmp 66, Operand.const (Value.int IntKind.i64 (-1)), Operand.const (Value.int IntKind.i64 0)], argTypes := #[24, 3, 2] }, none⟩,
    ⟨some 65, Op.move (Operand.tmp 67), none⟩,
    ⟨some 68, Op.extract (Operand.tmp 65) 0, none⟩,
    ⟨some 69, Op.extract (Operand.tmp 65) 1, none⟩,
    ⟨some 10, Op.assign (Operand.tmp 68), none⟩,
    ⟨some 11, Op.assign (Operand.tmp 69), none⟩])
  (.seq (.ops [⟨some 71, Op.move (Operand.tmp 3), none⟩,
    ⟨some 72, Op.call { callee := Callee.value (Operand.func 19), args := #[Operand.tmp 71, Operand.const (Value.int IntKind.i64 (-1)), Operand.const (Value.int IntKind.i64 0)], argTypes := #[24, 3, 2] }, none⟩,
    ⟨some 70, Op.move (Operand.tmp 72), none⟩,
    ⟨some 73, Op.extract (Operand.tmp 70) 0, none⟩,
    ⟨some 74, Op.extract (Operand.tmp 70) 1, none⟩,
    ⟨some 12, Op.assign (Operand.tmp 73), none⟩,
    ⟨some 13, Op.assign (Operand.tmp 74), none⟩])
  (.seq (.ops [⟨some 76, Op.move (Operand.tmp 3), none⟩,
    ⟨some 77, Op.call { callee := Callee.value (Operand.func 16), args := #[Operand.tmp 76, Operand.const (Value.int IntKind.i64 1)], argTypes := #[24, 2] }, none⟩,
    ⟨some 75, Op.move (Operand.tmp 77), none⟩,
    ⟨some 78, Op.extract (Operand.tmp 75) 0, none⟩,
    ⟨some 79, Op.extract (Operand.tmp 75) 1, none⟩,
    ⟨some 14, Op.alloc 40, none⟩,
    ⟨none, Op.store 40 (Operand.tmp 14) (Operand.tmp 78), none⟩,
    ⟨some 15, Op.assign (Operand.tmp 79), none⟩])
  (.seq (.ops [⟨some 81, Op.move (Operand.tmp 3), none⟩,
    ⟨some 82, Op.call { callee := Callee.value (Operand.func 17), args := #[Operand.tmp 81, Operand.const (Value.int IntKind.i64 1), Operand.const (Value.int IntKind.i64 1)], argTypes := #[24, 2, 2] }, none⟩,
    ⟨some 80, Op.move (Operand.tmp 82), none⟩,
    ⟨some 83, Op.extract (Operand.tmp 80) 0, none⟩,
    ⟨some 84, Op.extract (Operand.tmp 80) 1, none⟩,
    ⟨some 16, Op.assign (Operand.tmp 83), none⟩,
    ⟨some 17, Op.assign (Operand.tmp 84), none⟩])
  (.seq (.ops [⟨some 85, Op.move (Operand.tmp 5), none⟩,
    ⟨some 86, Op.binOp BinOp.neq 41 (Operand.tmp 85) (Operand.const (Value.int IntKind.i64 1)) 41, none⟩,
    ⟨some 87, Op.move (Operand.tmp 86), none⟩,
    ⟨some 88, Op.move (Operand.tmp 7), some (87, false)⟩,
    ⟨some 89, Op.binOp BinOp.neq 41 (Operand.tmp 88) (Operand.const (Value.int IntKind.i64 1)) 41, some (87, false)⟩,
    ⟨some 90, Op.pick (Operand.tmp 87) (Operand.const (Value.bool true)) (Operand.tmp 89), none⟩,
    ⟨some 91, Op.move (Operand.tmp 90), none⟩,
    ⟨some 92, Op.move (Operand.tmp 9), some (91, false)⟩,
    ⟨some 93, Op.binOp BinOp.neq 41 (Operand.tmp 92) (Operand.const (Value.int IntKind.i64 1)) 41, some (91, false)⟩,
    ⟨some 94, Op.pick (Operand.tmp 91) (Operand.const (Value.bool true)) (Operand.tmp 93), none⟩,
    ⟨some 95, Op.move (Operand.tmp 94), none⟩,
    ⟨some 96, Op.move (Operand.tmp 11), some (95, false)⟩,
    ⟨some 97, Op.binOp BinOp.neq 41 (Operand.tmp 96) (Operand.const (Value.int IntKind.i64 1)) 41, some (95, false)⟩,
    ⟨some 98, Op.pick (Operand.tmp 95) (Operand.const (Value.bool true)) (Operand.tmp 97), none⟩,
    ⟨some 99, Op.move (Operand.tmp 98), none⟩,
    ⟨some 100, Op.move (Operand.tmp 13), some (99, false)⟩,
    ⟨some 101, Op.binOp BinOp.neq 41 (Operand.tmp 100) (Operand.const (Value.int IntKind.i64 1)) 41, some (99, false)⟩,
    ⟨some 102, Op.pick (Operand.tmp 99) (Operand.const (Value.bool true)) (Operand.tmp 101), none⟩,
    ⟨some 103, Op.move (Operand.tmp 102), none⟩,
    ⟨some 104, Op.move (Operand.tmp 15), some (103, false)⟩,
    ⟨some 105, Op.binOp BinOp.neq 41 (Operand.tmp 104) (Operand.const (Value.int IntKind.i64 1)) 41, some (103, false)⟩,
    ⟨some 106, Op.pick (Operand.tmp 103) (Operand.const (Value.bool true)) (Operand.tmp 105), none⟩,
    ⟨some 107, Op.move (Operand.tmp 106), none⟩,
    ⟨some 108, Op.move (Operand.tmp 17), some (107, false)⟩,
    ⟨some 109, Op.binOp BinOp.neq 41 (Operand.tmp 108) (Operand.const (Value.int IntKind.i64 1)) 41, some (107, false)⟩,
    ⟨some 110, Op.pick (Operand.tmp 107) (Operand.const (Value.bool true)) (Operand.tmp 109), none⟩,
    ⟨some 111, Op.move (Operand.tmp 110), none⟩,
    ⟨some 112, Op.move (Operand.tmp 3), some (111, false)⟩,
    ⟨some 113, Op.call { callee := Callee.value (Operand.func 12), args := #[Operand.tmp 112, Operand.const (Value.int IntKind.i64 0), Operand.const (Value.int IntKind.i64 0), Operand.const (Value.int IntKind.i64 0), Operand.const (Value.int IntKind.i64 1)], argTypes := #[24, 3, 3, 3, 3] }, some (111, false)⟩,
    ⟨some 114, Op.pick (Operand.tmp 111) (Operand.const (Value.bool true)) (Operand.tmp 113), none⟩,
    ⟨some 115, Op.move (Operand.tmp 114), none⟩,
    ⟨some 116, Op.move (Operand.tmp 3), some (115, false)⟩,
    ⟨some 117, Op.call { callee := Callee.value (Operand.func 27), args := #[Operand.tmp 116, Operand.const (Value.int IntKind.i64 0)], argTypes := #[24, 3] }, some (115, false)⟩,
    ⟨some 118, Op.binOp BinOp.neq 3 (Operand.tmp 117) (Operand.const (Value.int IntKind.i64 0)) 3, some (115, false)⟩,
    ⟨some 119, Op.pick (Operand.tmp 115) (Operand.const (Value.bool true)) (Operand.tmp 118), none⟩,
    ⟨some 120, Op.move (Operand.tmp 119), none⟩,
    ⟨some 121, Op.move (Operand.tmp 3), some (120, false)⟩,
    ⟨some 122, Op.call { callee := Callee.value (Operand.func 28), args := #[Operand.tmp 121], argTypes := #[24] }, some (120, false)⟩,
    ⟨some 123, Op.binOp BinOp.neq 3 (Operand.tmp 122) (Operand.const (Value.int IntKind.i64 0)) 3, some (120, false)⟩,
    ⟨some 124, Op.pick (Operand.tmp 120) (Operand.const (Value.bool true)) (Operand.tmp 123), none⟩,
    ⟨some 125, Op.move (Operand.tmp 124), none⟩,
    ⟨some 126, Op.move (Operand.tmp 3), some (125, false)⟩,
    ⟨some 127, Op.call { callee := Callee.value (Operand.func 23), args := #[Operand.tmp 126], argTypes := #[24] }, some (125, false)⟩,
    ⟨some 128, Op.binOp BinOp.neq 24 (Operand.tmp 127) (Operand.const (Value.pointer none)) 24, some (125, false)⟩,
    ⟨some 129, Op.pick (Operand.tmp 125) (Operand.const (Value.bool true)) (Operand.tmp 128), none⟩,
    ⟨some 130, Op.move (Operand.tmp 129), none⟩,
    ⟨some 131, Op.move (Operand.tmp 3), some (130, false)⟩,
    ⟨some 132, Op.build 29 #[], some (130, false)⟩,
    ⟨some 133, Op.box 29 (Operand.tmp 132), some (130, false)⟩,
    ⟨some 134, Op.call { callee := Callee.value (Operand.func 29), args := #[Operand.tmp 131, Operand.tmp 133, Operand.const (Value.int IntKind.i64 (-1)), Operand.const (Value.int IntKind.i64 0)], argTypes := #[24, 26, 3, 3] }, some (130, false)⟩,
    ⟨some 135, Op.unOp UnOp.not 4 (Operand.tmp 134), some (130, false)⟩,
    ⟨some 136, Op.pick (Operand.tmp 130) (Operand.const (Value.bool true)) (Operand.tmp 135), none⟩])
  (.cond (Operand.tmp 136)
  (.seq (.ops [⟨some 0, Op.assign (Operand.const (Value.bool false)), none⟩])
  .ret)
  .skip)))))))))))
  (.ops [⟨some 44, Op.move (Operand.tmp 2), none⟩,
    ⟨some 45, Op.binOp BinOp.add 3 (Operand.tmp 44) (Operand.const (Value.int IntKind.i64 1)) 3, none⟩,
    ⟨some 2, Op.assign (Operand.tmp 45), none⟩])))
def ir8_l1 : LC := (.seq (.seq (.ops [⟨some 181, Op.move (Operand.tmp 28), none⟩,
    ⟨some 182, Op.binOp BinOp.lss 3 (Operand.tmp 181) (Operand.const (Value.int IntKind.i64 32)) 3, none⟩])
  (.cond (Operand.tmp 182)
  .skip
  (.exit 2)))
  (.seq (.block 3 (.seq (.ops [⟨some 186, Op.move (Operand.tmp 27), none⟩,
    ⟨some 187, Op.move (Operand.tmp 28), none⟩,
    ⟨some 188, Op.call { callee := Callee.value (Operand.func 20), args := #[Operand.tmp 186, Operand.const (Value.int IntKind.i64 3), Operand.const (Value.int IntKind.i64 0), Operand.tmp 187, Operand.const (Value.int IntKind.i64 1)], argTypes := #[24, 3, 3, 3, 3] }, none⟩,
    ⟨some 185, Op.move (Operand.tmp 188), none⟩,
    ⟨some 189, Op.extract (Operand.tmp 185) 0, none⟩,
    ⟨some 190, Op.extract (Operand.tmp 185) 1, none⟩,
    ⟨some 29, Op.assign (Operand.tmp 189), none⟩,
    ⟨some 30, Op.assign (Operand.tmp 190), none⟩])
  (.seq (.ops [⟨some 191, Op.move (Operand.tmp 30), none⟩,
    ⟨some 192, Op.binOp BinOp.neq 41 (Operand.tmp 191) (Operand.const (Value.int IntKind.i64 0)) 41, none⟩])
  (.cond (Operand.tmp 192)
  (.seq (.ops [⟨some 0, Op.assign (Operand.const (Value.bool false)), none⟩])
  .ret)
  .skip))))
  (.ops [⟨some 183, Op.move (Operand.tmp 28), none⟩,
    ⟨some 184, Op.binOp BinOp.add 3 (Operand.tmp 183) (Operand.const (Value.int IntKind.i64 1)) 3, none⟩,
    ⟨some 28, Op.assign (Operand.tmp 184), none⟩])))
def ir8 : LC := (.seq (.ops [⟨some 0, Op.assign (Operand.const (Value.bool false)), none⟩])
  (.seq (.ops [⟨some 39, Op.build 61 #[], none⟩,
    ⟨some 40, Op.box 61 (Operand.tmp 39), none⟩,
    ⟨some 41, Op.buildSlice 62 2 #[(0, Operand.const (Value.pointer none)), (1, Operand.tmp 40)], none⟩,
    ⟨some 1, Op.assign (Operand.tmp 41), none⟩])
  (.seq (.seq (.ops [⟨some 2, Op.assign (Operand.const (Value.int IntKind.i64 0)), none⟩])
  (.block 0 (.loop ir8_l0)))
  (.seq (.ops [⟨some 137, Op.call { callee := Callee.value (Operand.func 10), args := #[], argTypes := #[] }, none⟩,
    ⟨some 18, Op.assign (Operand.tmp 137), none⟩])
  (.seq (.ops [⟨some 139, Op.move (Operand.tmp 18), none⟩,
    ⟨some 140, Op.call { callee := Callee.value (Operand.func 20), args := #[Operand.tmp 139, Operand.const (Value.int IntKind.i64 1), Operand.const (Value.int IntKind.i64 0), Operand.const (Value.int IntKind.i64 0), Operand.const (Value.int IntKind.i64 15)], argTypes := #[24, 3, 3, 3, 3] }, none⟩,
    ⟨some 138, Op.move (Operand.tmp 140), none⟩,
    ⟨some 141, Op.extract (Operand.tmp 138) 0, none⟩,
    ⟨some 142, Op.extract (Operand.tmp 138) 1, none⟩,
    ⟨some 19, Op.assign (Operand.tmp 141), none⟩,
    ⟨some 20, Op.assign (Operand.tmp 142), none⟩])
  (.seq (.ops [⟨some 144, Op.move (Operand.tmp 18), none⟩,
    ⟨some 145, Op.move (Operand.tmp 19), none⟩,
    ⟨some 146, Op.call { callee := Callee.value (Operand.func 21), args := #[Operand.tmp 144, Operand.const (Value.int IntKind.i64 1), Operand.tmp 145, Operand.const (Value.int IntKind.i64 15)], argTypes := #[24, 3, 2, 3] }, none⟩,
    ⟨some 143, Op.move (Operand.tmp 146), none⟩,
    ⟨some 147, Op.extract (Operand.tmp 143) 0, none⟩,
    ⟨some 148, Op.extract (Operand.tmp 143) 1, none⟩,
    ⟨some 21, Op.assign (Operand.tmp 147), none⟩,
    ⟨some 22, Op.assign (Operand.tmp 148), none⟩])
  (.seq (.ops [⟨some 150, Op.move (Operand.tmp 18), none⟩,
    ⟨some 151, Op.move (Operand.tmp 21), none⟩,
    ⟨some 152, Op.call { callee := Callee.value (Operand.func 26), args := #[Operand.tmp 150, Operand.const (Value.int IntKind.i64 1), Operand.tmp 151, Operand.const (Value.int IntKind.i64 2), Operand.const (Value.int IntKind.i64 7)], argTypes := #[24, 3, 2, 3, 3] }, none⟩,
    ⟨some 149, Op.move (Operand.tmp 152), none⟩,
    ⟨some 153, Op.extract (Operand.tmp 149) 0, none⟩,
    ⟨some 154, Op.extract (Operand.tmp 149) 1, none⟩,
    ⟨some 23, Op.assign (Operand.tmp 153), none⟩,
    ⟨some 24, Op.assign (Operand.tmp 154), none⟩])
  (.seq (.ops [⟨some 156, Op.move (Operand.tmp 18), none⟩,
    ⟨some 157, Op.move (Operand.tmp 19), none⟩,
    ⟨some 158, Op.call { callee := Callee.value (Operand.func 18), args := #[Operand.tmp 156, Operand.const (Value.int IntKind.i64 1), Operand.tmp 157], argTypes := #[24, 3, 2] }, none⟩,
    ⟨some 155, Op.move (Operand.tmp 158), none⟩,
    ⟨some 159, Op.extract (Operand.tmp 155) 0, none⟩,
    ⟨some 160, Op.extract (Operand.tmp 155) 1, none⟩,
    ⟨some 25, Op.assign (Operand.tmp 159), none⟩,
    ⟨some 26, Op.assign (Operand.tmp 160), none⟩])
  (.seq (.seq (.ops [⟨some 161, Op.move (Operand.tmp 23), none⟩,
    ⟨some 162, Op.binOp BinOp.neq 2 (Operand.tmp 161) (Operand.const (Value.int IntKind.i64 3)) 2, none⟩,
    ⟨some 163, Op.move (Operand.tmp 162), none⟩,
    ⟨some 164, Op.move (Operand.tmp 25), some (163, false)⟩,
    ⟨some 165, Op.binOp BinOp.neq 3 (Operand.tmp 164) (Operand.const (Value.int IntKind.i64 2)) 3, some (163, false)⟩,
    ⟨some 166, Op.pick (Operand.tmp 163) (Operand.const (Value.bool true)) (Operand.tmp 165), none⟩,
    ⟨some 167, Op.move (Operand.tmp 166), none⟩,
    ⟨some 168, Op.move (Operand.tmp 26), some (167, false)⟩,
    ⟨some 169, Op.binOp BinOp.neq 41 (Operand.tmp 168) (Operand.const (Value.int IntKind.i64 0)) 41, some (167, false)⟩,
    ⟨some 170, Op.pick (Operand.tmp 167) (Operand.const (Value.bool true)) (Operand.tmp 169), none⟩,
    ⟨some 171, Op.move (Operand.tmp 170), none⟩,
    ⟨some 172, Op.move (Operand.tmp 18), some (171, false)⟩,
    ⟨some 173, Op.call { callee := Callee.value (Operand.func 28), args := #[Operand.tmp 172], argTypes := #[24] }, some (171, false)⟩,
    ⟨some 174, Op.binOp BinOp.neq 3 (Operand.tmp 173) (Operand.const (Value.int IntKind.i64 1)) 3, some (171, false)⟩,
    ⟨some 175, Op.pick (Operand.tmp 171) (Operand.const (Value.bool true)) (Operand.tmp 174), none⟩,
    ⟨some 176, Op.move (Operand.tmp 175), none⟩,
    ⟨some 177, Op.move (Operand.tmp 18), some (176, false)⟩,
    ⟨some 178, Op.call { callee := Callee.value (Operand.func 12), args := #[Operand.tmp 177, Operand.const (Value.int IntKind.i64 2), Operand.const (Value.int IntKind.i64 0), Operand.const (Value.int IntKind.i64 0), Operand.const (Value.int IntKind.i64 1)], argTypes := #[24, 3, 3, 3, 3] }, some (176, false)⟩,
    ⟨some 179, Op.pick (Operand.tmp 176) (Operand.const (Value.bool true)) (Operand.tmp 178), none⟩])
  (.cond (Operand.tmp 179)
  (.seq (.ops [⟨some 0, Op.assign (Operand.const (Value.bool false)), none⟩])
  .ret)
  .skip))
  (.seq (.ops [⟨some 180, Op.call { callee := Callee.value (Operand.func 10), args := #[], argTypes := #[] }, none⟩,
    ⟨some 27, Op.assign (Operand.tmp 180), none⟩])
  (.seq (.seq (.ops [⟨some 28, Op.assign (Operand.const (Value.int IntKind.i64 0)), none⟩])
  (.block 2 (.loop ir8_l1)))
  (.seq (.ops [⟨some 194, Op.move (Operand.tmp 27), none⟩,
    ⟨some 195, Op.call { callee := Callee.value (Operand.func 20), args := #[Operand.tmp 194, Operand.const (Value.int IntKind.i64 3), Operand.const (Value.int IntKind.i64 0), Operand.const (Value.int IntKind.i64 99), Operand.const (Value.int IntKind.i64 1)], argTypes := #[24, 3, 3, 3, 3] }, none⟩,
    ⟨some 193, Op.move (Operand.tmp 195), none⟩,
    ⟨some 196, Op.extract (Operand.tmp 193) 0, none⟩,
    ⟨some 197, Op.extract (Operand.tmp 193) 1, none⟩,
    ⟨some 31, Op.assign (Operand.tmp 196), none⟩,
    ⟨some 32, Op.assign (Operand.tmp 197), none⟩])
  (.seq (.ops [⟨some 199, Op.move (Operand.tmp 27), none⟩,
    ⟨some 200, Op.call { callee := Callee.value (Operand.func 20), args := #[Operand.tmp 199, Operand.const (Value.int IntKind.i64 4), Operand.const (Value.int IntKind.i64 0), Operand.const (Value.int IntKind.i64 99), Operand.const (Value.int IntKind.i64 1)], argTypes := #[24, 3, 3, 3, 3] }, none⟩,
    ⟨some 198, Op.move (Operand.tmp 200), none⟩,
    ⟨some 201, Op.extract (Operand.tmp 198) 0, none⟩,
    ⟨some 202, Op.extract (Operand.tmp 198) 1, none⟩,
    ⟨some 33, Op.assign (Operand.tmp 201), none⟩,
    ⟨some 34, Op.assign (Operand.tmp 202), none⟩])
  (.seq (.ops [⟨some 204, Op.move (Operand.tmp 27), none⟩,
    ⟨some 205, Op.call { callee := Callee.value (Operand.func 19), args := #[Operand.tmp 204, Operand.const (Value.int IntKind.i64 3), Operand.const (Value.int IntKind.i64 1)], argTypes := #[24, 3, 2] }, none⟩,
    ⟨some 203, Op.move (Operand.tmp 205), none⟩,
    ⟨some 206, Op.extract (Operand.tmp 203) 0, none⟩,
    ⟨some 207, Op.extract (Operand.tmp 203) 1, none⟩,
    ⟨some 35, Op.assign (Operand.tmp 206), none⟩,
    ⟨some 36, Op.assign (Operand.tmp 207), none⟩])
  (.seq (.ops [⟨some 209, Op.move (Operand.tmp 27), none⟩,
    ⟨some 210, Op.call { callee := Callee.value (Operand.func 20), args := #[Operand.tmp 209, Operand.const (Value.int IntKind.i64 3), Operand.const (Value.int IntKind.i64 0), Operand.const (Value.int IntKind.i64 99), Operand.const (Value.int IntKind.i64 1)], argTypes := #[24, 3, 3, 3, 3] }, none⟩,
    ⟨some 208, Op.move (Operand.tmp 210), none⟩,
    ⟨some 211, Op.extract (Operand.tmp 208) 0, none⟩,
    ⟨some 212, Op.extract (Operand.tmp 208) 1, none⟩,
    ⟨some 37, Op.assign (Operand.tmp 211), none⟩,
    ⟨some 38, Op.assign (Operand.tmp 212), none⟩])
  (.seq (.ops [⟨some 213, Op.move (Operand.tmp 32), none⟩,
    ⟨some 214, Op.binOp BinOp.eql 41 (Operand.tmp 213) (Operand.const (Value.int IntKind.i64 5)) 41, none⟩,
    ⟨some 215, Op.move (Operand.tmp 214), none⟩,
    ⟨some 216, Op.move (Operand.tmp 34), some (215, true)⟩,
    ⟨some 217, Op.binOp BinOp.eql 41 (Operand.tmp 216) (Operand.const (Value.int IntKind.i64 0)) 41, some (215, true)⟩,
    ⟨some 218, Op.pick (Operand.tmp 215) (Operand.tmp 217) (Operand.const (Value.bool false)), none⟩,
    ⟨some 219, Op.move (Operand.tmp 218), none⟩,
    ⟨some 220, Op.move (Operand.tmp 36), some (219, true)⟩,
    ⟨some 221, Op.binOp BinOp.eql 41 (Operand.tmp 220) (Operand.const (Value.int IntKind.i64 0)) 41, some (219, true)⟩,
    ⟨some 222, Op.pick (Operand.tmp 219) (Operand.tmp 221) (Operand.const (Value.bool false)), none⟩,
    ⟨some 223, Op.move (Operand.tmp 222), none⟩,
    ⟨some 224, Op.move (Operand.tmp 38), some (223, true)⟩,
    ⟨some 225, Op.binOp BinOp.eql 41 (Operand.tmp 224) (Operand.const (Value.int IntKind.i64 0)) 41, some (223, true)⟩,
    ⟨some 226, Op.pick (Operand.tmp 223) (Operand.tmp 225) (Operand.const (Value.bool false)), none⟩,
    ⟨some 227, Op.move (Operand.tmp 226), none⟩,
    ⟨some 228, Op.call { callee := Callee.value (Operand.func 9), args := #[], argTypes := #[] }, some (227, true)⟩,
    ⟨some 229, Op.pick (Operand.tmp 227) (Operand.tmp 228) (Operand.const (Value.bool false)), none⟩,
    ⟨some 0, Op.assign (Operand.tmp 229), none⟩])
  .ret))))))))))))))))
theorem ir8_eq : (Try.f8.body.map low, Try.f8.ntmps, Try.f8.results.toList) = (some ir8, 230, [.tmp 0]) := by kernel_rfl
def ir10 : LC := (.seq (.ops [⟨some 0, Op.assign (Operand.const (Value.pointer none)), none⟩])
  (.seq (.ops [⟨some 1, Op.makeMap 59 none, none⟩,
    ⟨some 2, Op.build 61 #[(0, Operand.tmp 1)], none⟩,
    ⟨some 3, Op.box 61 (Operand.tmp 2), none⟩,
    ⟨some 0, Op.assign (Operand.tmp 3), none⟩])
  .ret))
theorem ir10_eq : (Try.f10.body.map low, Try.f10.ntmps, Try.f10.results.toList) = (some ir10, 4, [.tmp 0]) := by kernel_rfl
def ir11 : LC := (.seq (.ops [⟨some 5, Op.box 32 (Operand.tmp 2), none⟩,
    ⟨some 6, Op.assign (Operand.const (Value.bool false)), none⟩])
  (.seq (.ops [⟨some 7, Op.assign (Operand.const (Value.int IntKind.i64 0)), none⟩,
    ⟨some 8, Op.assign (Operand.const (Value.int IntKind.i64 0)), none⟩])
  (.seq (.ops [⟨some 9, Op.assign (Operand.const (Value.int IntKind.i64 0)), none⟩,
    ⟨some 10, Op.assign (Operand.const (Value.int IntKind.i64 0)), none⟩,
    ⟨some 11, Op.assign (Operand.const (Value.int IntKind.i64 0)), none⟩])
  (.seq (.ops [⟨some 12, Op.assign (Operand.const (Value.int IntKind.i64 0)), none⟩])
  (.seq (.seq (.ops [⟨some 13, Op.fieldAddr 32 (Operand.tmp 5) 0, none⟩,
    ⟨some 14, Op.load 3 (Operand.tmp 13), none⟩])
  (.block 0 (.seq (.ops [⟨some 16, Op.binOp BinOp.eql 3 (Operand.tmp 14) (Operand.const (Value.int IntKind.i64 1)) 3, none⟩,
    ⟨some 15, Op.assign (Operand.tmp 16), none⟩])
  (.cond (Operand.tmp 15)
  (.seq (.ops [⟨some 18, Op.move (Operand.tmp 0), none⟩,
    ⟨some 19, Op.fieldAddr 32 (Operand.tmp 5) 1, none⟩,
    ⟨some 20, Op.load 3 (Operand.tmp 19), none⟩,
    ⟨some 21, Op.fieldAddr 32 (Operand.tmp 5) 3, none⟩,
    ⟨some 22, Op.load 3 (Operand.tmp 21), none⟩,
    ⟨some 23, Op.fieldAddr 32 (Operand.tmp 5) 4, none⟩,
    ⟨some 24, Op.load 3 (Operand.tmp 23), none⟩,
    ⟨some 25, Op.fieldAddr 32 (Operand.tmp 5) 5, none⟩,
    ⟨some 26, Op.load 3 (Operand.tmp 25), none⟩,
    ⟨some 27, Op.call { callee := Callee.value (Operand.func 20), args := #[Operand.tmp 18, Operand.tmp 20, Operand.tmp 22, Operand.tmp 24, Operand.tmp 26], argTypes := #[24, 3, 3, 3, 3] }, none⟩,
    ⟨some 17, Op.move (Operand.tmp 27), none⟩,
    ⟨some 28, Op.extract (Operand.tmp 17) 0, none⟩,
    ⟨some 29, Op.extract (Operand.tmp 17) 1, none⟩,
    ⟨some 7, Op.assign (Operand.tmp 28), none⟩,
    ⟨some 12, Op.assign (Operand.tmp 29), none⟩])
  (.ops [⟨some 31, Op.move (Operand.tmp 1), none⟩,
    ⟨some 32, Op.fieldAddr 32 (Operand.tmp 5) 1, none⟩,
    ⟨some 33, Op.load 3 (Operand.tmp 32), none⟩,
    ⟨some 34, Op.fieldAddr 32 (Operand.tmp 5) 3, none⟩,
    ⟨some 35, Op.load 3 (Operand.tmp 34), none⟩,
    ⟨some 36, Op.fieldAddr 32 (Operand.tmp 5) 4, none⟩,
    ⟨some 37, Op.load 3 (Operand.tmp 36), none⟩,
    ⟨some 38, Op.fieldAddr 32 (Operand.tmp 5) 5, none⟩,
    ⟨some 39, Op.load 3 (Operand.tmp 38), none⟩,
    ⟨some 40, Op.call { callee := Callee.value (Operand.func 30), args := #[Operand.tmp 31, Operand.tmp 33, Operand.tmp 35, Operand.tmp 37, Operand.tmp 39], argTypes := #[26, 3, 3, 3, 3] }, none⟩,
    ⟨some 30, Op.move (Operand.tmp 40), none⟩,
    ⟨some 41, Op.extract (Operand.tmp 30) 0, none⟩,
    ⟨some 42, Op.extract (Operand.tmp 30) 1, none⟩,
    ⟨some 8, Op.assign (Operand.tmp 41), none⟩,
    ⟨some 11, Op.assign (Operand.tmp 42), none⟩]))
  (.seq (.ops [⟨some 44, Op.binOp BinOp.eql 3 (Operand.tmp 14) (Operand.const (Value.int IntKind.i64 2)) 3, none⟩,
    ⟨some 43, Op.assign (Operand.tmp 44), none⟩])
  (.cond (Operand.tmp 43)
  (.seq (.ops [⟨some 46, Op.move (Operand.tmp 0), none⟩,
    ⟨some 47, Op.fieldAddr 32 (Operand.tmp 5) 1, none⟩,
    ⟨some 48, Op.load 3 (Operand.tmp 47), none⟩,
    ⟨some 49, Op.fieldAddr 32 (Operand.tmp 5) 6, none⟩,
    ⟨some 50, Op.load 2 (Operand.tmp 49), none⟩,
    ⟨some 51, Op.fieldAddr 32 (Operand.tmp 5) 5, none⟩,
    ⟨some 52, Op.load 3 (Operand.tmp 51), none⟩,
    ⟨some 53, Op.call { callee := Callee.value (Operand.func 21), args := #[Operand.tmp 46, Operand.tmp 48, Operand.tmp 50, Operand.tmp 52], argTypes := #[24, 3, 2, 3] }, none⟩,
    ⟨some 45, Op.move (Operand.tmp 53), none⟩,
    ⟨some 54, Op.extract (Operand.tmp 45) 0, none⟩,
    ⟨some 55, Op.extract (Operand.tmp 45) 1, none⟩,
    ⟨some 7, Op.assign (Operand.tmp 54), none⟩,
    ⟨some 12, Op.assign (Operand.tmp 55), none⟩])
  (.ops [⟨some 57, Op.move (Operand.tmp 1), none⟩,
    ⟨some 58, Op.fieldAddr 32 (Operand.tmp 5) 1, none⟩,
    ⟨some 59, Op.load 3 (Operand.tmp 58), none⟩,
    ⟨some 60, Op.fieldAddr 32 (Operand.tmp 5) 6, none⟩,
    ⟨some 61, Op.load 2 (Operand.tmp 60), none⟩,
    ⟨some 62, Op.fieldAddr 32 (Operand.tmp 5) 1, none⟩,
    ⟨some 63, Op.load 3 (Operand.tmp 62), none⟩,
    ⟨some 64, Op.fieldAddr 32 (Operand.tmp 5) 5, none⟩,
    ⟨some 65, Op.load 3 (Operand.tmp 64), none⟩,
    ⟨some 66, Op.call { callee := Callee.value (Operand.func 31), args := #[Operand.tmp 57, Operand.tmp 59, Operand.tmp 61, Operand.tmp 63, Operand.tmp 65, Operand.const (Value.int IntKind.i64 0)], argTypes := #[26, 3, 2, 3, 3, 3] }, none⟩,
    ⟨some 56, Op.move (Operand.tmp 66), none⟩,
    ⟨some 67, Op.extract (Operand.tmp 56) 0, none⟩,
    ⟨some 68, Op.extract (Operand.tmp 56) 1, none⟩,
    ⟨some 8, Op.assign (Operand.tmp 67), none⟩,
    ⟨some 11, Op.assign (Operand.tmp 68), none⟩]))
  (.seq (.ops [⟨some 70, Op.binOp BinOp.eql 3 (Operand.tmp 14) (Operand.const (Value.int IntKind.i64 3)) 3, none⟩,
    ⟨some 69, Op.assign (Operand.tmp 70), none⟩])
  (.cond (Operand.tmp 69)
  (.seq (.ops [⟨some 72, Op.move (Operand.tmp 0), none⟩,
    ⟨some 73, Op.fieldAddr 32 (Operand.tmp 5) 1, none⟩,
    ⟨some 74, Op.load 3 (Operand.tmp 73), none⟩,
    ⟨some 75, Op.fieldAddr 32 (Operand.tmp 5) 6, none⟩,
    ⟨some 76, Op.load 2 (Operand.tmp 75), none⟩,
    ⟨some 77, Op.fieldAddr 32 (Operand.tmp 5) 2, none⟩,
    ⟨some 78, Op.load 3 (Operand.tmp 77), none⟩,
    ⟨some 79, Op.fieldAddr 32 (Operand.tmp 5) 5, none⟩,
    ⟨some 80, Op.load 3 (Operand.tmp 79), none⟩,
    ⟨some 81, Op.call { callee := Callee.value (Operand.func 26), args := #[Operand.tmp 72, Operand.tmp 74, Operand.tmp 76, Operand.tmp 78, Operand.tmp 80], argTypes := #[24, 3, 2, 3, 3] }, none⟩,
    ⟨some 71, Op.move (Operand.tmp 81), none⟩,
    ⟨some 82, Op.extract (Operand.tmp 71) 0, none⟩,
    ⟨some 83, Op.extract (Operand.tmp 71) 1, none⟩,
    ⟨some 7, Op.assign (Operand.tmp 82), none⟩,
    ⟨some 12, Op.assign (Operand.tmp 83), none⟩])
  (.ops [⟨some 85, Op.move (Operand.tmp 1), none⟩,
    ⟨some 86, Op.fieldAddr 32 (Operand.tmp 5) 1, none⟩,
    ⟨some 87, Op.load 3 (Operand.tmp 86), none⟩,
    ⟨some 88, Op.fieldAddr 32 (Operand.tmp 5) 6, none⟩,
    ⟨some 89, Op.load 2 (Operand.tmp 88), none⟩,
    ⟨some 90, Op.fieldAddr 32 (Operand.tmp 5) 2, none⟩,
    ⟨some 91, Op.load 3 (Operand.tmp 90), none⟩,
    ⟨some 92, Op.fieldAddr 32 (Operand.tmp 5) 5, none⟩,
    ⟨some 93, Op.load 3 (Operand.tmp 92), none⟩,
    ⟨some 94, Op.call { callee := Callee.value (Operand.func 31), args := #[Operand.tmp 85, Operand.tmp 87, Operand.tmp 89, Operand.tmp 91, Operand.tmp 93, Operand.const (Value.int IntKind.i64 8)], argTypes := #[26, 3, 2, 3, 3, 3] }, none⟩,
    ⟨some 84, Op.move (Operand.tmp 94), none⟩,
    ⟨some 95, Op.extract (Operand.tmp 84) 0, none⟩,
    ⟨some 96, Op.extract (Operand.tmp 84) 1, none⟩,
    ⟨some 8, Op.assign (Operand.tmp 95), none⟩,
    ⟨some 11, Op.assign (Operand.tmp 96), none⟩]))
  (.seq (.ops [⟨some 98, Op.binOp BinOp.eql 3 (Operand.tmp 14) (Operand.const (Value.int IntKind.i64 4)) 3, none⟩,
    ⟨some 97, Op.assign (Operand.tmp 98), none⟩])
  (.cond (Operand.tmp 97)
  (.seq (.ops [⟨some 100, Op.move (Operand.tmp 0), none⟩,
    ⟨some 101, Op.fieldAddr 32 (Operand.tmp 5) 1, none⟩,
    ⟨some 102, Op.load 3 (Operand.tmp 101), none⟩,
    ⟨some 103, Op.fieldAddr 32 (Operand.tmp 5) 6, none⟩,
    ⟨some 104, Op.load 2 (Operand.tmp 103), none⟩,
    ⟨some 105, Op.call { callee := Callee.value (Operand.func 18), args := #[Operand.tmp 100, Operand.tmp 102, Operand.tmp 104], argTypes := #[24, 3, 2] }, none⟩,
    ⟨some 99, Op.move (Operand.tmp 105), none⟩,
    ⟨some 106, Op.extract (Operand.tmp 99) 0, none⟩,
    ⟨some 107, Op.extract (Operand.tmp 99) 1, none⟩,
    ⟨some 9, Op.assign (Operand.tmp 106), none⟩,
    ⟨some 12, Op.assign (Operand.tmp 107), none⟩])
  (.ops [⟨some 109, Op.move (Operand.tmp 1), none⟩,
    ⟨some 110, Op.fieldAddr 32 (Operand.tmp 5) 1, none⟩,
    ⟨some 111, Op.load 3 (Operand.tmp 110), none⟩,
    ⟨some 112, Op.fieldAddr 32 (Operand.tmp 5) 6, none⟩,
    ⟨some 113, Op.load 2 (Operand.tmp 112), none⟩,
    ⟨some 114, Op.call { callee := Callee.value (Operand.func 32), args := #[Operand.tmp 109, Operand.tmp 111, Operand.tmp 113, Operand.const (Value.bool false)], argTypes := #[26, 3, 2, 4] }, none⟩,
    ⟨some 108, Op.move (Operand.tmp 114), none⟩,
    ⟨some 115, Op.extract (Operand.tmp 108) 0, none⟩,
    ⟨some 116, Op.extract (Operand.tmp 108) 1, none⟩,
    ⟨some 10, Op.assign (Operand.tmp 115), none⟩,
    ⟨some 11, Op.assign (Operand.tmp 116), none⟩]))
  (.seq (.ops [⟨some 118, Op.binOp BinOp.eql 3 (Operand.tmp 14) (Operand.const (Value.int IntKind.i64 5)) 3, none⟩,
    ⟨some 117, Op.assign (Operand.tmp 118), none⟩])
  (.cond (Operand.tmp 117)
  (.seq (.ops [⟨some 120, Op.move (Operand.tmp 0), none⟩,
    ⟨some 121, Op.fieldAddr 32 (Operand.tmp 5) 1, none⟩,
    ⟨some 122, Op.load 3 (Operand.tmp 121), none⟩,
    ⟨some 123, Op.fieldAddr 32 (Operand.tmp 5) 6, none⟩,
    ⟨some 124, Op.load 2 (Operand.tmp 123), none⟩,
    ⟨some 125, Op.call { callee := Callee.value (Operand.func 19), args := #[Operand.tmp 120, Operand.tmp 122, Operand.tmp 124], argTypes := #[24, 3, 2] }, none⟩,
    ⟨some 119, Op.move (Operand.tmp 125), none⟩,
    ⟨some 126, Op.extract (Operand.tmp 119) 0, none⟩,
    ⟨some 127, Op.extract (Operand.tmp 119) 1, none⟩,
    ⟨some 9, Op.assign (Operand.tmp 126), none⟩,
    ⟨some 12, Op.assign (Operand.tmp 127), none⟩])
  (.ops [⟨some 129, Op.move (Operand.tmp 1), none⟩,
    ⟨some 130, Op.fieldAddr 32 (Operand.tmp 5) 1, none⟩,
    ⟨some 131, Op.load 3 (Operand.tmp 130), none⟩,
    ⟨some 132, Op.fieldAddr 32 (Operand.tmp 5) 6, none⟩,
    ⟨some 133, Op.load 2 (Operand.tmp 132), none⟩,
    ⟨some 134, Op.call { callee := Callee.value (Operand.func 32), args := #[Operand.tmp 129, Operand.tmp 131, Operand.tmp 133, Operand.const (Value.bool true)], argTypes := #[26, 3, 2, 4] }, none⟩,
    ⟨some 128, Op.move (Operand.tmp 134), none⟩,
    ⟨some 135, Op.extract (Operand.tmp 128) 0, none⟩,
    ⟨some 136, Op.extract (Operand.tmp 128) 1, none⟩,
    ⟨some 10, Op.assign (Operand.tmp 135), none⟩,
    ⟨some 11, Op.assign (Operand.tmp 136), none⟩]))
  .skip))))))))))))
  (.seq (.ops [⟨some 137, Op.move (Operand.tmp 7), none⟩,
    ⟨some 138, Op.move (Operand.tmp 8), none⟩,
    ⟨some 139, Op.binOp BinOp.eql 2 (Operand.tmp 137) (Operand.tmp 138) 2, none⟩,
    ⟨some 140, Op.move (Operand.tmp 139), none⟩,
    ⟨some 141, Op.move (Operand.tmp 9), some (140, true)⟩,
    ⟨some 142, Op.move (Operand.tmp 10), some (140, true)⟩,
    ⟨some 143, Op.binOp BinOp.eql 3 (Operand.tmp 141) (Operand.tmp 142) 3, some (140, true)⟩,
    ⟨some 144, Op.pick (Operand.tmp 140) (Operand.tmp 143) (Operand.const (Value.bool false)), none⟩,
    ⟨some 145, Op.move (Operand.tmp 144), none⟩,
    ⟨some 146, Op.move (Operand.tmp 12), some (145, true)⟩,
    ⟨some 147, Op.move (Operand.tmp 11), some (145, true)⟩,
    ⟨some 148, Op.binOp BinOp.eql 3 (Operand.tmp 146) (Operand.tmp 147) 3, some (145, true)⟩,
    ⟨some 149, Op.pick (Operand.tmp 145) (Operand.tmp 148) (Operand.const (Value.bool false)), none⟩,
    ⟨some 6, Op.assign (Operand.tmp 149), none⟩])
  .ret))))))
theorem ir11_eq : (Try.f11.body.map low, Try.f11.ntmps, Try.f11.results.toList) = (some ir11, 150, [.tmp 6]) := by kernel_rfl
noncomputable def rc12 (i : Nat) : Code × Code := (((Try.f12.body.map rangesOf).getD [])[i]?).getD (.skip, .skip)
noncomputable def ir12_a0 : LC := (.ops [⟨some 11, Op.alloc 40, none⟩,
    ⟨none, Op.store 40 (Operand.tmp 11) (Operand.tmp 28), none⟩])
noncomputable def ir12_b0 : LC := (.block 1 (.seq (.ops [⟨some 29, Op.fieldAddr 40 (Operand.tmp 11) 4, none⟩,
    ⟨some 30, Op.load 3 (Operand.tmp 29), none⟩,
    ⟨some 31, Op.load 3 (Operand.tmp 7), none⟩,
    ⟨some 32, Op.binOp BinOp.eql 3 (Operand.tmp 30) (Operand.tmp 31) 3, none⟩,
    ⟨some 33, Op.move (Operand.tmp 32), none⟩,
    ⟨some 34, Op.fieldAddr 40 (Operand.tmp 11) 5, some (33, true)⟩,
    ⟨some 35, Op.load 3 (Operand.tmp 34), some (33, true)⟩,
    ⟨some 36, Op.load 3 (Operand.tmp 8), some (33, true)⟩,
    ⟨some 37, Op.binOp BinOp.eql 3 (Operand.tmp 35) (Operand.tmp 36) 3, some (33, true)⟩,
    ⟨some 38, Op.pick (Operand.tmp 33) (Operand.tmp 37) (Operand.const (Value.bool false)), none⟩,
    ⟨some 39, Op.move (Operand.tmp 38), none⟩,
    ⟨some 40, Op.load 3 (Operand.tmp 9), some (39, true)⟩,
    ⟨some 41, Op.fieldAddr 40 (Operand.tmp 11) 6, some (39, true)⟩,
    ⟨some 42, Op.load 3 (Operand.tmp 41), some (39, true)⟩,
    ⟨some 43, Op.binOp BinOp.andNot 3 (Operand.tmp 40) (Operand.tmp 42) 3, some (39, true)⟩,
    ⟨some 44, Op.binOp BinOp.eql 3 (Operand.tmp 43) (Operand.const (Value.int IntKind.i64 0)) 3, some (39, true)⟩,
    ⟨some 45, Op.pick (Operand.tmp 39) (Operand.tmp 44) (Operand.const (Value.bool false)), none⟩])
  (.cond (Operand.tmp 45)
  (.seq (.ops [⟨none, Op.store 4 (Operand.tmp 10) (Operand.const (Value.bool true)), none⟩])
  .ret)
  .skip)))
theorem ir12_a0_eq : low (rc12 0).1 = ir12_a0 := by kernel_rfl
theorem ir12_b0_eq : low (rc12 0).2 = ir12_b0 := by kernel_rfl
noncomputable def ir12 : LC := (.seq (.ops [⟨some 7, Op.box 3 (Operand.tmp 2), none⟩,
    ⟨some 8, Op.box 3 (Operand.tmp 3), none⟩,
    ⟨some 9, Op.box 3 (Operand.tmp 4), none⟩,
    ⟨some 10, Op.alloc 4, none⟩])
  (.seq (.seq (.ops [⟨some 12, Op.move (Operand.tmp 0), none⟩,
    ⟨some 13, Op.call { callee := Callee.value (Operand.func 33), args := #[Operand.tmp 12], argTypes := #[24] }, none⟩,
    ⟨some 14, Op.unOp UnOp.not 4 (Operand.tmp 13), none⟩,
    ⟨some 15, Op.move (Operand.tmp 14), none⟩,
    ⟨some 16, Op.move (Operand.tmp 1), some (15, false)⟩,
    ⟨some 17, Op.call { callee := Callee.value (Operand.func 34), args := #[Operand.tmp 16], argTypes := #[3] }, some (15, false)⟩,
    ⟨some 18, Op.unOp UnOp.not 4 (Operand.tmp 17), some (15, false)⟩,
    ⟨some 19, Op.pick (Operand.tmp 15) (Operand.const (Value.bool true)) (Operand.tmp 18), none⟩,
    ⟨some 20, Op.move (Operand.tmp 19), none⟩,
    ⟨some 21, Op.load 3 (Operand.tmp 9), some (20, false)⟩,
    ⟨some 22, Op.call { callee := Callee.value (Operand.func 35), args := #[Operand.tmp 21], argTypes := #[3] }, some (20, false)⟩,
    ⟨some 23, Op.unOp UnOp.not 4 (Operand.tmp 22), some (20, false)⟩,
    ⟨some 24, Op.pick (Operand.tmp 20) (Operand.const (Value.bool true)) (Operand.tmp 23), none⟩])
  (.cond (Operand.tmp 24)
  (.seq (.ops [⟨none, Op.store 4 (Operand.tmp 10) (Operand.const (Value.bool false)), none⟩])
  .ret)
  .skip))
  (.seq (.seq (.ops [⟨some 25, Op.move (Operand.tmp 0), none⟩,
    ⟨some 26, Op.move (Operand.tmp 1), none⟩,
    ⟨some 27, Op.call { callee := Callee.value (Operand.func 15), args := #[Operand.tmp 25, Operand.tmp 26], argTypes := #[24, 3] }, none⟩])
  (.block 0 (.range (Operand.tmp 27) #[28] (rc12 0).1 (rc12 0).2)))
  (.seq (.ops [⟨none, Op.store 4 (Operand.tmp 10) (Operand.const (Value.bool false)), none⟩])
  .ret))))
theorem ir12_eq : (Try.f12.body.map low, Try.f12.ntmps, Try.f12.results.toList) = (some ir12, 46, [.cell 10 4]) := by kernel_rfl
def ir13_l0 : LC := (.seq (.seq (.ops [⟨some 13, Op.move (Operand.tmp 11), none⟩,
    ⟨some 14, Op.move (Operand.tmp 0), none⟩,
    ⟨some 15, Op.nilCheck (Operand.tmp 14), none⟩,
    ⟨some 16, Op.fieldAddr 29 (Operand.tmp 15) 0, none⟩,
    ⟨some 17, Op.load 27 (Operand.tmp 16), none⟩,
    ⟨some 18, Op.call { callee := Callee.builtin Builtin.len, args := #[Operand.tmp 17], argTypes := #[27] }, none⟩,
    ⟨some 19, Op.binOp BinOp.lss 3 (Operand.tmp 13) (Operand.tmp 18) 3, none⟩])
  (.cond (Operand.tmp 19)
  .skip
  (.exit 0)))
  (.seq (.block 1 (.seq (.ops [⟨some 22, Op.move (Operand.tmp 0), none⟩,
    ⟨some 23, Op.nilCheck (Operand.tmp 22), none⟩,
    ⟨some 24, Op.fieldAddr 29 (Operand.tmp 23) 0, none⟩,
    ⟨some 25, Op.load 27 (Operand.tmp 24), none⟩,
    ⟨some 26, Op.move (Operand.tmp 11), none⟩,
    ⟨some 27, Op.indexAddr 27 (Operand.tmp 25) (Operand.tmp 26), none⟩,
    ⟨some 28, Op.load 40 (Operand.tmp 27), none⟩,
    ⟨some 12, Op.alloc 40, none⟩,
    ⟨none, Op.store 40 (Operand.tmp 12) (Operand.tmp 28), none⟩])
  (.seq (.ops [⟨some 29, Op.move (Operand.tmp 4), none⟩,
    ⟨some 30, Op.call { callee := Callee.value (Operand.func 36), args := #[Operand.tmp 29], argTypes := #[3] }, none⟩,
    ⟨some 31, Op.move (Operand.tmp 30), none⟩,
    ⟨some 32, Op.fieldAddr 40 (Operand.tmp 12) 2, some (31, true)⟩,
    ⟨some 33, Op.load 3 (Operand.tmp 32), some (31, true)⟩,
    ⟨some 34, Op.move (Operand.tmp 1), some (31, true)⟩,
    ⟨some 35, Op.binOp BinOp.eql 3 (Operand.tmp 33) (Operand.tmp 34) 3, some (31, true)⟩,
    ⟨some 36, Op.pick (Operand.tmp 31) (Operand.tmp 35) (Operand.const (Value.bool false)), none⟩,
    ⟨some 37, Op.move (Operand.tmp 36), none⟩,
    ⟨some 38, Op.fieldAddr 40 (Operand.tmp 12) 4, some (37, true)⟩,
    ⟨some 39, Op.load 3 (Operand.tmp 38), some (37, true)⟩,
    ⟨some 40, Op.move (Operand.tmp 2), some (37, true)⟩,
    ⟨some 41, Op.binOp BinOp.eql 3 (Operand.tmp 39) (Operand.tmp 40) 3, some (37, true)⟩,
    ⟨some 42, Op.pick (Operand.tmp 37) (Operand.tmp 41) (Operand.const (Value.bool false)), none⟩,
    ⟨some 43, Op.move (Operand.tmp 42), none⟩,
    ⟨some 44, Op.fieldAddr 40 (Operand.tmp 12) 5, some (43, true)⟩,
    ⟨some 45, Op.load 3 (Operand.tmp 44), some (43, true)⟩,
    ⟨some 46, Op.move (Operand.tmp 3), some (43, true)⟩,
    ⟨some 47, Op.binOp BinOp.eql 3 (Operand.tmp 45) (Operand.tmp 46) 3, some (43, true)⟩,
    ⟨some 48, Op.pick (Operand.tmp 43) (Operand.tmp 47) (Operand.const (Value.bool false)), none⟩,
    ⟨some 49, Op.move (Operand.tmp 48), none⟩,
    ⟨some 50, Op.move (Operand.tmp 4), some (49, true)⟩,
    ⟨some 51, Op.fieldAddr 40 (Operand.tmp 12) 6, some (49, true)⟩,
    ⟨some 52, Op.load 3 (Operand.tmp 51), some (49, true)⟩,
    ⟨some 53, Op.call { callee := Callee.value (Operand.func 37), args := #[Operand.tmp 50, Operand.tmp 52], argTypes := #[3, 3] }, some (49, true)⟩,
    ⟨some 54, Op.pick (Operand.tmp 49) (Operand.tmp 53) (Operand.const (Value.bool false)), none⟩])
  (.cond (Operand.tmp 54)
  (.seq (.ops [⟨some 10, Op.assign (Operand.const (Value.bool true)), none⟩])
  .ret)
  .skip))))
  (.ops [⟨some 20, Op.move (Operand.tmp 11), none⟩,
    ⟨some 21, Op.binOp BinOp.add 3 (Operand.tmp 20) (Operand.const (Value.int IntKind.i64 1)) 3, none⟩,
    ⟨some 11, Op.assign (Operand.tmp 21), none⟩])))
def ir13 : LC := (.seq (.ops [⟨some 10, Op.assign (Operand.const (Value.bool false)), none⟩])
  (.seq (.seq (.ops [⟨some 11, Op.assign (Operand.const (Value.int IntKind.i64 0)), none⟩])
  (.block 0 (.loop ir13_l0)))
  (.seq (.ops [⟨some 10, Op.assign (Operand.const (Value.bool false)), none⟩])
  .ret)))
theorem ir13_eq : (Try.f13.body.map low, Try.f13.ntmps, Try.f13.results.toList) = (some ir13, 55, [.tmp 10]) := by kernel_rfl
def ir14 : LC := (.seq (.ops [⟨some 3, Op.box 32 (Operand.tmp 1), none⟩])
  (.seq (.ops [⟨some 4, Op.fieldAddr 32 (Operand.tmp 3) 0, none⟩,
    ⟨some 5, Op.load 3 (Operand.tmp 4), none⟩])
  (.block 0 (.seq (.ops [⟨some 7, Op.binOp BinOp.eql 3 (Operand.tmp 5) (Operand.const (Value.int IntKind.i64 1)) 3, none⟩,
    ⟨some 6, Op.assign (Operand.tmp 7), none⟩])
  (.cond (Operand.tmp 6)
  (.ops [⟨some 8, Op.move (Operand.tmp 0), none⟩,
    ⟨some 9, Op.fieldAddr 32 (Operand.tmp 3) 1, none⟩,
    ⟨some 10, Op.load 3 (Operand.tmp 9), none⟩,
    ⟨some 11, Op.fieldAddr 32 (Operand.tmp 3) 3, none⟩,
    ⟨some 12, Op.load 3 (Operand.tmp 11), none⟩,
    ⟨some 13, Op.fieldAddr 32 (Operand.tmp 3) 4, none⟩,
    ⟨some 14, Op.load 3 (Operand.tmp 13), none⟩,
    ⟨some 15, Op.fieldAddr 32 (Operand.tmp 3) 5, none⟩,
    ⟨some 16, Op.load 3 (Operand.tmp 15), none⟩,
    ⟨some 17, Op.call { callee := Callee.value (Operand.func 20), args := #[Operand.tmp 8, Operand.tmp 10, Operand.tmp 12, Operand.tmp 14, Operand.tmp 16], argTypes := #[24, 3, 3, 3, 3] }, none⟩])
  (.seq (.ops [⟨some 19, Op.binOp BinOp.eql 3 (Operand.tmp 5) (Operand.const (Value.int IntKind.i64 2)) 3, none⟩,
    ⟨some 18, Op.assign (Operand.tmp 19), none⟩])
  (.cond (Operand.tmp 18)
  (.ops [⟨some 20, Op.move (Operand.tmp 0), none⟩,
    ⟨some 21, Op.fieldAddr 32 (Operand.tmp 3) 1, none⟩,
    ⟨some 22, Op.load 3 (Operand.tmp 21), none⟩,
    ⟨some 23, Op.fieldAddr 32 (Operand.tmp 3) 6, none⟩,
    ⟨some 24, Op.load 2 (Operand.tmp 23), none⟩,
    ⟨some 25, Op.fieldAddr 32 (Operand.tmp 3) 5, none⟩,
    ⟨some 26, Op.load 3 (Operand.tmp 25), none⟩,
    ⟨some 27, Op.call { callee := Callee.value (Operand.func 21), args := #[Operand.tmp 20, Operand.tmp 22, Operand.tmp 24, Operand.tmp 26], argTypes := #[24, 3, 2, 3] }, none⟩])
  (.seq (.ops [⟨some 29, Op.binOp BinOp.eql 3 (Operand.tmp 5) (Operand.const (Value.int IntKind.i64 3)) 3, none⟩,
    ⟨some 28, Op.assign (Operand.tmp 29), none⟩])
  (.cond (Operand.tmp 28)
  (.ops [⟨some 30, Op.move (Operand.tmp 0), none⟩,
    ⟨some 31, Op.fieldAddr 32 (Operand.tmp 3) 1, none⟩,
    ⟨some 32, Op.load 3 (Operand.tmp 31), none⟩,
    ⟨some 33, Op.fieldAddr 32 (Operand.tmp 3) 6, none⟩,
    ⟨some 34, Op.load 2 (Operand.tmp 33), none⟩,
    ⟨some 35, Op.fieldAddr 32 (Operand.tmp 3) 2, none⟩,
    ⟨some 36, Op.load 3 (Operand.tmp 35), none⟩,
    ⟨some 37, Op.fieldAddr 32 (Operand.tmp 3) 5, none⟩,
    ⟨some 38, Op.load 3 (Operand.tmp 37), none⟩,
    ⟨some 39, Op.call { callee := Callee.value (Operand.func 26), args := #[Operand.tmp 30, Operand.tmp 32, Operand.tmp 34, Operand.tmp 36, Operand.tmp 38], argTypes := #[24, 3, 2, 3, 3] }, none⟩])
  (.seq (.ops [⟨some 41, Op.binOp BinOp.eql 3 (Operand.tmp 5) (Operand.const (Value.int IntKind.i64 4)) 3, none⟩,
    ⟨some 40, Op.assign (Operand.tmp 41), none⟩])
  (.cond (Operand.tmp 40)
  (.ops [⟨some 42, Op.move (Operand.tmp 0), none⟩,
    ⟨some 43, Op.fieldAddr 32 (Operand.tmp 3) 1, none⟩,
    ⟨some 44, Op.load 3 (Operand.tmp 43), none⟩,
    ⟨some 45, Op.fieldAddr 32 (Operand.tmp 3) 6, none⟩,
    ⟨some 46, Op.load 2 (Operand.tmp 45), none⟩,
    ⟨some 47, Op.call { callee := Callee.value (Operand.func 18), args := #[Operand.tmp 42, Operand.tmp 44, Operand.tmp 46], argTypes := #[24, 3, 2] }, none⟩])
  (.seq (.ops [⟨some 49, Op.binOp BinOp.eql 3 (Operand.tmp 5) (Operand.const (Value.int IntKind.i64 5)) 3, none⟩,
    ⟨some 48, Op.assign (Operand.tmp 49), none⟩])
  (.cond (Operand.tmp 48)
  (.ops [⟨some 50, Op.move (Operand.tmp 0), none⟩,
    ⟨some 51, Op.fieldAddr 32 (Operand.tmp 3) 1, none⟩,
    ⟨some 52, Op.load 3 (Operand.tmp 51), none⟩,
    ⟨some 53, Op.fieldAddr 32 (Operand.tmp 3) 6, none⟩,
    ⟨some 54, Op.load 2 (Operand.tmp 53), none⟩,
    ⟨some 55, Op.call { callee := Callee.value (Operand.func 19), args := #[Operand.tmp 50, Operand.tmp 52, Operand.tmp 54], argTypes := #[24, 3, 2] }, none⟩])
  .skip)))))))))))))
theorem ir14_eq : (Try.f14.body.map low, Try.f14.ntmps, Try.f14.results.toList) = (some ir14, 56, []) := by kernel_rfl
def ir15_l0 : LC := (.seq (.ops [⟨some 19, Op.binOp BinOp.lss 3 (Operand.tmp 18) (Operand.tmp 17) 3, none⟩])
  (.seq (.cond (Operand.tmp 19)
  .skip
  (.exit 0))
  (.seq (.block 1 (.seq (.ops [⟨some 20, Op.indexAddr 45 (Operand.tmp 16) (Operand.tmp 18), none⟩,
    ⟨some 21, Op.load 2 (Operand.tmp 20), none⟩,
    ⟨some 7, Op.assign (Operand.tmp 21), none⟩])
  (.seq (.ops [⟨some 22, Op.move (Operand.tmp 0), none⟩,
    ⟨some 23, Op.nilCheck (Operand.tmp 22), none⟩,
    ⟨some 24, Op.fieldAddr 61 (Operand.tmp 23) 0, none⟩,
    ⟨some 25, Op.load 59 (Operand.tmp 24), none⟩,
    ⟨some 26, Op.move (Operand.tmp 7), none⟩,
    ⟨some 27, Op.lookup 59 (Operand.tmp 25) (Operand.tmp 26) false, none⟩,
    ⟨some 8, Op.alloc 40, none⟩,
    ⟨none, Op.store 40 (Operand.tmp 8) (Operand.tmp 27), none⟩])
  (.seq (.ops [⟨some 28, Op.move (Operand.tmp 1), none⟩,
    ⟨some 29, Op.binOp BinOp.lss 3 (Operand.tmp 28) (Operand.const (Value.int IntKind.i64 0)) 3, none⟩,
    ⟨some 30, Op.move (Operand.tmp 29), none⟩,
    ⟨some 31, Op.fieldAddr 40 (Operand.tmp 8) 2, some (30, false)⟩,
    ⟨some 32, Op.load 3 (Operand.tmp 31), some (30, false)⟩,
    ⟨some 33, Op.move (Operand.tmp 1), some (30, false)⟩,
    ⟨some 34, Op.binOp BinOp.eql 3 (Operand.tmp 32) (Operand.tmp 33) 3, some (30, false)⟩,
    ⟨some 35, Op.pick (Operand.tmp 30) (Operand.const (Value.bool true)) (Operand.tmp 34), none⟩])
  (.cond (Operand.tmp 35)
  (.ops [⟨some 36, Op.load 27 (Operand.tmp 5), none⟩,
    ⟨some 37, Op.load 40 (Operand.tmp 8), none⟩,
    ⟨some 38, Op.buildSlice 27 1 #[(0, Operand.tmp 37)], none⟩,
    ⟨some 39, Op.call { callee := Callee.builtin Builtin.append, args := #[Operand.tmp 36, Operand.tmp 38], argTypes := #[27, 27] }, none⟩,
    ⟨none, Op.store 27 (Operand.tmp 5) (Operand.tmp 39), none⟩])
  .skip)))))
  (.ops [⟨some 40, Op.binOp BinOp.add 3 (Operand.tmp 18) (Operand.const (Value.int IntKind.i64 1)) 3, none⟩,
    ⟨some 18, Op.move (Operand.tmp 40), none⟩]))))
def ir15 : LC := (.seq (.ops [⟨some 4, Op.assign (Operand.const Value.nilFunc), none⟩])
  (.seq (.ops [⟨some 5, Op.alloc 27, none⟩])
  (.seq (.seq (.ops [⟨some 9, Op.move (Operand.tmp 0), none⟩,
    ⟨some 10, Op.call { callee := Callee.value (Operand.func 33), args := #[Operand.tmp 9], argTypes := #[24] }, none⟩])
  (.cond (Operand.tmp 10)
  (.seq (.ops [⟨some 11, Op.move (Operand.tmp 0), none⟩,
    ⟨some 12, Op.nilCheck (Operand.tmp 11), none⟩,
    ⟨some 13, Op.fieldAddr 61 (Operand.tmp 12) 0, none⟩,
    ⟨some 14, Op.load 59 (Operand.tmp 13), none⟩,
    ⟨some 15, Op.call { callee := Callee.value (Operand.func 39), args := #[Operand.tmp 14], argTypes := #[59] }, none⟩,
    ⟨some 16, Op.call { callee := Callee.value (Operand.func 38), args := #[Operand.tmp 15], argTypes := #[76] }, none⟩,
    ⟨some 17, Op.call { callee := Callee.builtin Builtin.len, args := #[Operand.tmp 16], argTypes := #[45] }, none⟩,
    ⟨some 18, Op.move (Operand.const (Value.int IntKind.i64 0)), none⟩])
  (.block 0 (.loop ir15_l0)))
  .skip))
  (.seq (.ops [⟨some 41, Op.makeFunc (Fn.func 40) #[] #[Operand.tmp 5], none⟩,
    ⟨some 4, Op.assign (Operand.tmp 41), none⟩])
  .ret))))
theorem ir15_eq : (Try.f15.body.map low, Try.f15.ntmps, Try.f15.results.toList) = (some ir15, 42, [.tmp 4]) := by kernel_rfl
def ir16 : LC := (.seq (.ops [⟨some 4, Op.alloc 40, none⟩,
    ⟨some 5, Op.assign (Operand.const (Value.int IntKind.i64 0)), none⟩])
  (.seq (.seq (.ops [⟨some 8, Op.move (Operand.tmp 0), none⟩,
    ⟨some 9, Op.call { callee := Callee.value (Operand.func 33), args := #[Operand.tmp 8], argTypes := #[24] }, none⟩,
    ⟨some 10, Op.unOp UnOp.not 4 (Operand.tmp 9), none⟩])
  (.cond (Operand.tmp 10)
  (.seq (.ops [⟨some 11, Op.build 40 #[], none⟩,
    ⟨none, Op.store 40 (Operand.tmp 4) (Operand.tmp 11), none⟩,
    ⟨some 5, Op.assign (Operand.const (Value.int IntKind.i64 1)), none⟩])
  .ret)
  .skip))
  (.seq (.ops [⟨some 13, Op.move (Operand.tmp 0), none⟩,
    ⟨some 14, Op.nilCheck (Operand.tmp 13), none⟩,
    ⟨some 15, Op.fieldAddr 61 (Operand.tmp 14) 0, none⟩,
    ⟨some 16, Op.load 59 (Operand.tmp 15), none⟩,
    ⟨some 17, Op.move (Operand.tmp 1), none⟩,
    ⟨some 18, Op.lookup 59 (Operand.tmp 16) (Operand.tmp 17) true, none⟩,
    ⟨some 12, Op.move (Operand.tmp 18), none⟩,
    ⟨some 19, Op.extract (Operand.tmp 12) 0, none⟩,
    ⟨some 20, Op.extract (Operand.tmp 12) 1, none⟩,
    ⟨some 6, Op.alloc 40, none⟩,
    ⟨none, Op.store 40 (Operand.tmp 6) (Operand.tmp 19), none⟩,
    ⟨some 7, Op.assign (Operand.tmp 20), none⟩])
  (.seq (.seq (.ops [⟨some 21, Op.move (Operand.tmp 7), none⟩,
    ⟨some 22, Op.unOp UnOp.not 4 (Operand.tmp 21), none⟩])
  (.cond (Operand.tmp 22)
  (.seq (.ops [⟨some 23, Op.build 40 #[], none⟩,
    ⟨none, Op.store 40 (Operand.tmp 4) (Operand.tmp 23), none⟩,
    ⟨some 5, Op.assign (Operand.const (Value.int IntKind.i64 6)), none⟩])
  .ret)
  .skip))
  (.seq (.ops [⟨some 24, Op.load 40 (Operand.tmp 6), none⟩,
    ⟨none, Op.store 40 (Operand.tmp 4) (Operand.tmp 24), none⟩,
    ⟨some 5, Op.assign (Operand.const (Value.int IntKind.i64 0)), none⟩])
  .ret)))))
theorem ir16_eq : (Try.f16.body.map low, Try.f16.ntmps, Try.f16.results.toList) = (some ir16, 25, [.cell 4 40, .tmp 5]) := by kernel_rfl
def ir17_l0 : LC := (.seq (.seq (.ops [⟨some 30, Op.fieldAddr 40 (Operand.tmp 10) 0, none⟩,
    ⟨some 31, Op.load 2 (Operand.tmp 30), none⟩,
    ⟨some 32, Op.move (Operand.tmp 1), none⟩,
    ⟨some 33, Op.binOp BinOp.neq 2 (Operand.tmp 31) (Operand.tmp 32) 2, none⟩,
    ⟨some 34, Op.move (Operand.tmp 33), none⟩,
    ⟨some 35, Op.fieldAddr 40 (Operand.tmp 10) 1, some (34, true)⟩,
    ⟨some 36, Op.load 2 (Operand.tmp 35), some (34, true)⟩,
    ⟨some 37, Op.binOp BinOp.neq 2 (Operand.tmp 36) (Operand.const (Value.int IntKind.i64 0)) 2, some (34, true)⟩,
    ⟨some 38, Op.pick (Operand.tmp 34) (Operand.tmp 37) (Operand.const (Value.bool false)), none⟩])
  (.cond (Operand.tmp 38)
  .skip
  (.exit 0)))
  (.block 1 (.draw [⟨some 39, Op.move (Operand.tmp 0), none⟩,
    ⟨some 40, Op.nilCheck (Operand.tmp 39), none⟩,
    ⟨some 41, Op.fieldAddr 61 (Operand.tmp 40) 0, none⟩,
    ⟨some 42, Op.load 59 (Operand.tmp 41), none⟩,
    ⟨some 43, Op.fieldAddr 40 (Operand.tmp 10) 1, none⟩,
    ⟨some 44, Op.load 2 (Operand.tmp 43), none⟩,
    ⟨some 45, Op.lookup 59 (Operand.tmp 42) (Operand.tmp 44) false, none⟩,
    ⟨none, Op.store 40 (Operand.tmp 10) (Operand.tmp 45), none⟩] [])))
def ir17 : LC := (.seq (.ops [⟨some 6, Op.assign (Operand.const (Value.bool false)), none⟩,
    ⟨some 7, Op.assign (Operand.const (Value.int IntKind.i64 0)), none⟩])
  (.seq (.seq (.ops [⟨some 13, Op.move (Operand.tmp 0), none⟩,
    ⟨some 14, Op.move (Operand.tmp 1), none⟩,
    ⟨some 15, Op.call { callee := Callee.value (Operand.func 16), args := #[Operand.tmp 13, Operand.tmp 14], argTypes := #[24, 2] }, none⟩,
    ⟨some 12, Op.move (Operand.tmp 15), none⟩,
    ⟨some 16, Op.extract (Operand.tmp 12) 0, none⟩,
    ⟨some 17, Op.extract (Operand.tmp 12) 1, none⟩,
    ⟨some 8, Op.alloc 40, none⟩,
    ⟨none, Op.store 40 (Operand.tmp 8) (Operand.tmp 16), none⟩,
    ⟨some 9, Op.assign (Operand.tmp 17), none⟩])
  (.seq (.ops [⟨some 18, Op.move (Operand.tmp 9), none⟩,
    ⟨some 19, Op.binOp BinOp.neq 41 (Operand.tmp 18) (Operand.const (Value.int IntKind.i64 0)) 41, none⟩])
  (.cond (Operand.tmp 19)
  (.seq (.ops [⟨some 20, Op.move (Operand.tmp 9), none⟩,
    ⟨some 6, Op.assign (Operand.const (Value.bool false)), none⟩,
    ⟨some 7, Op.assign (Operand.tmp 20), none⟩])
  .ret)
  .skip)))
  (.seq (.ops [⟨some 22, Op.move (Operand.tmp 0), none⟩,
    ⟨some 23, Op.move (Operand.tmp 2), none⟩,
    ⟨some 24, Op.call { callee := Callee.value (Operand.func 16), args := #[Operand.tmp 22, Operand.tmp 23], argTypes := #[24, 2] }, none⟩,
    ⟨some 21, Op.move (Operand.tmp 24), none⟩,
    ⟨some 25, Op.extract (Operand.tmp 21) 0, none⟩,
    ⟨some 26, Op.extract (Operand.tmp 21) 1, none⟩,
    ⟨some 10, Op.alloc 40, none⟩,
    ⟨none, Op.store 40 (Operand.tmp 10) (Operand.tmp 25), none⟩,
    ⟨some 11, Op.assign (Operand.tmp 26), none⟩])
  (.seq (.seq (.ops [⟨some 27, Op.move (Operand.tmp 11), none⟩,
    ⟨some 28, Op.binOp BinOp.neq 41 (Operand.tmp 27) (Operand.const (Value.int IntKind.i64 0)) 41, none⟩])
  (.cond (Operand.tmp 28)
  (.seq (.ops [⟨some 29, Op.move (Operand.tmp 11), none⟩,
    ⟨some 6, Op.assign (Operand.const (Value.bool false)), none⟩,
    ⟨some 7, Op.assign (Operand.tmp 29), none⟩])
  .ret)
  .skip))
  (.seq (.block 0 (.loop ir17_l0))
  (.seq (.ops [⟨some 46, Op.fieldAddr 40 (Operand.tmp 10) 0, none⟩,
    ⟨some 47, Op.load 2 (Operand.tmp 46), none⟩,
    ⟨some 48, Op.move (Operand.tmp 1), none⟩,
    ⟨some 49, Op.binOp BinOp.eql 2 (Operand.tmp 47) (Operand.tmp 48) 2, none⟩,
    ⟨some 6, Op.assign (Operand.tmp 49), none⟩,
    ⟨some 7, Op.assign (Operand.const (Value.int IntKind.i64 0)), none⟩])
  .ret))))))
theorem ir17_eq : (Try.f17.body.map low, Try.f17.ntmps, Try.f17.results.toList) = (some ir17, 50, [.tmp 6, .tmp 7]) := by kernel_rfl
def ir18 : LC := (.seq (.ops [⟨some 6, Op.assign (Operand.const (Value.int IntKind.i64 0)), none⟩,
    ⟨some 7, Op.assign (Operand.const (Value.int IntKind.i64 0)), none⟩])
  (.seq (.seq (.ops [⟨some 11, Op.move (Operand.tmp 0), none⟩,
    ⟨some 12, Op.move (Operand.tmp 1), none⟩,
    ⟨some 13, Op.move (Operand.tmp 2), none⟩,
    ⟨some 14, Op.call { callee := Callee.value (Operand.func 41), args := #[Operand.tmp 11, Operand.tmp 12, Operand.tmp 13], argTypes := #[24, 3, 2] }, none⟩,
    ⟨some 10, Op.move (Operand.tmp 14), none⟩,
    ⟨some 15, Op.extract (Operand.tmp 10) 0, none⟩,
    ⟨some 16, Op.extract (Operand.tmp 10) 1, none⟩,
    ⟨some 8, Op.alloc 40, none⟩,
    ⟨none, Op.store 40 (Operand.tmp 8) (Operand.tmp 15), none⟩,
    ⟨some 9, Op.assign (Operand.tmp 16), none⟩])
  (.seq (.ops [⟨some 17, Op.move (Operand.tmp 9), none⟩,
    ⟨some 18, Op.binOp BinOp.neq 41 (Operand.tmp 17) (Operand.const (Value.int IntKind.i64 0)) 41, none⟩])
  (.cond (Operand.tmp 18)
  (.seq (.ops [⟨some 19, Op.move (Operand.tmp 9), none⟩,
    ⟨some 6, Op.assign (Operand.const (Value.int IntKind.i64 0)), none⟩,
    ⟨some 7, Op.assign (Operand.tmp 19), none⟩])
  .ret)
  .skip)))
  (.seq (.ops [⟨some 20, Op.move (Operand.tmp 0), none⟩,
    ⟨some 21, Op.move (Operand.tmp 2), none⟩,
    ⟨some 22, Op.call { callee := Callee.value (Operand.func 42), args := #[Operand.tmp 20, Operand.tmp 21], argTypes := #[24, 2] }, none⟩,
    ⟨some 6, Op.assign (Operand.tmp 22), none⟩,
    ⟨some 7, Op.assign (Operand.const (Value.int IntKind.i64 0)), none⟩])
  .ret)))
theorem ir18_eq : (Try.f18.body.map low, Try.f18.ntmps, Try.f18.results.toList) = (some ir18, 23, [.tmp 6, .tmp 7]) := by kernel_rfl
def ir19 : LC := (.seq (.ops [⟨some 6, Op.assign (Operand.const (Value.int IntKind.i64 0)), none⟩,
    ⟨some 7, Op.assign (Operand.const (Value.int IntKind.i64 0)), none⟩])
  (.seq (.seq (.ops [⟨some 12, Op.move (Operand.tmp 0), none⟩,
    ⟨some 13, Op.move (Operand.tmp 1), none⟩,
    ⟨some 14, Op.move (Operand.tmp 2), none⟩,
    ⟨some 15, Op.call { callee := Callee.value (Operand.func 41), args := #[Operand.tmp 12, Operand.tmp 13, Operand.tmp 14], argTypes := #[24, 3, 2] }, none⟩,
    ⟨some 11, Op.move (Operand.tmp 15), none⟩,
    ⟨some 16, Op.extract (Operand.tmp 11) 0, none⟩,
    ⟨some 17, Op.extract (Operand.tmp 11) 1, none⟩,
    ⟨some 8, Op.alloc 40, none⟩,
    ⟨none, Op.store 40 (Operand.tmp 8) (Operand.tmp 16), none⟩,
    ⟨some 9, Op.assign (Operand.tmp 17), none⟩])
  (.seq (.ops [⟨some 18, Op.move (Operand.tmp 9), none⟩,
    ⟨some 19, Op.binOp BinOp.neq 41 (Operand.tmp 18) (Operand.const (Value.int IntKind.i64 0)) 41, none⟩])
  (.cond (Operand.tmp 19)
  (.seq (.ops [⟨some 20, Op.move (Operand.tmp 9), none⟩,
    ⟨some 6, Op.assign (Operand.const (Value.int IntKind.i64 0)), none⟩,
    ⟨some 7, Op.assign (Operand.tmp 20), none⟩])
  .ret)
  .skip)))
  (.seq (.ops [⟨some 21, Op.move (Operand.tmp 0), none⟩,
    ⟨some 22, Op.move (Operand.tmp 2), none⟩,
    ⟨some 23, Op.call { callee := Callee.value (Operand.func 42), args := #[Operand.tmp 21, Operand.tmp 22], argTypes := #[24, 2] }, none⟩,
    ⟨some 10, Op.assign (Operand.tmp 23), none⟩])
  (.seq (.ops [⟨some 24, Op.move (Operand.tmp 0), none⟩,
    ⟨some 25, Op.nilCheck (Operand.tmp 24), none⟩,
    ⟨some 26, Op.fieldAddr 61 (Operand.tmp 25) 0, none⟩,
    ⟨some 27, Op.load 59 (Operand.tmp 26), none⟩,
    ⟨some 28, Op.move (Operand.tmp 2), none⟩,
    ⟨none, Op.call { callee := Callee.builtin Builtin.delete, args := #[Operand.tmp 27, Operand.tmp 28], argTypes := #[59, 2] }, none⟩])
  (.seq (.ops [⟨some 29, Op.move (Operand.tmp 10), none⟩,
    ⟨some 30, Op.binOp BinOp.add 3 (Operand.tmp 29) (Operand.const (Value.int IntKind.i64 1)) 3, none⟩,
    ⟨some 6, Op.assign (Operand.tmp 30), none⟩,
    ⟨some 7, Op.assign (Operand.const (Value.int IntKind.i64 0)), none⟩])
  .ret)))))
theorem ir19_eq : (Try.f19.body.map low, Try.f19.ntmps, Try.f19.results.toList) = (some ir19, 31, [.tmp 6, .tmp 7]) := by kernel_rfl
def ir20 : LC := (.seq (.ops [⟨some 10, Op.assign (Operand.const (Value.int IntKind.i64 0)), none⟩,
    ⟨some 11, Op.assign (Operand.const (Value.int IntKind.i64 0)), none⟩])
  (.seq (.block 0 (.seq (.ops [⟨some 13, Op.move (Operand.tmp 0), none⟩,
    ⟨some 14, Op.call { callee := Callee.value (Operand.func 33), args := #[Operand.tmp 13], argTypes := #[24] }, none⟩,
    ⟨some 15, Op.unOp UnOp.not 4 (Operand.tmp 14), none⟩,
    ⟨some 12, Op.assign (Operand.tmp 15), none⟩])
  (.cond (Operand.tmp 12)
  (.seq (.ops [⟨some 10, Op.assign (Operand.const (Value.int IntKind.i64 0)), none⟩,
    ⟨some 11, Op.assign (Operand.const (Value.int IntKind.i64 1)), none⟩])
  .ret)
  (.seq (.ops [⟨some 17, Op.move (Operand.tmp 1), none⟩,
    ⟨some 18, Op.call { callee := Callee.value (Operand.func 34), args := #[Operand.tmp 17], argTypes := #[3] }, none⟩,
    ⟨some 19, Op.unOp UnOp.not 4 (Operand.tmp 18), none⟩,
    ⟨some 20, Op.move (Operand.tmp 19), none⟩,
    ⟨some 21, Op.move (Operand.tmp 2), some (20, false)⟩,
    ⟨some 22, Op.binOp BinOp.lss 3 (Operand.tmp 21) (Operand.const (Value.int IntKind.i64 0)) 3, some (20, false)⟩,
    ⟨some 23, Op.pick (Operand.tmp 20) (Operand.const (Value.bool true)) (Operand.tmp 22), none⟩,
    ⟨some 24, Op.move (Operand.tmp 23), none⟩,
    ⟨some 25, Op.move (Operand.tmp 3), some (24, false)⟩,
    ⟨some 26, Op.binOp BinOp.lss 3 (Operand.tmp 25) (Operand.const (Value.int IntKind.i64 0)) 3, some (24, false)⟩,
    ⟨some 27, Op.pick (Operand.tmp 24) (Operand.const (Value.bool true)) (Operand.tmp 26), none⟩,
    ⟨some 28, Op.move (Operand.tmp 27), none⟩,
    ⟨some 29, Op.move (Operand.tmp 4), some (28, false)⟩,
    ⟨some 30, Op.call { callee := Callee.value (Operand.func 35), args := #[Operand.tmp 29], argTypes := #[3] }, some (28, false)⟩,
    ⟨some 31, Op.unOp UnOp.not 4 (Operand.tmp 30), some (28, false)⟩,
    ⟨some 32, Op.pick (Operand.tmp 28) (Operand.const (Value.bool true)) (Operand.tmp 31), none⟩,
    ⟨some 16, Op.assign (Operand.tmp 32), none⟩])
  (.cond (Operand.tmp 16)
  (.seq (.ops [⟨some 10, Op.assign (Operand.const (Value.int IntKind.i64 0)), none⟩,
    ⟨some 11, Op.assign (Operand.const (Value.int IntKind.i64 2)), none⟩])
  .ret)
  .skip)))))
  (.seq (.ops [⟨some 33, Op.move (Operand.tmp 0), none⟩,
    ⟨some 34, Op.move (Operand.tmp 1), none⟩,
    ⟨some 35, Op.move (Operand.tmp 1), none⟩,
    ⟨some 36, Op.move (Operand.tmp 2), none⟩,
    ⟨some 37, Op.move (Operand.tmp 3), none⟩,
    ⟨some 38, Op.move (Operand.tmp 4), none⟩,
    ⟨some 39, Op.build 40 #[(2, Operand.tmp 34), (3, Operand.tmp 35), (4, Operand.tmp 36), (5, Operand.tmp 37), (6, Operand.tmp 38)], none⟩,
    ⟨some 40, Op.call { callee := Callee.value (Operand.func 43), args := #[Operand.tmp 33, Operand.tmp 39], argTypes := #[24, 40] }, none⟩,
    ⟨some 41, Op.extract (Operand.tmp 40) 0, none⟩,
    ⟨some 42, Op.extract (Operand.tmp 40) 1, none⟩,
    ⟨some 10, Op.assign (Operand.tmp 41), none⟩,
    ⟨some 11, Op.assign (Operand.tmp 42), none⟩])
  .ret)))
theorem ir20_eq : (Try.f20.body.map low, Try.f20.ntmps, Try.f20.results.toList) = (some ir20, 43, [.tmp 10, .tmp 11]) := by kernel_rfl
def ir21 : LC := (.seq (.ops [⟨some 8, Op.assign (Operand.const (Value.int IntKind.i64 0)), none⟩,
    ⟨some 9, Op.assign (Operand.const (Value.int IntKind.i64 0)), none⟩])
  (.seq (.ops [⟨some 10, Op.move (Operand.tmp 0), none⟩,
    ⟨some 11, Op.move (Operand.tmp 1), none⟩,
    ⟨some 12, Op.move (Operand.tmp 2), none⟩,
    ⟨some 13, Op.move (Operand.tmp 1), none⟩,
    ⟨some 14, Op.move (Operand.tmp 3), none⟩,
    ⟨some 15, Op.call { callee := Callee.value (Operand.func 44), args := #[Operand.tmp 10, Operand.tmp 11, Operand.tmp 12, Operand.tmp 13, Operand.tmp 14, Operand.const (Value.int IntKind.i64 0)], argTypes := #[24, 3, 2, 3, 3, 3] }, none⟩,
    ⟨some 16, Op.extract (Operand.tmp 15) 0, none⟩,
    ⟨some 17, Op.extract (Operand.tmp 15) 1, none⟩,
    ⟨some 8, Op.assign (Operand.tmp 16), none⟩,
    ⟨some 9, Op.assign (Operand.tmp 17), none⟩])
  .ret))
theorem ir21_eq : (Try.f21.body.map low, Try.f21.ntmps, Try.f21.results.toList) = (some ir21, 18, [.tmp 8, .tmp 9]) := by kernel_rfl
noncomputable def rc22 (i : Nat) : Code × Code := (((Try.f22.body.map rangesOf).getD [])[i]?).getD (.skip, .skip)
noncomputable def ir22_a0 : LC := (.ops [⟨some 4, Op.alloc 40, none⟩,
    ⟨none, Op.store 40 (Operand.tmp 4) (Operand.tmp 10), none⟩])
noncomputable def ir22_b0 : LC := (.block 1 (.seq (.ops [⟨some 11, Op.fieldAddr 40 (Operand.tmp 4) 3, none⟩,
    ⟨some 12, Op.load 3 (Operand.tmp 11), none⟩,
    ⟨some 13, Op.binOp BinOp.neq 3 (Operand.tmp 12) (Operand.const (Value.int IntKind.i64 1)) 3, none⟩])
  (.cond (Operand.tmp 13)
  (.seq (.ops [⟨none, Op.store 4 (Operand.tmp 2) (Operand.const (Value.bool true)), none⟩])
  .ret)
  .skip)))
theorem ir22_a0_eq : low (rc22 0).1 = ir22_a0 := by kernel_rfl
theorem ir22_b0_eq : low (rc22 0).2 = ir22_b0 := by kernel_rfl
noncomputable def ir22 : LC := (.seq (.ops [⟨some 2, Op.alloc 4, none⟩])
  (.seq (.ops [⟨some 5, Op.move (Operand.tmp 0), none⟩,
    ⟨some 6, Op.call { callee := Callee.value (Operand.func 15), args := #[Operand.tmp 5, Operand.const (Value.int IntKind.i64 1)], argTypes := #[24, 3] }, none⟩,
    ⟨some 3, Op.assign (Operand.tmp 6), none⟩])
  (.seq (.seq (.ops [⟨some 7, Op.move (Operand.tmp 3), none⟩,
    ⟨some 8, Op.binOp BinOp.eql 37 (Operand.tmp 7) (Operand.const Value.nilFunc) 37, none⟩])
  (.cond (Operand.tmp 8)
  (.seq (.ops [⟨none, Op.store 4 (Operand.tmp 2) (Operand.const (Value.bool false)), none⟩])
  .ret)
  .skip))
  (.seq (.seq (.ops [⟨some 9, Op.move (Operand.tmp 3), none⟩])
  (.block 0 (.range (Operand.tmp 9) #[10] (rc22 0).1 (rc22 0).2)))
  (.seq (.ops [⟨none, Op.store 4 (Operand.tmp 2) (Operand.const (Value.bool false)), none⟩])
  .ret)))))
theorem ir22_eq : (Try.f22.body.map low, Try.f22.ntmps, Try.f22.results.toList) = (some ir22, 14, [.cell 2 4]) := by kernel_rfl
def ir23 : LC := (.seq (.ops [⟨some 2, Op.assign (Operand.const (Value.pointer none)), none⟩])
  (.seq (.seq (.ops [⟨some 3, Op.move (Operand.tmp 0), none⟩,
    ⟨some 4, Op.call { callee := Callee.value (Operand.func 33), args := #[Operand.tmp 3], argTypes := #[24] }, none⟩,
    ⟨some 5, Op.unOp UnOp.not 4 (Operand.tmp 4), none⟩])
  (.cond (Operand.tmp 5)
  (.seq (.ops [⟨some 2, Op.assign (Operand.const (Value.pointer none)), none⟩])
  .ret)
  .skip))
  (.seq (.draw [⟨some 6, Op.move (Operand.tmp 0), none⟩,
    ⟨some 7, Op.nilCheck (Operand.tmp 6), none⟩,
    ⟨some 8, Op.fieldAddr 61 (Operand.tmp 7) 0, none⟩,
    ⟨some 9, Op.load 59 (Operand.tmp 8), none⟩,
    ⟨some 10, Op.call { callee := Callee.value (Operand.func 45), args := #[Operand.tmp 9], argTypes := #[59] }, none⟩,
    ⟨some 11, Op.move (Operand.tmp 0), none⟩,
    ⟨some 12, Op.nilCheck (Operand.tmp 11), none⟩,
    ⟨some 13, Op.fieldAddr 61 (Operand.tmp 12) 1, none⟩,
    ⟨some 14, Op.load 2 (Operand.tmp 13), none⟩,
    ⟨some 15, Op.build 61 #[(0, Operand.tmp 10), (1, Operand.tmp 14)], none⟩,
    ⟨some 16, Op.box 61 (Operand.tmp 15), none⟩,
    ⟨some 2, Op.assign (Operand.tmp 16), none⟩] [(4, 5), (4, 6), (4, 7), (4, 8)])
  .ret)))
theorem ir23_eq : (Try.f23.body.map low, Try.f23.ntmps, Try.f23.results.toList) = (some ir23, 17, [.tmp 2]) := by kernel_rfl
def ir24 : LC := (.seq (.ops [⟨some 2, Op.assign (Operand.const (Value.pointer none)), none⟩])
  (.seq (.draw [⟨some 3, Op.move (Operand.tmp 0), none⟩,
    ⟨some 4, Op.nilCheck (Operand.tmp 3), none⟩,
    ⟨some 5, Op.fieldAddr 29 (Operand.tmp 4) 0, none⟩,
    ⟨some 6, Op.load 27 (Operand.tmp 5), none⟩,
    ⟨some 7, Op.call { callee := Callee.builtin Builtin.append, args := #[Operand.const (Value.slice none 0 0), Operand.tmp 6], argTypes := #[27, 27] }, none⟩,
    ⟨some 8, Op.move (Operand.tmp 0), none⟩,
    ⟨some 9, Op.nilCheck (Operand.tmp 8), none⟩,
    ⟨some 10, Op.fieldAddr 29 (Operand.tmp 9) 1, none⟩,
    ⟨some 11, Op.load 2 (Operand.tmp 10), none⟩,
    ⟨some 12, Op.build 29 #[(0, Operand.tmp 7), (1, Operand.tmp 11)], none⟩,
    ⟨some 13, Op.box 29 (Operand.tmp 12), none⟩,
    ⟨some 2, Op.assign (Operand.tmp 13), none⟩] [(4, 5), (4, 6), (4, 7), (4, 8)])
  .ret))
theorem ir24_eq : (Try.f24.body.map low, Try.f24.ntmps, Try.f24.results.toList) = (some ir24, 14, [.tmp 2]) := by kernel_rfl
def ir25_l0 : LC := (.seq (.seq (.ops [⟨some 26, Op.move (Operand.tmp 7), none⟩,
    ⟨some 27, Op.binOp BinOp.lss 3 (Operand.tmp 26) (Operand.const (Value.int IntKind.i64 9)) 3, none⟩])
  (.cond (Operand.tmp 27)
  .skip
  (.exit 0)))
  (.seq (.block 1 (.seq (.ops [⟨some 30, Op.move (Operand.tmp 0), none⟩,
    ⟨some 31, Op.move (Operand.tmp 7), none⟩,
    ⟨some 32, Op.call { callee := Callee.value (Operand.func 27), args := #[Operand.tmp 30, Operand.tmp 31], argTypes := #[24, 3] }, none⟩,
    ⟨some 33, Op.move (Operand.tmp 1), none⟩,
    ⟨some 34, Op.move (Operand.tmp 7), none⟩,
    ⟨some 35, Op.call { callee := Callee.value (Operand.func 46), args := #[Operand.tmp 33, Operand.tmp 34], argTypes := #[26, 3] }, none⟩,
    ⟨some 36, Op.binOp BinOp.neq 3 (Operand.tmp 32) (Operand.tmp 35) 3, none⟩,
    ⟨some 37, Op.move (Operand.tmp 36), none⟩,
    ⟨some 38, Op.move (Operand.tmp 0), some (37, false)⟩,
    ⟨some 39, Op.move (Operand.tmp 1), some (37, false)⟩,
    ⟨some 40, Op.move (Operand.tmp 7), some (37, false)⟩,
    ⟨some 41, Op.move (Operand.tmp 2), some (37, false)⟩,
    ⟨some 42, Op.call { callee := Callee.value (Operand.func 29), args := #[Operand.tmp 38, Operand.tmp 39, Operand.tmp 40, Operand.tmp 41], argTypes := #[24, 26, 3, 3] }, some (37, false)⟩,
    ⟨some 43, Op.unOp UnOp.not 4 (Operand.tmp 42), some (37, false)⟩,
    ⟨some 44, Op.pick (Operand.tmp 37) (Operand.const (Value.bool true)) (Operand.tmp 43), none⟩])
  (.cond (Operand.tmp 44)
  (.seq (.ops [⟨some 6, Op.assign (Operand.const (Value.bool false)), none⟩])
  .ret)
  .skip)))
  (.ops [⟨some 28, Op.move (Operand.tmp 7), none⟩,
    ⟨some 29, Op.binOp BinOp.add 3 (Operand.tmp 28) (Operand.const (Value.int IntKind.i64 1)) 3, none⟩,
    ⟨some 7, Op.assign (Operand.tmp 29), none⟩])))
def ir25_l1 : LC := (.seq (.seq (.ops [⟨some 45, Op.move (Operand.tmp 8), none⟩,
    ⟨some 46, Op.move (Operand.tmp 1), none⟩,
    ⟨some 47, Op.nilCheck (Operand.tmp 46), none⟩,
    ⟨some 48, Op.fieldAddr 29 (Operand.tmp 47) 0, none⟩,
    ⟨some 49, Op.load 27 (Operand.tmp 48), none⟩,
    ⟨some 50, Op.call { callee := Callee.builtin Builtin.len, args := #[Operand.tmp 49], argTypes := #[27] }, none⟩,
    ⟨some 51, Op.binOp BinOp.lss 3 (Operand.tmp 45) (Operand.tmp 50) 3, none⟩])
  (.cond (Operand.tmp 51)
  .skip
  (.exit 2)))
  (.seq (.block 3 (.seq (.ops [⟨some 55, Op.move (Operand.tmp 0), none⟩,
    ⟨some 56, Op.move (Operand.tmp 1), none⟩,
    ⟨some 57, Op.nilCheck (Operand.tmp 56), none⟩,
    ⟨some 58, Op.fieldAddr 29 (Operand.tmp 57) 0, none⟩,
    ⟨some 59, Op.load 27 (Operand.tmp 58), none⟩,
    ⟨some 60, Op.move (Operand.tmp 8), none⟩,
    ⟨some 61, Op.indexAddr 27 (Operand.tmp 59) (Operand.tmp 60), none⟩,
    ⟨some 62, Op.fieldAddr 40 (Operand.tmp 61) 0, none⟩,
    ⟨some 63, Op.load 2 (Operand.tmp 62), none⟩,
    ⟨some 64, Op.call { callee := Callee.value (Operand.func 16), args := #[Operand.tmp 55, Operand.tmp 63], argTypes := #[24, 2] }, none⟩,
    ⟨some 54, Op.move (Operand.tmp 64), none⟩,
    ⟨some 65, Op.extract (Operand.tmp 54) 0, none⟩,
    ⟨some 66, Op.extract (Operand.tmp 54) 1, none⟩,
    ⟨some 9, Op.alloc 40, none⟩,
    ⟨none, Op.store 40 (Operand.tmp 9) (Operand.tmp 65), none⟩,
    ⟨some 10, Op.assign (Operand.tmp 66), none⟩])
  (.seq (.seq (.draw [⟨some 67, Op.move (Operand.tmp 10), none⟩,
    ⟨some 68, Op.binOp BinOp.neq 41 (Operand.tmp 67) (Operand.const (Value.int IntKind.i64 0)) 41, none⟩,
    ⟨some 69, Op.move (Operand.tmp 68), none⟩,
    ⟨some 70, Op.load 40 (Operand.tmp 9), some (69, false)⟩,
    ⟨some 71, Op.move (Operand.tmp 1), some (69, false)⟩,
    ⟨some 72, Op.nilCheck (Operand.tmp 71), some (69, false)⟩,
    ⟨some 73, Op.fieldAddr 29 (Operand.tmp 72) 0, some (69, false)⟩,
    ⟨some 74, Op.load 27 (Operand.tmp 73), some (69, false)⟩,
    ⟨some 75, Op.move (Operand.tmp 8), some (69, false)⟩,
    ⟨some 76, Op.indexAddr 27 (Operand.tmp 74) (Operand.tmp 75), some (69, false)⟩,
    ⟨some 77, Op.load 40 (Operand.tmp 76), some (69, false)⟩,
    ⟨some 78, Op.binOp BinOp.neq 40 (Operand.tmp 70) (Operand.tmp 77) 40, some (69, false)⟩,
    ⟨some 79, Op.pick (Operand.tmp 69) (Operand.const (Value.bool true)) (Operand.tmp 78), none⟩] [])
  (.cond (Operand.tmp 79)
  (.seq (.ops [⟨some 6, Op.assign (Operand.const (Value.bool false)), none⟩])
  .ret)
  .skip))
  (.seq (.ops [⟨some 80, Op.move (Operand.tmp 8), none⟩,
    ⟨some 81, Op.binOp BinOp.mul 3 (Operand.tmp 80) (Operand.const (Value.int IntKind.i64 7)) 3, none⟩,
    ⟨some 82, Op.move (Operand.tmp 2), none⟩,
    ⟨some 83, Op.binOp BinOp.and 3 (Operand.tmp 82) (Operand.const (Value.int IntKind.i64 15)) 3, none⟩,
    ⟨some 84, Op.binOp BinOp.add 3 (Operand.tmp 81) (Operand.tmp 83) 3, none⟩,
    ⟨some 85, Op.move (Operand.tmp 1), none⟩,
    ⟨some 86, Op.nilCheck (Operand.tmp 85), none⟩,
    ⟨some 87, Op.fieldAddr 29 (Operand.tmp 86) 0, none⟩,
    ⟨some 88, Op.load 27 (Operand.tmp 87), none⟩,
    ⟨some 89, Op.call { callee := Callee.builtin Builtin.len, args := #[Operand.tmp 88], argTypes := #[27] }, none⟩,
    ⟨some 90, Op.binOp BinOp.rem 3 (Operand.tmp 84) (Operand.tmp 89) 3, none⟩,
    ⟨some 11, Op.assign (Operand.tmp 90), none⟩])
  (.seq (.draw [⟨some 92, Op.move (Operand.tmp 0), none⟩,
    ⟨some 93, Op.move (Operand.tmp 1), none⟩,
    ⟨some 94, Op.nilCheck (Operand.tmp 93), none⟩,
    ⟨some 95, Op.fieldAddr 29 (Operand.tmp 94) 0, none⟩,
    ⟨some 96, Op.load 27 (Operand.tmp 95), none⟩,
    ⟨some 97, Op.move (Operand.tmp 11), none⟩,
    ⟨some 98, Op.indexAddr 27 (Operand.tmp 96) (Operand.tmp 97), none⟩,
    ⟨some 99, Op.fieldAddr 40 (Operand.tmp 98) 0, none⟩,
    ⟨some 100, Op.load 2 (Operand.tmp 99), none⟩,
    ⟨some 101, Op.move (Operand.tmp 1), none⟩,
    ⟨some 102, Op.nilCheck (Operand.tmp 101), none⟩,
    ⟨some 103, Op.fieldAddr 29 (Operand.tmp 102) 0, none⟩,
    ⟨some 104, Op.load 27 (Operand.tmp 103), none⟩,
    ⟨some 105, Op.move (Operand.tmp 8), none⟩,
    ⟨some 106, Op.indexAddr 27 (Operand.tmp 104) (Operand.tmp 105), none⟩,
    ⟨some 107, Op.fieldAddr 40 (Operand.tmp 106) 0, none⟩,
    ⟨some 108, Op.load 2 (Operand.tmp 107), none⟩,
    ⟨some 109, Op.call { callee := Callee.value (Operand.func 17), args := #[Operand.tmp 92, Operand.tmp 100, Operand.tmp 108], argTypes := #[24, 2, 2] }, none⟩,
    ⟨some 91, Op.move (Operand.tmp 109), none⟩,
    ⟨some 110, Op.extract (Operand.tmp 91) 0, none⟩,
    ⟨some 111, Op.extract (Operand.tmp 91) 1, none⟩,
    ⟨some 12, Op.assign (Operand.tmp 110), none⟩,
    ⟨some 13, Op.assign (Operand.tmp 111), none⟩] [])
  (.seq (.draw [⟨some 112, Op.move (Operand.tmp 13), none⟩,
    ⟨some 113, Op.binOp BinOp.neq 41 (Operand.tmp 112) (Operand.const (Value.int IntKind.i64 0)) 41, none⟩,
    ⟨some 114, Op.move (Operand.tmp 113), none⟩,
    ⟨some 115, Op.move (Operand.tmp 12), some (114, false)⟩,
    ⟨some 116, Op.move (Operand.tmp 1), some (114, false)⟩,
    ⟨some 117, Op.move (Operand.tmp 1), some (114, false)⟩,
    ⟨some 118, Op.nilCheck (Operand.tmp 117), some (114, false)⟩,
    ⟨some 119, Op.fieldAddr 29 (Operand.tmp 118) 0, some (114, false)⟩,
    ⟨some 120, Op.load 27 (Operand.tmp 119), some (114, false)⟩,
    ⟨some 121, Op.move (Operand.tmp 11), some (114, false)⟩,
    ⟨some 122, Op.indexAddr 27 (Operand.tmp 120) (Operand.tmp 121), some (114, false)⟩,
    ⟨some 123, Op.fieldAddr 40 (Operand.tmp 122) 0, some (114, false)⟩,
    ⟨some 124, Op.load 2 (Operand.tmp 123), some (114, false)⟩,
    ⟨some 125, Op.move (Operand.tmp 1), some (114, false)⟩,
    ⟨some 126, Op.nilCheck (Operand.tmp 125), some (114, false)⟩,
    ⟨some 127, Op.fieldAddr 29 (Operand.tmp 126) 0, some (114, false)⟩,
    ⟨some 128, Op.load 27 (Operand.tmp 127), some (114, false)⟩,
    ⟨some 129, Op.move (Operand.tmp 8), some (114, false)⟩,
    ⟨some 130, Op.indexAddr 27 (Operand.tmp 128) (Operand.tmp 129), some (114, false)⟩,
    ⟨some 131, Op.fieldAddr 40 (Operand.tmp 130) 0, some (114, false)⟩,
    ⟨some 132, Op.load 2 (Operand.tmp 131), some (114, false)⟩,
    ⟨some 133, Op.call { callee := Callee.value (Operand.func 47), args := #[Operand.tmp 116, Operand.tmp 124, Operand.tmp 132], argTypes := #[26, 2, 2] }, some (114, false)⟩,
    ⟨some 134, Op.binOp BinOp.neq 4 (Operand.tmp 115) (Operand.tmp 133) 4, some (114, false)⟩,
    ⟨some 135, Op.pick (Operand.tmp 114) (Operand.const (Value.bool true)) (Operand.tmp 134), none⟩] [(3, 21)])
  (.cond (Operand.tmp 135)
  (.seq (.ops [⟨some 6, Op.assign (Operand.const (Value.bool false)), none⟩])
  .ret)
  .skip)))))))
  (.ops [⟨some 52, Op.move (Operand.tmp 8), none⟩,
    ⟨some 53, Op.binOp BinOp.add 3 (Operand.tmp 52) (Operand.const (Value.int IntKind.i64 1)) 3, none⟩,
    ⟨some 8, Op.assign (Operand.tmp 53), none⟩])))
def ir25 : LC := (.seq (.ops [⟨some 6, Op.assign (Operand.const (Value.bool false)), none⟩])
  (.seq (.seq (.draw [⟨some 18, Op.move (Operand.tmp 0), none⟩,
    ⟨some 19, Op.call { callee := Callee.value (Operand.func 28), args := #[Operand.tmp 18], argTypes := #[24] }, none⟩,
    ⟨some 20, Op.move (Operand.tmp 1), none⟩,
    ⟨some 21, Op.nilCheck (Operand.tmp 20), none⟩,
    ⟨some 22, Op.fieldAddr 29 (Operand.tmp 21) 0, none⟩,
    ⟨some 23, Op.load 27 (Operand.tmp 22), none⟩,
    ⟨some 24, Op.call { callee := Callee.builtin Builtin.len, args := #[Operand.tmp 23], argTypes := #[27] }, none⟩,
    ⟨some 25, Op.binOp BinOp.neq 3 (Operand.tmp 19) (Operand.tmp 24) 3, none⟩] [(1, 2), (1, 3), (1, 4), (1, 5), (1, 6)])
  (.cond (Operand.tmp 25)
  (.seq (.ops [⟨some 6, Op.assign (Operand.const (Value.bool false)), none⟩])
  .ret)
  .skip))
  (.seq (.seq (.ops [⟨some 7, Op.assign (Operand.const (Value.int IntKind.i64 (-1))), none⟩])
  (.block 0 (.loop ir25_l0)))
  (.seq (.seq (.ops [⟨some 8, Op.assign (Operand.const (Value.int IntKind.i64 0)), none⟩])
  (.block 2 (.loop ir25_l1)))
  (.seq (.ops [⟨some 137, Op.move (Operand.tmp 0), none⟩,
    ⟨some 138, Op.move (Operand.tmp 1), none⟩,
    ⟨some 139, Op.nilCheck (Operand.tmp 138), none⟩,
    ⟨some 140, Op.fieldAddr 29 (Operand.tmp 139) 1, none⟩,
    ⟨some 141, Op.load 2 (Operand.tmp 140), none⟩,
    ⟨some 142, Op.binOp BinOp.add 2 (Operand.tmp 141) (Operand.const (Value.int IntKind.i64 1)) 2, none⟩,
    ⟨some 143, Op.call { callee := Callee.value (Operand.func 16), args := #[Operand.tmp 137, Operand.tmp 142], argTypes := #[24, 2] }, none⟩,
    ⟨some 136, Op.move (Operand.tmp 143), none⟩,
    ⟨some 144, Op.extract (Operand.tmp 136) 0, none⟩,
    ⟨some 145, Op.extract (Operand.tmp 136) 1, none⟩,
    ⟨some 14, Op.alloc 40, none⟩,
    ⟨none, Op.store 40 (Operand.tmp 14) (Operand.tmp 144), none⟩,
    ⟨some 15, Op.assign (Operand.tmp 145), none⟩])
  (.seq (.draw [⟨some 147, Op.move (Operand.tmp 0), none⟩,
    ⟨some 148, Op.move (Operand.tmp 1), none⟩,
    ⟨some 149, Op.nilCheck (Operand.tmp 148), none⟩,
    ⟨some 150, Op.fieldAddr 29 (Operand.tmp 149) 1, none⟩,
    ⟨some 151, Op.load 2 (Operand.tmp 150), none⟩,
    ⟨some 152, Op.binOp BinOp.add 2 (Operand.tmp 151) (Operand.const (Value.int IntKind.i64 1)) 2, none⟩,
    ⟨some 153, Op.move (Operand.tmp 1), none⟩,
    ⟨some 154, Op.nilCheck (Operand.tmp 153), none⟩,
    ⟨some 155, Op.fieldAddr 29 (Operand.tmp 154) 1, none⟩,
    ⟨some 156, Op.load 2 (Operand.tmp 155), none⟩,
    ⟨some 157, Op.binOp BinOp.add 2 (Operand.tmp 156) (Operand.const (Value.int IntKind.i64 1)) 2, none⟩,
    ⟨some 158, Op.call { callee := Callee.value (Operand.func 17), args := #[Operand.tmp 147, Operand.tmp 152, Operand.tmp 157], argTypes := #[24, 2, 2] }, none⟩,
    ⟨some 146, Op.move (Operand.tmp 158), none⟩,
    ⟨some 159, Op.extract (Operand.tmp 146) 0, none⟩,
    ⟨some 160, Op.extract (Operand.tmp 146) 1, none⟩,
    ⟨some 16, Op.assign (Operand.tmp 159), none⟩,
    ⟨some 17, Op.assign (Operand.tmp 160), none⟩] [])
  (.seq (.ops [⟨some 161, Op.move (Operand.tmp 15), none⟩,
    ⟨some 162, Op.binOp BinOp.eql 41 (Operand.tmp 161) (Operand.const (Value.int IntKind.i64 6)) 41, none⟩,
    ⟨some 163, Op.move (Operand.tmp 162), none⟩,
    ⟨some 164, Op.move (Operand.tmp 17), some (163, true)⟩,
    ⟨some 165, Op.binOp BinOp.eql 41 (Operand.tmp 164) (Operand.const (Value.int IntKind.i64 6)) 41, some (163, true)⟩,
    ⟨some 166, Op.pick (Operand.tmp 163) (Operand.tmp 165) (Operand.const (Value.bool false)), none⟩,
    ⟨some 6, Op.assign (Operand.tmp 166), none⟩])
  .ret)))))))
theorem ir25_eq : (Try.f25.body.map low, Try.f25.ntmps, Try.f25.results.toList) = (some ir25, 167, [.tmp 6]) := by kernel_rfl
def ir26 : LC := (.seq (.ops [⟨some 10, Op.assign (Operand.const (Value.int IntKind.i64 0)), none⟩,
    ⟨some 11, Op.assign (Operand.const (Value.int IntKind.i64 0)), none⟩])
  (.seq (.ops [⟨some 12, Op.move (Operand.tmp 0), none⟩,
    ⟨some 13, Op.move (Operand.tmp 1), none⟩,
    ⟨some 14, Op.move (Operand.tmp 2), none⟩,
    ⟨some 15, Op.move (Operand.tmp 3), none⟩,
    ⟨some 16, Op.move (Operand.tmp 4), none⟩,
    ⟨some 17, Op.call { callee := Callee.value (Operand.func 44), args := #[Operand.tmp 12, Operand.tmp 13, Operand.tmp 14, Operand.tmp 15, Operand.tmp 16, Operand.const (Value.int IntKind.i64 8)], argTypes := #[24, 3, 2, 3, 3, 3] }, none⟩,
    ⟨some 18, Op.extract (Operand.tmp 17) 0, none⟩,
    ⟨some 19, Op.extract (Operand.tmp 17) 1, none⟩,
    ⟨some 10, Op.assign (Operand.tmp 18), none⟩,
    ⟨some 11, Op.assign (Operand.tmp 19), none⟩])
  .ret))
theorem ir26_eq : (Try.f26.body.map low, Try.f26.ntmps, Try.f26.results.toList) = (some ir26, 20, [.tmp 10, .tmp 11]) := by kernel_rfl
def ir27_l0 : LC := (.seq (.ops [⟨some 16, Op.next (Operand.tmp 15) false, none⟩,
    ⟨some 17, Op.extract (Operand.tmp 16) 0, none⟩])
  (.seq (.cond (Operand.tmp 17)
  .skip
  (.exit 0))
  (.block 1 (.seq (.ops [⟨some 18, Op.entry (Operand.tmp 15), none⟩,
    ⟨some 19, Op.extract (Operand.tmp 18) 1, none⟩,
    ⟨some 7, Op.alloc 40, none⟩,
    ⟨none, Op.store 40 (Operand.tmp 7) (Operand.tmp 19), none⟩])
  (.seq (.ops [⟨some 20, Op.fieldAddr 40 (Operand.tmp 7) 3, none⟩,
    ⟨some 21, Op.load 3 (Operand.tmp 20), none⟩,
    ⟨some 22, Op.move (Operand.tmp 1), none⟩,
    ⟨some 23, Op.binOp BinOp.eql 3 (Operand.tmp 21) (Operand.tmp 22) 3, none⟩])
  (.cond (Operand.tmp 23)
  (.ops [⟨some 24, Op.move (Operand.tmp 5), none⟩,
    ⟨some 25, Op.binOp BinOp.add 3 (Operand.tmp 24) (Operand.const (Value.int IntKind.i64 1)) 3, none⟩,
    ⟨some 5, Op.assign (Operand.tmp 25), none⟩])
  .skip))))))
def ir27 : LC := (.seq (.ops [⟨some 4, Op.assign (Operand.const (Value.int IntKind.i64 0)), none⟩])
  (.seq (.seq (.ops [⟨some 8, Op.move (Operand.tmp 0), none⟩,
    ⟨some 9, Op.call { callee := Callee.value (Operand.func 33), args := #[Operand.tmp 8], argTypes := #[24] }, none⟩,
    ⟨some 10, Op.unOp UnOp.not 4 (Operand.tmp 9), none⟩])
  (.cond (Operand.tmp 10)
  (.seq (.ops [⟨some 4, Op.assign (Operand.const (Value.int IntKind.i64 0)), none⟩])
  .ret)
  .skip))
  (.seq (.ops [⟨some 5, Op.assign (Operand.const (Value.int IntKind.i64 0)), none⟩])
  (.seq (.seq (.ops [⟨some 11, Op.move (Operand.tmp 0), none⟩,
    ⟨some 12, Op.nilCheck (Operand.tmp 11), none⟩,
    ⟨some 13, Op.fieldAddr 61 (Operand.tmp 12) 0, none⟩,
    ⟨some 14, Op.load 59 (Operand.tmp 13), none⟩,
    ⟨some 15, Op.range 59 (Operand.tmp 14), none⟩])
  (.block 0 (.loop ir27_l0)))
  (.seq (.ops [⟨some 26, Op.move (Operand.tmp 5), none⟩,
    ⟨some 4, Op.assign (Operand.tmp 26), none⟩])
  .ret)))))
theorem ir27_eq : (Try.f27.body.map low, Try.f27.ntmps, Try.f27.results.toList) = (some ir27, 27, [.tmp 4]) := by kernel_rfl
def ir28 : LC := (.seq (.ops [⟨some 2, Op.assign (Operand.const (Value.int IntKind.i64 0)), none⟩])
  (.seq (.seq (.ops [⟨some 3, Op.move (Operand.tmp 0), none⟩,
    ⟨some 4, Op.call { callee := Callee.value (Operand.func 33), args := #[Operand.tmp 3], argTypes := #[24] }, none⟩,
    ⟨some 5, Op.unOp UnOp.not 4 (Operand.tmp 4), none⟩])
  (.cond (Operand.tmp 5)
  (.seq (.ops [⟨some 2, Op.assign (Operand.const (Value.int IntKind.i64 0)), none⟩])
  .ret)
  .skip))
  (.seq (.ops [⟨some 6, Op.move (Operand.tmp 0), none⟩,
    ⟨some 7, Op.nilCheck (Operand.tmp 6), none⟩,
    ⟨some 8, Op.fieldAddr 61 (Operand.tmp 7) 0, none⟩,
    ⟨some 9, Op.load 59 (Operand.tmp 8), none⟩,
    ⟨some 10, Op.call { callee := Callee.builtin Builtin.len, args := #[Operand.tmp 9], argTypes := #[59] }, none⟩,
    ⟨some 2, Op.assign (Operand.tmp 10), none⟩])
  .ret)))
theorem ir28_eq : (Try.f28.body.map low, Try.f28.ntmps, Try.f28.results.toList) = (some ir28, 11, [.tmp 2]) := by kernel_rfl
noncomputable def rc29 (i : Nat) : Code × Code := (((Try.f29.body.map rangesOf).getD [])[i]?).getD (.skip, .skip)
noncomputable def ir29_l0 : LC := (.seq (.seq (.ops [⟨some 15, Op.move (Operand.tmp 10), none⟩,
    ⟨some 16, Op.move (Operand.tmp 1), none⟩,
    ⟨some 17, Op.nilCheck (Operand.tmp 16), none⟩,
    ⟨some 18, Op.fieldAddr 29 (Operand.tmp 17) 0, none⟩,
    ⟨some 19, Op.load 27 (Operand.tmp 18), none⟩,
    ⟨some 20, Op.call { callee := Callee.builtin Builtin.len, args := #[Operand.tmp 19], argTypes := #[27] }, none⟩,
    ⟨some 21, Op.binOp BinOp.lss 3 (Operand.tmp 15) (Operand.tmp 20) 3, none⟩])
  (.cond (Operand.tmp 21)
  .skip
  (.exit 0)))
  (.seq (.block 1 (.seq (.ops [⟨some 24, Op.move (Operand.tmp 2), none⟩,
    ⟨some 25, Op.binOp BinOp.lss 3 (Operand.tmp 24) (Operand.const (Value.int IntKind.i64 0)) 3, none⟩,
    ⟨some 26, Op.move (Operand.tmp 25), none⟩,
    ⟨some 27, Op.move (Operand.tmp 1), some (26, false)⟩,
    ⟨some 28, Op.nilCheck (Operand.tmp 27), some (26, false)⟩,
    ⟨some 29, Op.fieldAddr 29 (Operand.tmp 28) 0, some (26, false)⟩,
    ⟨some 30, Op.load 27 (Operand.tmp 29), some (26, false)⟩,
    ⟨some 31, Op.move (Operand.tmp 10), some (26, false)⟩,
    ⟨some 32, Op.indexAddr 27 (Operand.tmp 30) (Operand.tmp 31), some (26, false)⟩,
    ⟨some 33, Op.fieldAddr 40 (Operand.tmp 32) 2, some (26, false)⟩,
    ⟨some 34, Op.load 3 (Operand.tmp 33), some (26, false)⟩,
    ⟨some 35, Op.move (Operand.tmp 2), some (26, false)⟩,
    ⟨some 36, Op.binOp BinOp.eql 3 (Operand.tmp 34) (Operand.tmp 35) 3, some (26, false)⟩,
    ⟨some 37, Op.pick (Operand.tmp 26) (Operand.const (Value.bool true)) (Operand.tmp 36), none⟩])
  (.cond (Operand.tmp 37)
  (.draw [⟨some 38, Op.load 27 (Operand.tmp 9), none⟩,
    ⟨some 39, Op.move (Operand.tmp 1), none⟩,
    ⟨some 40, Op.nilCheck (Operand.tmp 39), none⟩,
    ⟨some 41, Op.fieldAddr 29 (Operand.tmp 40) 0, none⟩,
    ⟨some 42, Op.load 27 (Operand.tmp 41), none⟩,
    ⟨some 43, Op.move (Operand.tmp 10), none⟩,
    ⟨some 44, Op.indexAddr 27 (Operand.tmp 42) (Operand.tmp 43), none⟩,
    ⟨some 45, Op.load 40 (Operand.tmp 44), none⟩,
    ⟨some 46, Op.buildSlice 27 1 #[(0, Operand.tmp 45)], none⟩,
    ⟨some 47, Op.call { callee := Callee.builtin Builtin.append, args := #[Operand.tmp 38, Operand.tmp 46], argTypes := #[27, 27] }, none⟩,
    ⟨none, Op.store 27 (Operand.tmp 9) (Operand.tmp 47), none⟩] [(0, 8)])
  .skip)))
  (.ops [⟨some 22, Op.move (Operand.tmp 10), none⟩,
    ⟨some 23, Op.binOp BinOp.add 3 (Operand.tmp 22) (Operand.const (Value.int IntKind.i64 1)) 3, none⟩,
    ⟨some 10, Op.assign (Operand.tmp 23), none⟩])))
noncomputable def ir29_l1 : LC := (.seq (.seq (.ops [⟨some 53, Op.load 3 (Operand.tmp 12), none⟩,
    ⟨some 54, Op.binOp BinOp.lss 3 (Operand.tmp 53) (Operand.const (Value.int IntKind.i64 2)) 3, none⟩])
  (.cond (Operand.tmp 54)
  .skip
  (.exit 2)))
  (.seq (.block 3 (.seq (.ops [⟨some 13, Op.alloc 3, none⟩,
    ⟨none, Op.store 3 (Operand.tmp 13) (Operand.const (Value.int IntKind.i64 0)), none⟩])
  (.seq (.seq (.ops [⟨some 57, Op.move (Operand.tmp 11), none⟩])
  (.block 4 (.range (Operand.tmp 57) #[58] (rc29 0).1 (rc29 0).2)))
  (.seq (.ops [⟨some 80, Op.load 3 (Operand.tmp 13), none⟩,
    ⟨some 81, Op.load 27 (Operand.tmp 9), none⟩,
    ⟨some 82, Op.call { callee := Callee.builtin Builtin.len, args := #[Operand.tmp 81], argTypes := #[27] }, none⟩,
    ⟨some 83, Op.binOp BinOp.neq 3 (Operand.tmp 80) (Operand.tmp 82) 3, none⟩,
    ⟨some 84, Op.move (Operand.tmp 83), none⟩,
    ⟨some 85, Op.load 3 (Operand.tmp 12), some (84, true)⟩,
    ⟨some 86, Op.binOp BinOp.eql 3 (Operand.tmp 85) (Operand.const (Value.int IntKind.i64 1)) 3, some (84, true)⟩,
    ⟨some 87, Op.move (Operand.tmp 86), some (84, true)⟩,
    ⟨some 88, Op.load 3 (Operand.tmp 13), some (87, false)⟩,
    ⟨some 89, Op.load 3 (Operand.tmp 7), some (87, false)⟩,
    ⟨some 90, Op.binOp BinOp.neq 3 (Operand.tmp 88) (Operand.tmp 89) 3, some (87, false)⟩,
    ⟨some 91, Op.pick (Operand.tmp 87) (Operand.const (Value.bool true)) (Operand.tmp 90), some (84, true)⟩,
    ⟨some 92, Op.pick (Operand.tmp 84) (Operand.tmp 91) (Operand.const (Value.bool false)), none⟩])
  (.cond (Operand.tmp 92)
  (.seq (.ops [⟨none, Op.store 4 (Operand.tmp 8) (Operand.const (Value.bool false)), none⟩])
  .ret)
  .skip)))))
  (.seq (.seq (.ops [⟨some 93, Op.load 3 (Operand.tmp 12), none⟩])
  (.ops [⟨some 12, Op.alloc 3, none⟩,
    ⟨none, Op.store 3 (Operand.tmp 12) (Operand.tmp 93), none⟩]))
  (.ops [⟨some 55, Op.load 3 (Operand.tmp 12), none⟩,
    ⟨some 56, Op.binOp BinOp.add 3 (Operand.tmp 55) (Operand.const (Value.int IntKind.i64 1)) 3, none⟩,
    ⟨none, Op.store 3 (Operand.tmp 12) (Operand.tmp 56), none⟩]))))
noncomputable def ir29_a0 : LC := (.ops [⟨some 14, Op.alloc 40, none⟩,
    ⟨none, Op.store 40 (Operand.tmp 14) (Operand.tmp 58), none⟩])
noncomputable def ir29_b0 : LC := (.block 5 (.seq (.seq (.draw [⟨some 59, Op.load 3 (Operand.tmp 13), none⟩,
    ⟨some 60, Op.load 27 (Operand.tmp 9), none⟩,
    ⟨some 61, Op.call { callee := Callee.builtin Builtin.len, args := #[Operand.tmp 60], argTypes := #[27] }, none⟩,
    ⟨some 62, Op.binOp BinOp.geq 3 (Operand.tmp 59) (Operand.tmp 61) 3, none⟩,
    ⟨some 63, Op.move (Operand.tmp 62), none⟩,
    ⟨some 64, Op.load 40 (Operand.tmp 14), some (63, false)⟩,
    ⟨some 65, Op.load 27 (Operand.tmp 9), some (63, false)⟩,
    ⟨some 66, Op.load 3 (Operand.tmp 13), some (63, false)⟩,
    ⟨some 67, Op.indexAddr 27 (Operand.tmp 65) (Operand.tmp 66), some (63, false)⟩,
    ⟨some 68, Op.load 40 (Operand.tmp 67), some (63, false)⟩,
    ⟨some 69, Op.binOp BinOp.neq 40 (Operand.tmp 64) (Operand.tmp 68) 40, some (63, false)⟩,
    ⟨some 70, Op.pick (Operand.tmp 63) (Operand.const (Value.bool true)) (Operand.tmp 69), none⟩] [])
  (.cond (Operand.tmp 70)
  (.seq (.ops [⟨none, Op.store 4 (Operand.tmp 8) (Operand.const (Value.bool false)), none⟩])
  .ret)
  .skip))
  (.seq (.ops [⟨some 71, Op.load 3 (Operand.tmp 13), none⟩,
    ⟨some 72, Op.binOp BinOp.add 3 (Operand.tmp 71) (Operand.const (Value.int IntKind.i64 1)) 3, none⟩,
    ⟨none, Op.store 3 (Operand.tmp 13) (Operand.tmp 72), none⟩])
  (.seq (.ops [⟨some 73, Op.load 3 (Operand.tmp 12), none⟩,
    ⟨some 74, Op.binOp BinOp.eql 3 (Operand.tmp 73) (Operand.const (Value.int IntKind.i64 0)) 3, none⟩,
    ⟨some 75, Op.move (Operand.tmp 74), none⟩,
    ⟨some 76, Op.load 3 (Operand.tmp 13), some (75, true)⟩,
    ⟨some 77, Op.load 3 (Operand.tmp 7), some (75, true)⟩,
    ⟨some 78, Op.binOp BinOp.eql 3 (Operand.tmp 76) (Operand.tmp 77) 3, some (75, true)⟩,
    ⟨some 79, Op.pick (Operand.tmp 75) (Operand.tmp 78) (Operand.const (Value.bool false)), none⟩])
  (.cond (Operand.tmp 79)
  (.exit 4)
  .skip)))))
theorem ir29_a0_eq : low (rc29 0).1 = ir29_a0 := by kernel_rfl
theorem ir29_b0_eq : low (rc29 0).2 = ir29_b0 := by kernel_rfl
noncomputable def ir29 : LC := (.seq (.ops [⟨some 7, Op.box 3 (Operand.tmp 3), none⟩,
    ⟨some 8, Op.alloc 4, none⟩])
  (.seq (.ops [⟨some 9, Op.alloc 27, none⟩])
  (.seq (.seq (.ops [⟨some 10, Op.assign (Operand.const (Value.int IntKind.i64 0)), none⟩])
  (.block 0 (.loop ir29_l0)))
  (.seq (.ops [⟨some 48, Op.move (Operand.tmp 0), none⟩,
    ⟨some 49, Op.move (Operand.tmp 2), none⟩,
    ⟨some 50, Op.call { callee := Callee.value (Operand.func 15), args := #[Operand.tmp 48, Operand.tmp 49], argTypes := #[24, 3] }, none⟩,
    ⟨some 11, Op.assign (Operand.tmp 50), none⟩])
  (.seq (.seq (.ops [⟨some 51, Op.move (Operand.tmp 11), none⟩,
    ⟨some 52, Op.binOp BinOp.eql 37 (Operand.tmp 51) (Operand.const Value.nilFunc) 37, none⟩])
  (.cond (Operand.tmp 52)
  (.seq (.ops [⟨none, Op.store 4 (Operand.tmp 8) (Operand.const (Value.bool false)), none⟩])
  .ret)
  .skip))
  (.seq (.seq (.ops [⟨some 12, Op.alloc 3, none⟩,
    ⟨none, Op.store 3 (Operand.tmp 12) (Operand.const (Value.int IntKind.i64 0)), none⟩])
  (.block 2 (.loop ir29_l1)))
  (.seq (.ops [⟨none, Op.store 4 (Operand.tmp 8) (Operand.const (Value.bool true)), none⟩])
  .ret)))))))
theorem ir29_eq : (Try.f29.body.map low, Try.f29.ntmps, Try.f29.results.toList) = (some ir29, 94, [.cell 8 4]) := by kernel_rfl
def ir30 : LC := (.seq (.ops [⟨some 10, Op.assign (Operand.const (Value.int IntKind.i64 0)), none⟩,
    ⟨some 11, Op.assign (Operand.const (Value.int IntKind.i64 0)), none⟩])
  (.seq (.seq (.ops [⟨some 12, Op.move (Operand.tmp 1), none⟩,
    ⟨some 13, Op.call { callee := Callee.value (Operand.func 48), args := #[Operand.tmp 12], argTypes := #[3] }, none⟩,
    ⟨some 14, Op.unOp UnOp.not 4 (Operand.tmp 13), none⟩,
    ⟨some 15, Op.move (Operand.tmp 14), none⟩,
    ⟨some 16, Op.move (Operand.tmp 2), some (15, false)⟩,
    ⟨some 17, Op.binOp BinOp.lss 3 (Operand.tmp 16) (Operand.const (Value.int IntKind.i64 0)) 3, some (15, false)⟩,
    ⟨some 18, Op.pick (Operand.tmp 15) (Operand.const (Value.bool true)) (Operand.tmp 17), none⟩,
    ⟨some 19, Op.move (Operand.tmp 18), none⟩,
    ⟨some 20, Op.move (Operand.tmp 3), some (19, false)⟩,
    ⟨some 21, Op.binOp BinOp.lss 3 (Operand.tmp 20) (Operand.const (Value.int IntKind.i64 0)) 3, some (19, false)⟩,
    ⟨some 22, Op.pick (Operand.tmp 19) (Operand.const (Value.bool true)) (Operand.tmp 21), none⟩,
    ⟨some 23, Op.move (Operand.tmp 22), none⟩,
    ⟨some 24, Op.move (Operand.tmp 4), some (23, false)⟩,
    ⟨some 25, Op.call { callee := Callee.value (Operand.func 36), args := #[Operand.tmp 24], argTypes := #[3] }, some (23, false)⟩,
    ⟨some 26, Op.unOp UnOp.not 4 (Operand.tmp 25), some (23, false)⟩,
    ⟨some 27, Op.pick (Operand.tmp 23) (Operand.const (Value.bool true)) (Operand.tmp 26), none⟩])
  (.cond (Operand.tmp 27)
  (.seq (.ops [⟨some 10, Op.assign (Operand.const (Value.int IntKind.i64 0)), none⟩,
    ⟨some 11, Op.assign (Operand.const (Value.int IntKind.i64 2)), none⟩])
  .ret)
  .skip))
  (.seq (.ops [⟨some 28, Op.move (Operand.tmp 0), none⟩,
    ⟨some 29, Op.move (Operand.tmp 1), none⟩,
    ⟨some 30, Op.move (Operand.tmp 1), none⟩,
    ⟨some 31, Op.move (Operand.tmp 2), none⟩,
    ⟨some 32, Op.move (Operand.tmp 3), none⟩,
    ⟨some 33, Op.move (Operand.tmp 4), none⟩,
    ⟨some 34, Op.build 40 #[(2, Operand.tmp 29), (3, Operand.tmp 30), (4, Operand.tmp 31), (5, Operand.tmp 32), (6, Operand.tmp 33)], none⟩,
    ⟨some 35, Op.call { callee := Callee.value (Operand.func 49), args := #[Operand.tmp 28, Operand.tmp 34], argTypes := #[26, 40] }, none⟩,
    ⟨some 36, Op.extract (Operand.tmp 35) 0, none⟩,
    ⟨some 37, Op.extract (Operand.tmp 35) 1, none⟩,
    ⟨some 10, Op.assign (Operand.tmp 36), none⟩,
    ⟨some 11, Op.assign (Operand.tmp 37), none⟩])
  .ret)))
theorem ir30_eq : (Try.f30.body.map low, Try.f30.ntmps, Try.f30.results.toList) = (some ir30, 38, [.tmp 10, .tmp 11]) := by kernel_rfl
def ir31 : LC := (.seq (.ops [⟨some 12, Op.assign (Operand.const (Value.int IntKind.i64 0)), none⟩,
    ⟨some 13, Op.assign (Operand.const (Value.int IntKind.i64 0)), none⟩])
  (.seq (.seq (.ops [⟨some 15, Op.move (Operand.tmp 1), none⟩,
    ⟨some 16, Op.call { callee := Callee.value (Operand.func 48), args := #[Operand.tmp 15], argTypes := #[3] }, none⟩,
    ⟨some 17, Op.unOp UnOp.not 4 (Operand.tmp 16), none⟩,
    ⟨some 18, Op.move (Operand.tmp 17), none⟩,
    ⟨some 19, Op.move (Operand.tmp 3), some (18, false)⟩,
    ⟨some 20, Op.call { callee := Callee.value (Operand.func 48), args := #[Operand.tmp 19], argTypes := #[3] }, some (18, false)⟩,
    ⟨some 21, Op.unOp UnOp.not 4 (Operand.tmp 20), some (18, false)⟩,
    ⟨some 22, Op.pick (Operand.tmp 18) (Operand.const (Value.bool true)) (Operand.tmp 21), none⟩,
    ⟨some 23, Op.move (Operand.tmp 22), none⟩,
    ⟨some 24, Op.move (Operand.tmp 4), some (23, false)⟩,
    ⟨some 25, Op.call { callee := Callee.value (Operand.func 36), args := #[Operand.tmp 24], argTypes := #[3] }, some (23, false)⟩,
    ⟨some 26, Op.unOp UnOp.not 4 (Operand.tmp 25), some (23, false)⟩,
    ⟨some 27, Op.pick (Operand.tmp 23) (Operand.const (Value.bool true)) (Operand.tmp 26), none⟩])
  (.cond (Operand.tmp 27)
  (.seq (.ops [⟨some 12, Op.assign (Operand.const (Value.int IntKind.i64 0)), none⟩,
    ⟨some 13, Op.assign (Operand.const (Value.int IntKind.i64 2)), none⟩])
  .ret)
  .skip))
  (.seq (.seq (.ops [⟨some 28, Op.move (Operand.tmp 0), none⟩,
    ⟨some 29, Op.move (Operand.tmp 1), none⟩,
    ⟨some 30, Op.move (Operand.tmp 2), none⟩,
    ⟨some 31, Op.call { callee := Callee.value (Operand.func 50), args := #[Operand.tmp 28, Operand.tmp 29, Operand.tmp 30], argTypes := #[26, 3, 2] }, none⟩,
    ⟨some 32, Op.unOp UnOp.not 4 (Operand.tmp 31), none⟩])
  (.cond (Operand.tmp 32)
  (.seq (.ops [⟨some 12, Op.assign (Operand.const (Value.int IntKind.i64 0)), none⟩,
    ⟨some 13, Op.assign (Operand.const (Value.int IntKind.i64 6)), none⟩])
  .ret)
  .skip))
  (.seq (.draw [⟨some 33, Op.move (Operand.tmp 0), none⟩,
    ⟨some 34, Op.nilCheck (Operand.tmp 33), none⟩,
    ⟨some 35, Op.fieldAddr 29 (Operand.tmp 34) 0, none⟩,
    ⟨some 36, Op.load 27 (Operand.tmp 35), none⟩,
    ⟨some 37, Op.move (Operand.tmp 0), none⟩,
    ⟨some 38, Op.move (Operand.tmp 2), none⟩,
    ⟨some 39, Op.call { callee := Callee.value (Operand.func 51), args := #[Operand.tmp 37, Operand.tmp 38], argTypes := #[26, 2] }, none⟩,
    ⟨some 40, Op.indexAddr 27 (Operand.tmp 36) (Operand.tmp 39), none⟩,
    ⟨some 41, Op.load 40 (Operand.tmp 40), none⟩,
    ⟨some 14, Op.alloc 40, none⟩,
    ⟨none, Op.store 40 (Operand.tmp 14) (Operand.tmp 41), none⟩] [(0, 6), (1, 6), (2, 6), (3, 6), (0, 9), (1, 9), (2, 9), (3, 9), (4, 9), (5, 9), (6, 9), (7, 9), (8, 9)])
  (.seq (.seq (.ops [⟨some 42, Op.move (Operand.tmp 4), none⟩,
    ⟨some 43, Op.fieldAddr 40 (Operand.tmp 14) 6, none⟩,
    ⟨some 44, Op.load 3 (Operand.tmp 43), none⟩,
    ⟨some 45, Op.call { callee := Callee.value (Operand.func 37), args := #[Operand.tmp 42, Operand.tmp 44], argTypes := #[3, 3] }, none⟩,
    ⟨some 46, Op.unOp UnOp.not 4 (Operand.tmp 45), none⟩,
    ⟨some 47, Op.move (Operand.tmp 46), none⟩,
    ⟨some 48, Op.move (Operand.tmp 5), some (47, false)⟩,
    ⟨some 49, Op.fieldAddr 40 (Operand.tmp 14) 6, some (47, false)⟩,
    ⟨some 50, Op.load 3 (Operand.tmp 49), some (47, false)⟩,
    ⟨some 51, Op.call { callee := Callee.value (Operand.func 37), args := #[Operand.tmp 48, Operand.tmp 50], argTypes := #[3, 3] }, some (47, false)⟩,
    ⟨some 52, Op.unOp UnOp.not 4 (Operand.tmp 51), some (47, false)⟩,
    ⟨some 53, Op.pick (Operand.tmp 47) (Operand.const (Value.bool true)) (Operand.tmp 52), none⟩])
  (.cond (Operand.tmp 53)
  (.seq (.ops [⟨some 12, Op.assign (Operand.const (Value.int IntKind.i64 0)), none⟩,
    ⟨some 13, Op.assign (Operand.const (Value.int IntKind.i64 8)), none⟩])
  .ret)
  .skip))
  (.seq (.ops [⟨some 54, Op.move (Operand.tmp 0), none⟩,
    ⟨some 55, Op.move (Operand.tmp 2), none⟩,
    ⟨some 56, Op.move (Operand.tmp 3), none⟩,
    ⟨some 57, Op.move (Operand.tmp 1), none⟩,
    ⟨some 58, Op.fieldAddr 40 (Operand.tmp 14) 4, none⟩,
    ⟨some 59, Op.load 3 (Operand.tmp 58), none⟩,
    ⟨some 60, Op.fieldAddr 40 (Operand.tmp 14) 5, none⟩,
    ⟨some 61, Op.load 3 (Operand.tmp 60), none⟩,
    ⟨some 62, Op.move (Operand.tmp 4), none⟩,
    ⟨some 63, Op.build 40 #[(1, Operand.tmp 55), (2, Operand.tmp 56), (3, Operand.tmp 57), (4, Operand.tmp 59), (5, Operand.tmp 61), (6, Operand.tmp 62)], none⟩,
    ⟨some 64, Op.call { callee := Callee.value (Operand.func 49), args := #[Operand.tmp 54, Operand.tmp 63], argTypes := #[26, 40] }, none⟩,
    ⟨some 65, Op.extract (Operand.tmp 64) 0, none⟩,
    ⟨some 66, Op.extract (Operand.tmp 64) 1, none⟩,
    ⟨some 12, Op.assign (Operand.tmp 65), none⟩,
    ⟨some 13, Op.assign (Operand.tmp 66), none⟩])
  .ret))))))
theorem ir31_eq : (Try.f31.body.map low, Try.f31.ntmps, Try.f31.results.toList) = (some ir31, 67, [.tmp 12, .tmp 13]) := by kernel_rfl
def ir32_l0 : LC := (.seq (.seq (.ops [⟨some 22, Op.move (Operand.tmp 11), none⟩,
    ⟨some 23, Op.move (Operand.tmp 0), none⟩,
    ⟨some 24, Op.nilCheck (Operand.tmp 23), none⟩,
    ⟨some 25, Op.fieldAddr 29 (Operand.tmp 24) 0, none⟩,
    ⟨some 26, Op.load 27 (Operand.tmp 25), none⟩,
    ⟨some 27, Op.call { callee := Callee.builtin Builtin.len, args := #[Operand.tmp 26], argTypes := #[27] }, none⟩,
    ⟨some 28, Op.binOp BinOp.lss 3 (Operand.tmp 22) (Operand.tmp 27) 3, none⟩])
  (.cond (Operand.tmp 28)
  .skip
  (.exit 0)))
  (.seq (.block 1 (.seq (.ops [⟨some 31, Op.move (Operand.tmp 0), none⟩,
    ⟨some 32, Op.nilCheck (Operand.tmp 31), none⟩,
    ⟨some 33, Op.fieldAddr 29 (Operand.tmp 32) 0, none⟩,
    ⟨some 34, Op.load 27 (Operand.tmp 33), none⟩,
    ⟨some 35, Op.move (Operand.tmp 11), none⟩,
    ⟨some 36, Op.indexAddr 27 (Operand.tmp 34) (Operand.tmp 35), none⟩,
    ⟨some 37, Op.load 40 (Operand.tmp 36), none⟩,
    ⟨some 12, Op.alloc 40, none⟩,
    ⟨none, Op.store 40 (Operand.tmp 12) (Operand.tmp 37), none⟩])
  (.seq (.ops [⟨some 38, Op.move (Operand.tmp 0), none⟩,
    ⟨some 39, Op.move (Operand.tmp 2), none⟩,
    ⟨some 40, Op.fieldAddr 40 (Operand.tmp 12) 0, none⟩,
    ⟨some 41, Op.load 2 (Operand.tmp 40), none⟩,
    ⟨some 42, Op.call { callee := Callee.value (Operand.func 47), args := #[Operand.tmp 38, Operand.tmp 39, Operand.tmp 41], argTypes := #[26, 2, 2] }, none⟩,
    ⟨some 43, Op.unOp UnOp.not 4 (Operand.tmp 42), none⟩,
    ⟨some 44, Op.move (Operand.tmp 43), none⟩,
    ⟨some 45, Op.fieldAddr 40 (Operand.tmp 12) 0, some (44, false)⟩,
    ⟨some 46, Op.load 2 (Operand.tmp 45), some (44, false)⟩,
    ⟨some 47, Op.move (Operand.tmp 2), some (44, false)⟩,
    ⟨some 48, Op.binOp BinOp.eql 2 (Operand.tmp 46) (Operand.tmp 47) 2, some (44, false)⟩,
    ⟨some 49, Op.move (Operand.tmp 48), some (44, false)⟩,
    ⟨some 50, Op.move (Operand.tmp 3), some (49, true)⟩,
    ⟨some 51, Op.unOp UnOp.not 4 (Operand.tmp 50), some (49, true)⟩,
    ⟨some 52, Op.pick (Operand.tmp 49) (Operand.tmp 51) (Operand.const (Value.bool false)), some (44, false)⟩,
    ⟨some 53, Op.pick (Operand.tmp 44) (Operand.const (Value.bool true)) (Operand.tmp 52), none⟩])
  (.cond (Operand.tmp 53)
  (.ops [⟨some 54, Op.move (Operand.tmp 10), none⟩,
    ⟨some 55, Op.load 40 (Operand.tmp 12), none⟩,
    ⟨some 56, Op.buildSlice 27 1 #[(0, Operand.tmp 55)], none⟩,
    ⟨some 57, Op.call { callee := Callee.builtin Builtin.append, args := #[Operand.tmp 54, Operand.tmp 56], argTypes := #[27, 27] }, none⟩,
    ⟨some 10, Op.assign (Operand.tmp 57), none⟩])
  .skip))))
  (.ops [⟨some 29, Op.move (Operand.tmp 11), none⟩,
    ⟨some 30, Op.binOp BinOp.add 3 (Operand.tmp 29) (Operand.const (Value.int IntKind.i64 1)) 3, none⟩,
    ⟨some 11, Op.assign (Operand.tmp 30), none⟩])))
def ir32 : LC := (.seq (.ops [⟨some 8, Op.assign (Operand.const (Value.int IntKind.i64 0)), none⟩,
    ⟨some 9, Op.assign (Operand.const (Value.int IntKind.i64 0)), none⟩])
  (.seq (.seq (.ops [⟨some 14, Op.move (Operand.tmp 1), none⟩,
    ⟨some 15, Op.call { callee := Callee.value (Operand.func 48), args := #[Operand.tmp 14], argTypes := #[3] }, none⟩,
    ⟨some 16, Op.unOp UnOp.not 4 (Operand.tmp 15), none⟩])
  (.cond (Operand.tmp 16)
  (.seq (.ops [⟨some 8, Op.assign (Operand.const (Value.int IntKind.i64 0)), none⟩,
    ⟨some 9, Op.assign (Operand.const (Value.int IntKind.i64 2)), none⟩])
  .ret)
  .skip))
  (.seq (.seq (.ops [⟨some 17, Op.move (Operand.tmp 0), none⟩,
    ⟨some 18, Op.move (Operand.tmp 1), none⟩,
    ⟨some 19, Op.move (Operand.tmp 2), none⟩,
    ⟨some 20, Op.call { callee := Callee.value (Operand.func 50), args := #[Operand.tmp 17, Operand.tmp 18, Operand.tmp 19], argTypes := #[26, 3, 2] }, none⟩,
    ⟨some 21, Op.unOp UnOp.not 4 (Operand.tmp 20), none⟩])
  (.cond (Operand.tmp 21)
  (.seq (.ops [⟨some 8, Op.assign (Operand.const (Value.int IntKind.i64 0)), none⟩,
    ⟨some 9, Op.assign (Operand.const (Value.int IntKind.i64 6)), none⟩])
  .ret)
  .skip))
  (.seq (.ops [⟨some 10, Op.assign (Operand.const (Value.slice none 0 0)), none⟩])
  (.seq (.seq (.ops [⟨some 11, Op.assign (Operand.const (Value.int IntKind.i64 0)), none⟩])
  (.block 0 (.loop ir32_l0)))
  (.seq (.ops [⟨some 58, Op.move (Operand.tmp 0), none⟩,
    ⟨some 59, Op.nilCheck (Operand.tmp 58), none⟩,
    ⟨some 60, Op.fieldAddr 29 (Operand.tmp 59) 0, none⟩,
    ⟨some 61, Op.load 27 (Operand.tmp 60), none⟩,
    ⟨some 62, Op.call { callee := Callee.builtin Builtin.len, args := #[Operand.tmp 61], argTypes := #[27] }, none⟩,
    ⟨some 63, Op.move (Operand.tmp 10), none⟩,
    ⟨some 64, Op.call { callee := Callee.builtin Builtin.len, args := #[Operand.tmp 63], argTypes := #[27] }, none⟩,
    ⟨some 65, Op.binOp BinOp.sub 3 (Operand.tmp 62) (Operand.tmp 64) 3, none⟩,
    ⟨some 13, Op.assign (Operand.tmp 65), none⟩])
  (.seq (.ops [⟨some 66, Op.move (Operand.tmp 0), none⟩,
    ⟨some 67, Op.move (Operand.tmp 10), none⟩,
    ⟨some 68, Op.nilCheck (Operand.tmp 66), none⟩,
    ⟨some 69, Op.fieldAddr 29 (Operand.tmp 68) 0, none⟩,
    ⟨none, Op.store 27 (Operand.tmp 69) (Operand.tmp 67), none⟩])
  (.seq (.ops [⟨some 70, Op.move (Operand.tmp 13), none⟩,
    ⟨some 8, Op.assign (Operand.tmp 70), none⟩,
    ⟨some 9, Op.assign (Operand.const (Value.int IntKind.i64 0)), none⟩])
  .ret))))))))
theorem ir32_eq : (Try.f32.body.map low, Try.f32.ntmps, Try.f32.results.toList) = (some ir32, 71, [.tmp 8, .tmp 9]) := by kernel_rfl
def ir33 : LC := (.seq (.ops [⟨some 2, Op.assign (Operand.const (Value.bool false)), none⟩])
  (.seq (.ops [⟨some 3, Op.move (Operand.tmp 0), none⟩,
    ⟨some 4, Op.binOp BinOp.neq 24 (Operand.tmp 3) (Operand.const (Value.pointer none)) 24, none⟩,
    ⟨some 5, Op.move (Operand.tmp 4), none⟩,
    ⟨some 6, Op.move (Operand.tmp 0), some (5, true)⟩,
    ⟨some 7, Op.nilCheck (Operand.tmp 6), some (5, true)⟩,
    ⟨some 8, Op.fieldAddr 61 (Operand.tmp 7) 0, some (5, true)⟩,
    ⟨some 9, Op.load 59 (Operand.tmp 8), some (5, true)⟩,
    ⟨some 10, Op.binOp BinOp.neq 59 (Operand.tmp 9) (Operand.const (Value.map none)) 59, some (5, true)⟩,
    ⟨some 11, Op.pick (Operand.tmp 5) (Operand.tmp 10) (Operand.const (Value.bool false)), none⟩,
    ⟨some 2, Op.assign (Operand.tmp 11), none⟩])
  .ret))
theorem ir33_eq : (Try.f33.body.map low, Try.f33.ntmps, Try.f33.results.toList) = (some ir33, 12, [.tmp 2]) := by kernel_rfl
def ir34 : LC := (.seq (.ops [⟨some 2, Op.assign (Operand.const (Value.bool false)), none⟩])
  (.seq (.ops [⟨some 3, Op.move (Operand.tmp 0), none⟩,
    ⟨some 4, Op.binOp BinOp.geq 3 (Operand.tmp 3) (Operand.const (Value.int IntKind.i64 0)) 3, none⟩,
    ⟨some 5, Op.move (Operand.tmp 4), none⟩,
    ⟨some 6, Op.move (Operand.tmp 0), some (5, true)⟩,
    ⟨some 7, Op.binOp BinOp.lss 3 (Operand.tmp 6) (Operand.const (Value.int IntKind.i64 8)) 3, some (5, true)⟩,
    ⟨some 8, Op.pick (Operand.tmp 5) (Operand.tmp 7) (Operand.const (Value.bool false)), none⟩,
    ⟨some 2, Op.assign (Operand.tmp 8), none⟩])
  .ret))
theorem ir34_eq : (Try.f34.body.map low, Try.f34.ntmps, Try.f34.results.toList) = (some ir34, 9, [.tmp 2]) := by kernel_rfl
def ir35 : LC := (.seq (.ops [⟨some 2, Op.assign (Operand.const (Value.bool false)), none⟩])
  (.seq (.ops [⟨some 3, Op.move (Operand.tmp 0), none⟩,
    ⟨some 4, Op.binOp BinOp.geq 3 (Operand.tmp 3) (Operand.const (Value.int IntKind.i64 1)) 3, none⟩,
    ⟨some 5, Op.move (Operand.tmp 4), none⟩,
    ⟨some 6, Op.move (Operand.tmp 0), some (5, true)⟩,
    ⟨some 7, Op.binOp BinOp.leq 3 (Operand.tmp 6) (Operand.const (Value.int IntKind.i64 15)) 3, some (5, true)⟩,
    ⟨some 8, Op.pick (Operand.tmp 5) (Operand.tmp 7) (Operand.const (Value.bool false)), none⟩,
    ⟨some 2, Op.assign (Operand.tmp 8), none⟩])
  .ret))
theorem ir35_eq : (Try.f35.body.map low, Try.f35.ntmps, Try.f35.results.toList) = (some ir35, 9, [.tmp 2]) := by kernel_rfl
def ir36 : LC := (.seq (.ops [⟨some 2, Op.assign (Operand.const (Value.bool false)), none⟩])
  (.seq (.ops [⟨some 3, Op.move (Operand.tmp 0), none⟩,
    ⟨some 4, Op.binOp BinOp.geq 3 (Operand.tmp 3) (Operand.const (Value.int IntKind.i64 1)) 3, none⟩,
    ⟨some 5, Op.move (Operand.tmp 4), none⟩,
    ⟨some 6, Op.move (Operand.tmp 0), some (5, true)⟩,
    ⟨some 7, Op.binOp BinOp.leq 3 (Operand.tmp 6) (Operand.const (Value.int IntKind.i64 15)) 3, some (5, true)⟩,
    ⟨some 8, Op.pick (Operand.tmp 5) (Operand.tmp 7) (Operand.const (Value.bool false)), none⟩,
    ⟨some 2, Op.assign (Operand.tmp 8), none⟩])
  .ret))
theorem ir36_eq : (Try.f36.body.map low, Try.f36.ntmps, Try.f36.results.toList) = (some ir36, 9, [.tmp 2]) := by kernel_rfl
def ir37 : LC := (.seq (.ops [⟨some 4, Op.assign (Operand.const (Value.bool false)), none⟩])
  (.seq (.ops [⟨some 5, Op.move (Operand.tmp 0), none⟩,
    ⟨some 6, Op.move (Operand.tmp 1), none⟩,
    ⟨some 7, Op.binOp BinOp.and 3 (Operand.tmp 5) (Operand.tmp 6) 3, none⟩,
    ⟨some 8, Op.move (Operand.tmp 0), none⟩,
    ⟨some 9, Op.binOp BinOp.eql 3 (Operand.tmp 7) (Operand.tmp 8) 3, none⟩,
    ⟨some 4, Op.assign (Operand.tmp 9), none⟩])
  .ret))
theorem ir37_eq : (Try.f37.body.map low, Try.f37.ntmps, Try.f37.results.toList) = (some ir37, 10, [.tmp 4]) := by kernel_rfl
def ir38 : LC := (.seq (.ops [⟨some 2, Op.assign (Operand.const (Value.slice none 0 0)), none⟩])
  (.seq (.ops [⟨some 4, Op.move (Operand.tmp 0), none⟩,
    ⟨some 5, Op.call { callee := Callee.value (Operand.func 52), args := #[Operand.tmp 4], argTypes := #[76] }, none⟩,
    ⟨some 3, Op.assign (Operand.tmp 5), none⟩])
  (.seq (.ops [⟨some 6, Op.move (Operand.tmp 3), none⟩,
    ⟨some 7, Op.call { callee := Callee.value (Operand.func 53), args := #[Operand.tmp 6], argTypes := #[45] }, none⟩])
  (.seq (.ops [⟨some 8, Op.move (Operand.tmp 3), none⟩,
    ⟨some 2, Op.assign (Operand.tmp 8), none⟩])
  .ret))))
theorem ir38_eq : (Try.f38.body.map low, Try.f38.ntmps, Try.f38.results.toList) = (some ir38, 9, [.tmp 2]) := by kernel_rfl
def ir39 : LC := (.seq (.ops [⟨some 1, Op.box 59 (Operand.tmp 0), none⟩,
    ⟨some 2, Op.assign (Operand.const Value.nilFunc), none⟩])
  (.seq (.ops [⟨some 3, Op.makeFunc (Fn.func 54) #[] #[Operand.tmp 1], none⟩,
    ⟨some 2, Op.assign (Operand.tmp 3), none⟩])
  .ret))
theorem ir39_eq : (Try.f39.body.map low, Try.f39.ntmps, Try.f39.results.toList) = (some ir39, 4, [.tmp 2]) := by kernel_rfl
def ir40_l0 : LC := (.seq (.ops [⟨some 8, Op.binOp BinOp.lss 3 (Operand.tmp 7) (Operand.tmp 6) 3, none⟩])
  (.seq (.cond (Operand.tmp 8)
  .skip
  (.exit 0))
  (.seq (.block 1 (.seq (.ops [⟨some 9, Op.indexAddr 27 (Operand.tmp 5) (Operand.tmp 7), none⟩,
    ⟨some 10, Op.load 40 (Operand.tmp 9), none⟩,
    ⟨some 4, Op.alloc 40, none⟩,
    ⟨none, Op.store 40 (Operand.tmp 4) (Operand.tmp 10), none⟩])
  (.seq (.ops [⟨some 11, Op.move (Operand.tmp 0), none⟩,
    ⟨some 12, Op.load 40 (Operand.tmp 4), none⟩,
    ⟨some 13, Op.call { callee := Callee.value (Operand.tmp 11), args := #[Operand.tmp 12], argTypes := #[40] }, none⟩,
    ⟨some 14, Op.unOp UnOp.not 4 (Operand.tmp 13), none⟩])
  (.cond (Operand.tmp 14)
  .ret
  .skip))))
  (.ops [⟨some 15, Op.binOp BinOp.add 3 (Operand.tmp 7) (Operand.const (Value.int IntKind.i64 1)) 3, none⟩,
    ⟨some 7, Op.move (Operand.tmp 15), none⟩]))))
def ir40 : LC := (.seq (.ops [⟨some 5, Op.load 27 (Operand.tmp 1), none⟩,
    ⟨some 6, Op.call { callee := Callee.builtin Builtin.len, args := #[Operand.tmp 5], argTypes := #[27] }, none⟩,
    ⟨some 7, Op.move (Operand.const (Value.int IntKind.i64 0)), none⟩])
  (.block 0 (.loop ir40_l0)))
theorem ir40_eq : (Try.f40.body.map low, Try.f40.ntmps, Try.f40.results.toList) = (some ir40, 16, []) := by kernel_rfl
def ir41 : LC := (.seq (.ops [⟨some 6, Op.alloc 40, none⟩,
    ⟨some 7, Op.assign (Operand.const (Value.int IntKind.i64 0)), none⟩])
  (.seq (.block 0 (.seq (.ops [⟨some 11, Op.move (Operand.tmp 0), none⟩,
    ⟨some 12, Op.call { callee := Callee.value (Operand.func 33), args := #[Operand.tmp 11], argTypes := #[24] }, none⟩,
    ⟨some 13, Op.unOp UnOp.not 4 (Operand.tmp 12), none⟩,
    ⟨some 10, Op.assign (Operand.tmp 13), none⟩])
  (.cond (Operand.tmp 10)
  (.seq (.ops [⟨some 14, Op.build 40 #[], none⟩,
    ⟨none, Op.store 40 (Operand.tmp 6) (Operand.tmp 14), none⟩,
    ⟨some 7, Op.assign (Operand.const (Value.int IntKind.i64 1)), none⟩])
  .ret)
  (.seq (.ops [⟨some 16, Op.move (Operand.tmp 1), none⟩,
    ⟨some 17, Op.call { callee := Callee.value (Operand.func 34), args := #[Operand.tmp 16], argTypes := #[3] }, none⟩,
    ⟨some 18, Op.unOp UnOp.not 4 (Operand.tmp 17), none⟩,
    ⟨some 15, Op.assign (Operand.tmp 18), none⟩])
  (.cond (Operand.tmp 15)
  (.seq (.ops [⟨some 19, Op.build 40 #[], none⟩,
    ⟨none, Op.store 40 (Operand.tmp 6) (Operand.tmp 19), none⟩,
    ⟨some 7, Op.assign (Operand.const (Value.int IntKind.i64 2)), none⟩])
  .ret)
  .skip)))))
  (.seq (.ops [⟨some 21, Op.move (Operand.tmp 0), none⟩,
    ⟨some 22, Op.nilCheck (Operand.tmp 21), none⟩,
    ⟨some 23, Op.fieldAddr 61 (Operand.tmp 22) 0, none⟩,
    ⟨some 24, Op.load 59 (Operand.tmp 23), none⟩,
    ⟨some 25, Op.move (Operand.tmp 2), none⟩,
    ⟨some 26, Op.lookup 59 (Operand.tmp 24) (Operand.tmp 25) true, none⟩,
    ⟨some 20, Op.move (Operand.tmp 26), none⟩,
    ⟨some 27, Op.extract (Operand.tmp 20) 0, none⟩,
    ⟨some 28, Op.extract (Operand.tmp 20) 1, none⟩,
    ⟨some 8, Op.alloc 40, none⟩,
    ⟨none, Op.store 40 (Operand.tmp 8) (Operand.tmp 27), none⟩,
    ⟨some 9, Op.assign (Operand.tmp 28), none⟩])
  (.seq (.seq (.ops [⟨some 29, Op.move (Operand.tmp 9), none⟩,
    ⟨some 30, Op.unOp UnOp.not 4 (Operand.tmp 29), none⟩,
    ⟨some 31, Op.move (Operand.tmp 30), none⟩,
    ⟨some 32, Op.fieldAddr 40 (Operand.tmp 8) 2, some (31, false)⟩,
    ⟨some 33, Op.load 3 (Operand.tmp 32), some (31, false)⟩,
    ⟨some 34, Op.move (Operand.tmp 1), some (31, false)⟩,
    ⟨some 35, Op.binOp BinOp.neq 3 (Operand.tmp 33) (Operand.tmp 34) 3, some (31, false)⟩,
    ⟨some 36, Op.pick (Operand.tmp 31) (Operand.const (Value.bool true)) (Operand.tmp 35), none⟩])
  (.cond (Operand.tmp 36)
  (.seq (.ops [⟨some 37, Op.build 40 #[], none⟩,
    ⟨none, Op.store 40 (Operand.tmp 6) (Operand.tmp 37), none⟩,
    ⟨some 7, Op.assign (Operand.const (Value.int IntKind.i64 6)), none⟩])
  .ret)
  .skip))
  (.seq (.ops [⟨some 38, Op.load 40 (Operand.tmp 8), none⟩,
    ⟨none, Op.store 40 (Operand.tmp 6) (Operand.tmp 38), none⟩,
    ⟨some 7, Op.assign (Operand.const (Value.int IntKind.i64 0)), none⟩])
  .ret)))))
theorem ir41_eq : (Try.f41.body.map low, Try.f41.ntmps, Try.f41.results.toList) = (some ir41, 39, [.cell 6 40, .tmp 7]) := by kernel_rfl
def ir42 : LC := (.seq (.ops [⟨some 2, Op.box 24 (Operand.tmp 0), none⟩,
    ⟨some 4, Op.assign (Operand.const (Value.int IntKind.i64 0)), none⟩])
  (.seq (.ops [⟨some 5, Op.alloc 3, none⟩,
    ⟨none, Op.store 3 (Operand.tmp 5) (Operand.const (Value.int IntKind.i64 0)), none⟩])
  (.seq (.ops [⟨some 6, Op.alloc 90, none⟩])
  (.seq (.ops [⟨some 7, Op.makeFunc (Fn.func 55) #[] #[Operand.tmp 2, Operand.tmp 5, Operand.tmp 6], none⟩,
    ⟨none, Op.store 90 (Operand.tmp 6) (Operand.tmp 7), none⟩])
  (.seq (.ops [⟨some 8, Op.load 90 (Operand.tmp 6), none⟩,
    ⟨some 9, Op.move (Operand.tmp 1), none⟩,
    ⟨some 10, Op.call { callee := Callee.value (Operand.tmp 8), args := #[Operand.tmp 9], argTypes := #[2] }, none⟩])
  (.seq (.ops [⟨some 11, Op.load 3 (Operand.tmp 5), none⟩,
    ⟨some 4, Op.assign (Operand.tmp 11), none⟩])
  .ret))))))
theorem ir42_eq : (Try.f42.body.map low, Try.f42.ntmps, Try.f42.results.toList) = (some ir42, 12, [.tmp 4]) := by kernel_rfl
def ir43 : LC := (.seq (.ops [⟨some 3, Op.box 40 (Operand.tmp 1), none⟩,
    ⟨some 4, Op.assign (Operand.const (Value.int IntKind.i64 0)), none⟩,
    ⟨some 5, Op.assign (Operand.const (Value.int IntKind.i64 0)), none⟩])
  (.seq (.seq (.ops [⟨some 6, Op.move (Operand.tmp 0), none⟩,
    ⟨some 7, Op.fieldAddr 40 (Operand.tmp 3) 3, none⟩,
    ⟨some 8, Op.load 3 (Operand.tmp 7), none⟩,
    ⟨some 9, Op.call { callee := Callee.value (Operand.func 27), args := #[Operand.tmp 6, Operand.tmp 8], argTypes := #[24, 3] }, none⟩,
    ⟨some 10, Op.binOp BinOp.geq 3 (Operand.tmp 9) (Operand.const (Value.int IntKind.i64 32)) 3, none⟩])
  (.cond (Operand.tmp 10)
  (.seq (.ops [⟨some 4, Op.assign (Operand.const (Value.int IntKind.i64 0)), none⟩,
    ⟨some 5, Op.assign (Operand.const (Value.int IntKind.i64 5)), none⟩])
  .ret)
  .skip))
  (.seq (.ops [⟨some 11, Op.move (Operand.tmp 0), none⟩,
    ⟨some 12, Op.nilCheck (Operand.tmp 11), none⟩,
    ⟨some 13, Op.fieldAddr 61 (Operand.tmp 12) 1, none⟩,
    ⟨some 14, Op.load 2 (Operand.tmp 13), none⟩,
    ⟨some 15, Op.binOp BinOp.add 2 (Operand.tmp 14) (Operand.const (Value.int IntKind.i64 1)) 2, none⟩,
    ⟨some 16, Op.nilCheck (Operand.tmp 11), none⟩,
    ⟨some 17, Op.fieldAddr 61 (Operand.tmp 16) 1, none⟩,
    ⟨none, Op.store 2 (Operand.tmp 17) (Operand.tmp 15), none⟩])
  (.seq (.ops [⟨some 18, Op.move (Operand.tmp 0), none⟩,
    ⟨some 19, Op.nilCheck (Operand.tmp 18), none⟩,
    ⟨some 20, Op.fieldAddr 61 (Operand.tmp 19) 1, none⟩,
    ⟨some 21, Op.load 2 (Operand.tmp 20), none⟩,
    ⟨some 22, Op.fieldAddr 40 (Operand.tmp 3) 0, none⟩,
    ⟨none, Op.store 2 (Operand.tmp 22) (Operand.tmp 21), none⟩])
  (.seq (.draw [⟨some 23, Op.move (Operand.tmp 0), none⟩,
    ⟨some 24, Op.nilCheck (Operand.tmp 23), none⟩,
    ⟨some 25, Op.fieldAddr 61 (Operand.tmp 24) 0, none⟩,
    ⟨some 26, Op.load 59 (Operand.tmp 25), none⟩,
    ⟨some 27, Op.fieldAddr 40 (Operand.tmp 3) 0, none⟩,
    ⟨some 28, Op.load 2 (Operand.tmp 27), none⟩,
    ⟨some 29, Op.load 40 (Operand.tmp 3), none⟩,
    ⟨none, Op.mapUpdate 59 (Operand.tmp 26) (Operand.tmp 28) (Operand.tmp 29), none⟩] [])
  (.seq (.ops [⟨some 30, Op.fieldAddr 40 (Operand.tmp 3) 0, none⟩,
    ⟨some 31, Op.load 2 (Operand.tmp 30), none⟩,
    ⟨some 4, Op.assign (Operand.tmp 31), none⟩,
    ⟨some 5, Op.assign (Operand.const (Value.int IntKind.i64 0)), none⟩])
  .ret))))))
theorem ir43_eq : (Try.f43.body.map low, Try.f43.ntmps, Try.f43.results.toList) = (some ir43, 32, [.tmp 4, .tmp 5]) := by kernel_rfl
def ir44 : LC := (.seq (.ops [⟨some 12, Op.assign (Operand.const (Value.int IntKind.i64 0)), none⟩,
    ⟨some 13, Op.assign (Operand.const (Value.int IntKind.i64 0)), none⟩])
  (.seq (.seq (.ops [⟨some 16, Op.move (Operand.tmp 0), none⟩,
    ⟨some 17, Op.call { callee := Callee.value (Operand.func 33), args := #[Operand.tmp 16], argTypes := #[24] }, none⟩,
    ⟨some 18, Op.move (Operand.tmp 17), none⟩,
    ⟨some 19, Op.move (Operand.tmp 3), some (18, true)⟩,
    ⟨some 20, Op.call { callee := Callee.value (Operand.func 34), args := #[Operand.tmp 19], argTypes := #[3] }, some (18, true)⟩,
    ⟨some 21, Op.unOp UnOp.not 4 (Operand.tmp 20), some (18, true)⟩,
    ⟨some 22, Op.move (Operand.tmp 21), some (18, true)⟩,
    ⟨some 23, Op.move (Operand.tmp 4), some (22, false)⟩,
    ⟨some 24, Op.call { callee := Callee.value (Operand.func 35), args := #[Operand.tmp 23], argTypes := #[3] }, some (22, false)⟩,
    ⟨some 25, Op.unOp UnOp.not 4 (Operand.tmp 24), some (22, false)⟩,
    ⟨some 26, Op.pick (Operand.tmp 22) (Operand.const (Value.bool true)) (Operand.tmp 25), some (18, true)⟩,
    ⟨some 27, Op.pick (Operand.tmp 18) (Operand.tmp 26) (Operand.const (Value.bool false)), none⟩])
  (.cond (Operand.tmp 27)
  (.seq (.ops [⟨some 12, Op.assign (Operand.const (Value.int IntKind.i64 0)), none⟩,
    ⟨some 13, Op.assign (Operand.const (Value.int IntKind.i64 2)), none⟩])
  .ret)
  .skip))
  (.seq (.ops [⟨some 29, Op.move (Operand.tmp 0), none⟩,
    ⟨some 30, Op.move (Operand.tmp 1), none⟩,
    ⟨some 31, Op.move (Operand.tmp 2), none⟩,
    ⟨some 32, Op.call { callee := Callee.value (Operand.func 41), args := #[Operand.tmp 29, Operand.tmp 30, Operand.tmp 31], argTypes := #[24, 3, 2] }, none⟩,
    ⟨some 28, Op.move (Operand.tmp 32), none⟩,
    ⟨some 33, Op.extract (Operand.tmp 28) 0, none⟩,
    ⟨some 34, Op.extract (Operand.tmp 28) 1, none⟩,
    ⟨some 14, Op.alloc 40, none⟩,
    ⟨none, Op.store 40 (Operand.tmp 14) (Operand.tmp 33), none⟩,
    ⟨some 15, Op.assign (Operand.tmp 34), none⟩])
  (.seq (.block 0 (.seq (.ops [⟨some 36, Op.move (Operand.tmp 15), none⟩,
    ⟨some 37, Op.binOp BinOp.neq 41 (Operand.tmp 36) (Operand.const (Value.int IntKind.i64 0)) 41, none⟩,
    ⟨some 35, Op.assign (Operand.tmp 37), none⟩])
  (.cond (Operand.tmp 35)
  (.seq (.ops [⟨some 38, Op.move (Operand.tmp 15), none⟩,
    ⟨some 12, Op.assign (Operand.const (Value.int IntKind.i64 0)), none⟩,
    ⟨some 13, Op.assign (Operand.tmp 38), none⟩])
  .ret)
  (.seq (.ops [⟨some 40, Op.move (Operand.tmp 4), none⟩,
    ⟨some 41, Op.fieldAddr 40 (Operand.tmp 14) 6, none⟩,
    ⟨some 42, Op.load 3 (Operand.tmp 41), none⟩,
    ⟨some 43, Op.binOp BinOp.andNot 3 (Operand.tmp 40) (Operand.tmp 42) 3, none⟩,
    ⟨some 44, Op.binOp BinOp.neq 3 (Operand.tmp 43) (Operand.const (Value.int IntKind.i64 0)) 3, none⟩,
    ⟨some 45, Op.move (Operand.tmp 44), none⟩,
    ⟨some 46, Op.move (Operand.tmp 5), some (45, false)⟩,
    ⟨some 47, Op.fieldAddr 40 (Operand.tmp 14) 6, some (45, false)⟩,
    ⟨some 48, Op.load 3 (Operand.tmp 47), some (45, false)⟩,
    ⟨some 49, Op.binOp BinOp.andNot 3 (Operand.tmp 46) (Operand.tmp 48) 3, some (45, false)⟩,
    ⟨some 50, Op.binOp BinOp.neq 3 (Operand.tmp 49) (Operand.const (Value.int IntKind.i64 0)) 3, some (45, false)⟩,
    ⟨some 51, Op.pick (Operand.tmp 45) (Operand.const (Value.bool true)) (Operand.tmp 50), none⟩,
    ⟨some 39, Op.assign (Operand.tmp 51), none⟩])
  (.cond (Operand.tmp 39)
  (.seq (.ops [⟨some 12, Op.assign (Operand.const (Value.int IntKind.i64 0)), none⟩,
    ⟨some 13, Op.assign (Operand.const (Value.int IntKind.i64 8)), none⟩])
  .ret)
  .skip)))))
  (.seq (.ops [⟨some 52, Op.move (Operand.tmp 0), none⟩,
    ⟨some 53, Op.move (Operand.tmp 2), none⟩,
    ⟨some 54, Op.move (Operand.tmp 3), none⟩,
    ⟨some 55, Op.move (Operand.tmp 1), none⟩,
    ⟨some 56, Op.fieldAddr 40 (Operand.tmp 14) 4, none⟩,
    ⟨some 57, Op.load 3 (Operand.tmp 56), none⟩,
    ⟨some 58, Op.fieldAddr 40 (Operand.tmp 14) 5, none⟩,
    ⟨some 59, Op.load 3 (Operand.tmp 58), none⟩,
    ⟨some 60, Op.move (Operand.tmp 4), none⟩,
    ⟨some 61, Op.build 40 #[(1, Operand.tmp 53), (2, Operand.tmp 54), (3, Operand.tmp 55), (4, Operand.tmp 57), (5, Operand.tmp 59), (6, Operand.tmp 60)], none⟩,
    ⟨some 62, Op.call { callee := Callee.value (Operand.func 43), args := #[Operand.tmp 52, Operand.tmp 61], argTypes := #[24, 40] }, none⟩,
    ⟨some 63, Op.extract (Operand.tmp 62) 0, none⟩,
    ⟨some 64, Op.extract (Operand.tmp 62) 1, none⟩,
    ⟨some 12, Op.assign (Operand.tmp 63), none⟩,
    ⟨some 13, Op.assign (Operand.tmp 64), none⟩])
  .ret)))))
theorem ir44_eq : (Try.f44.body.map low, Try.f44.ntmps, Try.f44.results.toList) = (some ir44, 65, [.tmp 12, .tmp 13]) := by kernel_rfl
def ir45 : LC := (.seq (.ops [⟨some 2, Op.assign (Operand.const (Value.map none)), none⟩])
  (.seq (.seq (.ops [⟨some 3, Op.move (Operand.tmp 0), none⟩,
    ⟨some 4, Op.binOp BinOp.eql 59 (Operand.tmp 3) (Operand.const (Value.map none)) 59, none⟩])
  (.cond (Operand.tmp 4)
  (.seq (.ops [⟨some 2, Op.assign (Operand.const (Value.map none)), none⟩])
  .ret)
  .skip))
  (.seq (.ops [⟨some 5, Op.move (Operand.tmp 0), none⟩,
    ⟨some 6, Op.makeInterface 59 (Operand.tmp 5), none⟩,
    ⟨some 7, Op.call { callee := Callee.value (Operand.func 56), args := #[Operand.tmp 6], argTypes := #[20] }, none⟩,
    ⟨some 8, Op.typeAssert (Operand.tmp 7) 20 59 false, none⟩,
    ⟨some 2, Op.assign (Operand.tmp 8), none⟩])
  .ret)))
theorem ir45_eq : (Try.f45.body.map low, Try.f45.ntmps, Try.f45.results.toList) = (some ir45, 9, [.tmp 2]) := by kernel_rfl
def ir46_l0 : LC := (.seq (.seq (.ops [⟨some 7, Op.move (Operand.tmp 6), none⟩,
    ⟨some 8, Op.move (Operand.tmp 0), none⟩,
    ⟨some 9, Op.nilCheck (Operand.tmp 8), none⟩,
    ⟨some 10, Op.fieldAddr 29 (Operand.tmp 9) 0, none⟩,
    ⟨some 11, Op.load 27 (Operand.tmp 10), none⟩,
    ⟨some 12, Op.call { callee := Callee.builtin Builtin.len, args := #[Operand.tmp 11], argTypes := #[27] }, none⟩,
    ⟨some 13, Op.binOp BinOp.lss 3 (Operand.tmp 7) (Operand.tmp 12) 3, none⟩])
  (.cond (Operand.tmp 13)
  .skip
  (.exit 0)))
  (.seq (.block 1 (.seq (.ops [⟨some 16, Op.move (Operand.tmp 0), none⟩,
    ⟨some 17, Op.nilCheck (Operand.tmp 16), none⟩,
    ⟨some 18, Op.fieldAddr 29 (Operand.tmp 17) 0, none⟩,
    ⟨some 19, Op.load 27 (Operand.tmp 18), none⟩,
    ⟨some 20, Op.move (Operand.tmp 6), none⟩,
    ⟨some 21, Op.indexAddr 27 (Operand.tmp 19) (Operand.tmp 20), none⟩,
    ⟨some 22, Op.fieldAddr 40 (Operand.tmp 21) 3, none⟩,
    ⟨some 23, Op.load 3 (Operand.tmp 22), none⟩,
    ⟨some 24, Op.move (Operand.tmp 1), none⟩,
    ⟨some 25, Op.binOp BinOp.eql 3 (Operand.tmp 23) (Operand.tmp 24) 3, none⟩])
  (.cond (Operand.tmp 25)
  (.ops [⟨some 26, Op.move (Operand.tmp 5), none⟩,
    ⟨some 27, Op.binOp BinOp.add 3 (Operand.tmp 26) (Operand.const (Value.int IntKind.i64 1)) 3, none⟩,
    ⟨some 5, Op.assign (Operand.tmp 27), none⟩])
  .skip)))
  (.ops [⟨some 14, Op.move (Operand.tmp 6), none⟩,
    ⟨some 15, Op.binOp BinOp.add 3 (Operand.tmp 14) (Operand.const (Value.int IntKind.i64 1)) 3, none⟩,
    ⟨some 6, Op.assign (Operand.tmp 15), none⟩])))
def ir46 : LC := (.seq (.ops [⟨some 4, Op.assign (Operand.const (Value.int IntKind.i64 0)), none⟩])
  (.seq (.ops [⟨some 5, Op.assign (Operand.const (Value.int IntKind.i64 0)), none⟩])
  (.seq (.seq (.ops [⟨some 6, Op.assign (Operand.const (Value.int IntKind.i64 0)), none⟩])
  (.block 0 (.loop ir46_l0)))
  (.seq (.ops [⟨some 28, Op.move (Operand.tmp 5), none⟩,
    ⟨some 4, Op.assign (Operand.tmp 28), none⟩])
  .ret))))
theorem ir46_eq : (Try.f46.body.map low, Try.f46.ntmps, Try.f46.results.toList) = (some ir46, 29, [.tmp 4]) := by kernel_rfl
def ir47_l0 : LC := (.seq (.seq (.ops [⟨some 8, Op.move (Operand.tmp 2), none⟩,
    ⟨some 9, Op.move (Operand.tmp 1), none⟩,
    ⟨some 10, Op.binOp BinOp.neq 2 (Operand.tmp 8) (Operand.tmp 9) 2, none⟩])
  (.cond (Operand.tmp 10)
  .skip
  (.exit 0)))
  (.block 1 (.seq (.ops [⟨some 11, Op.move (Operand.tmp 0), none⟩,
    ⟨some 12, Op.move (Operand.tmp 2), none⟩,
    ⟨some 13, Op.call { callee := Callee.value (Operand.func 51), args := #[Operand.tmp 11, Operand.tmp 12], argTypes := #[26, 2] }, none⟩,
    ⟨some 7, Op.assign (Operand.tmp 13), none⟩])
  (.seq (.seq (.ops [⟨some 14, Op.move (Operand.tmp 7), none⟩,
    ⟨some 15, Op.binOp BinOp.lss 3 (Operand.tmp 14) (Operand.const (Value.int IntKind.i64 0)) 3, none⟩])
  (.cond (Operand.tmp 15)
  (.seq (.ops [⟨some 6, Op.assign (Operand.const (Value.bool false)), none⟩])
  .ret)
  .skip))
  (.ops [⟨some 16, Op.move (Operand.tmp 0), none⟩,
    ⟨some 17, Op.nilCheck (Operand.tmp 16), none⟩,
    ⟨some 18, Op.fieldAddr 29 (Operand.tmp 17) 0, none⟩,
    ⟨some 19, Op.load 27 (Operand.tmp 18), none⟩,
    ⟨some 20, Op.move (Operand.tmp 7), none⟩,
    ⟨some 21, Op.indexAddr 27 (Operand.tmp 19) (Operand.tmp 20), none⟩,
    ⟨some 22, Op.fieldAddr 40 (Operand.tmp 21) 1, none⟩,
    ⟨some 23, Op.load 2 (Operand.tmp 22), none⟩,
    ⟨some 2, Op.assign (Operand.tmp 23), none⟩])))))
def ir47 : LC := (.seq (.ops [⟨some 6, Op.assign (Operand.const (Value.bool false)), none⟩])
  (.seq (.block 0 (.loop ir47_l0))
  (.seq (.ops [⟨some 6, Op.assign (Operand.const (Value.bool true)), none⟩])
  .ret)))
theorem ir47_eq : (Try.f47.body.map low, Try.f47.ntmps, Try.f47.results.toList) = (some ir47, 24, [.tmp 6]) := by kernel_rfl
def ir48 : LC := (.seq (.ops [⟨some 2, Op.assign (Operand.const (Value.bool false)), none⟩])
  (.seq (.ops [⟨some 3, Op.move (Operand.tmp 0), none⟩,
    ⟨some 4, Op.binOp BinOp.geq 3 (Operand.tmp 3) (Operand.const (Value.int IntKind.i64 0)) 3, none⟩,
    ⟨some 5, Op.move (Operand.tmp 4), none⟩,
    ⟨some 6, Op.move (Operand.tmp 0), some (5, true)⟩,
    ⟨some 7, Op.binOp BinOp.lss 3 (Operand.tmp 6) (Operand.const (Value.int IntKind.i64 8)) 3, some (5, true)⟩,
    ⟨some 8, Op.pick (Operand.tmp 5) (Operand.tmp 7) (Operand.const (Value.bool false)), none⟩,
    ⟨some 2, Op.assign (Operand.tmp 8), none⟩])
  .ret))
theorem ir48_eq : (Try.f48.body.map low, Try.f48.ntmps, Try.f48.results.toList) = (some ir48, 9, [.tmp 2]) := by kernel_rfl
def ir49 : LC := (.seq (.ops [⟨some 3, Op.box 40 (Operand.tmp 1), none⟩,
    ⟨some 4, Op.assign (Operand.const (Value.int IntKind.i64 0)), none⟩,
    ⟨some 5, Op.assign (Operand.const (Value.int IntKind.i64 0)), none⟩])
  (.seq (.seq (.ops [⟨some 6, Op.move (Operand.tmp 0), none⟩,
    ⟨some 7, Op.fieldAddr 40 (Operand.tmp 3) 3, none⟩,
    ⟨some 8, Op.load 3 (Operand.tmp 7), none⟩,
    ⟨some 9, Op.call { callee := Callee.value (Operand.func 46), args := #[Operand.tmp 6, Operand.tmp 8], argTypes := #[26, 3] }, none⟩,
    ⟨some 10, Op.binOp BinOp.geq 3 (Operand.tmp 9) (Operand.const (Value.int IntKind.i64 32)) 3, none⟩])
  (.cond (Operand.tmp 10)
  (.seq (.ops [⟨some 4, Op.assign (Operand.const (Value.int IntKind.i64 0)), none⟩,
    ⟨some 5, Op.assign (Operand.const (Value.int IntKind.i64 5)), none⟩])
  .ret)
  .skip))
  (.seq (.ops [⟨some 11, Op.move (Operand.tmp 0), none⟩,
    ⟨some 12, Op.nilCheck (Operand.tmp 11), none⟩,
    ⟨some 13, Op.fieldAddr 29 (Operand.tmp 12) 1, none⟩,
    ⟨some 14, Op.load 2 (Operand.tmp 13), none⟩,
    ⟨some 15, Op.binOp BinOp.add 2 (Operand.tmp 14) (Operand.const (Value.int IntKind.i64 1)) 2, none⟩,
    ⟨some 16, Op.nilCheck (Operand.tmp 11), none⟩,
    ⟨some 17, Op.fieldAddr 29 (Operand.tmp 16) 1, none⟩,
    ⟨none, Op.store 2 (Operand.tmp 17) (Operand.tmp 15), none⟩])
  (.seq (.ops [⟨some 18, Op.move (Operand.tmp 0), none⟩,
    ⟨some 19, Op.nilCheck (Operand.tmp 18), none⟩,
    ⟨some 20, Op.fieldAddr 29 (Operand.tmp 19) 1, none⟩,
    ⟨some 21, Op.load 2 (Operand.tmp 20), none⟩,
    ⟨some 22, Op.fieldAddr 40 (Operand.tmp 3) 0, none⟩,
    ⟨none, Op.store 2 (Operand.tmp 22) (Operand.tmp 21), none⟩])
  (.seq (.draw [⟨some 23, Op.move (Operand.tmp 0), none⟩,
    ⟨some 24, Op.move (Operand.tmp 0), none⟩,
    ⟨some 25, Op.nilCheck (Operand.tmp 24), none⟩,
    ⟨some 26, Op.fieldAddr 29 (Operand.tmp 25) 0, none⟩,
    ⟨some 27, Op.load 27 (Operand.tmp 26), none⟩,
    ⟨some 28, Op.load 40 (Operand.tmp 3), none⟩,
    ⟨some 29, Op.buildSlice 27 1 #[(0, Operand.tmp 28)], none⟩,
    ⟨some 30, Op.call { callee := Callee.builtin Builtin.append, args := #[Operand.tmp 27, Operand.tmp 29], argTypes := #[27, 27] }, none⟩,
    ⟨some 31, Op.nilCheck (Operand.tmp 23), none⟩,
    ⟨some 32, Op.fieldAddr 29 (Operand.tmp 31) 0, none⟩,
    ⟨none, Op.store 27 (Operand.tmp 32) (Operand.tmp 30), none⟩] [(0, 6), (1, 6), (2, 6), (3, 6), (4, 6), (0, 7)])
  (.seq (.ops [⟨some 33, Op.fieldAddr 40 (Operand.tmp 3) 0, none⟩,
    ⟨some 34, Op.load 2 (Operand.tmp 33), none⟩,
    ⟨some 4, Op.assign (Operand.tmp 34), none⟩,
    ⟨some 5, Op.assign (Operand.const (Value.int IntKind.i64 0)), none⟩])
  .ret))))))
theorem ir49_eq : (Try.f49.body.map low, Try.f49.ntmps, Try.f49.results.toList) = (some ir49, 35, [.tmp 4, .tmp 5]) := by kernel_rfl
def ir50 : LC := (.seq (.ops [⟨some 6, Op.assign (Operand.const (Value.bool false)), none⟩])
  (.seq (.ops [⟨some 8, Op.move (Operand.tmp 0), none⟩,
    ⟨some 9, Op.move (Operand.tmp 2), none⟩,
    ⟨some 10, Op.call { callee := Callee.value (Operand.func 51), args := #[Operand.tmp 8, Operand.tmp 9], argTypes := #[26, 2] }, none⟩,
    ⟨some 7, Op.assign (Operand.tmp 10), none⟩])
  (.seq (.ops [⟨some 11, Op.move (Operand.tmp 7), none⟩,
    ⟨some 12, Op.binOp BinOp.geq 3 (Operand.tmp 11) (Operand.const (Value.int IntKind.i64 0)) 3, none⟩,
    ⟨some 13, Op.move (Operand.tmp 12), none⟩,
    ⟨some 14, Op.move (Operand.tmp 0), some (13, true)⟩,
    ⟨some 15, Op.nilCheck (Operand.tmp 14), some (13, true)⟩,
    ⟨some 16, Op.fieldAddr 29 (Operand.tmp 15) 0, some (13, true)⟩,
    ⟨some 17, Op.load 27 (Operand.tmp 16), some (13, true)⟩,
    ⟨some 18, Op.move (Operand.tmp 7), some (13, true)⟩,
    ⟨some 19, Op.indexAddr 27 (Operand.tmp 17) (Operand.tmp 18), some (13, true)⟩,
    ⟨some 20, Op.fieldAddr 40 (Operand.tmp 19) 2, some (13, true)⟩,
    ⟨some 21, Op.load 3 (Operand.tmp 20), some (13, true)⟩,
    ⟨some 22, Op.move (Operand.tmp 1), some (13, true)⟩,
    ⟨some 23, Op.binOp BinOp.eql 3 (Operand.tmp 21) (Operand.tmp 22) 3, some (13, true)⟩,
    ⟨some 24, Op.pick (Operand.tmp 13) (Operand.tmp 23) (Operand.const (Value.bool false)), none⟩,
    ⟨some 6, Op.assign (Operand.tmp 24), none⟩])
  .ret)))
theorem ir50_eq : (Try.f50.body.map low, Try.f50.ntmps, Try.f50.results.toList) = (some ir50, 25, [.tmp 6]) := by kernel_rfl
def ir51_l0 : LC := (.seq (.seq (.ops [⟨some 6, Op.move (Operand.tmp 5), none⟩,
    ⟨some 7, Op.move (Operand.tmp 0), none⟩,
    ⟨some 8, Op.nilCheck (Operand.tmp 7), none⟩,
    ⟨some 9, Op.fieldAddr 29 (Operand.tmp 8) 0, none⟩,
    ⟨some 10, Op.load 27 (Operand.tmp 9), none⟩,
    ⟨some 11, Op.call { callee := Callee.builtin Builtin.len, args := #[Operand.tmp 10], argTypes := #[27] }, none⟩,
    ⟨some 12, Op.binOp BinOp.lss 3 (Operand.tmp 6) (Operand.tmp 11) 3, none⟩])
  (.cond (Operand.tmp 12)
  .skip
  (.exit 0)))
  (.seq (.block 1 (.seq (.ops [⟨some 15, Op.move (Operand.tmp 0), none⟩,
    ⟨some 16, Op.nilCheck (Operand.tmp 15), none⟩,
    ⟨some 17, Op.fieldAddr 29 (Operand.tmp 16) 0, none⟩,
    ⟨some 18, Op.load 27 (Operand.tmp 17), none⟩,
    ⟨some 19, Op.move (Operand.tmp 5), none⟩,
    ⟨some 20, Op.indexAddr 27 (Operand.tmp 18) (Operand.tmp 19), none⟩,
    ⟨some 21, Op.fieldAddr 40 (Operand.tmp 20) 0, none⟩,
    ⟨some 22, Op.load 2 (Operand.tmp 21), none⟩,
    ⟨some 23, Op.move (Operand.tmp 1), none⟩,
    ⟨some 24, Op.binOp BinOp.eql 2 (Operand.tmp 22) (Operand.tmp 23) 2, none⟩])
  (.cond (Operand.tmp 24)
  (.seq (.ops [⟨some 25, Op.move (Operand.tmp 5), none⟩,
    ⟨some 4, Op.assign (Operand.tmp 25), none⟩])
  .ret)
  .skip)))
  (.ops [⟨some 13, Op.move (Operand.tmp 5), none⟩,
    ⟨some 14, Op.binOp BinOp.add 3 (Operand.tmp 13) (Operand.const (Value.int IntKind.i64 1)) 3, none⟩,
    ⟨some 5, Op.assign (Operand.tmp 14), none⟩])))
def ir51 : LC := (.seq (.ops [⟨some 4, Op.assign (Operand.const (Value.int IntKind.i64 0)), none⟩])
  (.seq (.seq (.ops [⟨some 5, Op.assign (Operand.const (Value.int IntKind.i64 0)), none⟩])
  (.block 0 (.loop ir51_l0)))
  (.seq (.ops [⟨some 4, Op.assign (Operand.const (Value.int IntKind.i64 (-1))), none⟩])
  .ret)))
theorem ir51_eq : (Try.f51.body.map low, Try.f51.ntmps, Try.f51.results.toList) = (some ir51, 26, [.tmp 4]) := by kernel_rfl
def ir52 : LC := (.seq (.ops [⟨some 2, Op.assign (Operand.const (Value.slice none 0 0)), none⟩])
  (.seq (.ops [⟨some 3, Op.move (Operand.tmp 0), none⟩,
    ⟨some 4, Op.call { callee := Callee.value (Operand.func 57), args := #[Operand.const (Value.slice none 0 0), Operand.tmp 3], argTypes := #[45, 76] }, none⟩,
    ⟨some 2, Op.assign (Operand.tmp 4), none⟩])
  .ret))
theorem ir52_eq : (Try.f52.body.map low, Try.f52.ntmps, Try.f52.results.toList) = (some ir52, 5, [.tmp 2]) := by kernel_rfl
def ir53 : LC := (.seq (.ops [⟨some 3, Op.move (Operand.tmp 0), none⟩,
    ⟨some 4, Op.call { callee := Callee.builtin Builtin.len, args := #[Operand.tmp 3], argTypes := #[45] }, none⟩,
    ⟨some 2, Op.assign (Operand.tmp 4), none⟩])
  (.ops [⟨some 5, Op.move (Operand.tmp 0), none⟩,
    ⟨some 6, Op.move (Operand.tmp 2), none⟩,
    ⟨some 7, Op.move (Operand.tmp 2), none⟩,
    ⟨some 8, Op.convert 3 95 (Operand.tmp 7), none⟩,
    ⟨some 9, Op.call { callee := Callee.value (Operand.func 59), args := #[Operand.tmp 8], argTypes := #[95] }, none⟩,
    ⟨some 10, Op.call { callee := Callee.value (Operand.func 58), args := #[Operand.tmp 5, Operand.const (Value.int IntKind.i64 0), Operand.tmp 6, Operand.tmp 9], argTypes := #[45, 3, 3, 3] }, none⟩]))
theorem ir53_eq : (Try.f53.body.map low, Try.f53.ntmps, Try.f53.results.toList) = (some ir53, 11, []) := by kernel_rfl
def ir54_l0 : LC := (.seq (.ops [⟨some 6, Op.next (Operand.tmp 5) false, none⟩,
    ⟨some 7, Op.extract (Operand.tmp 6) 0, none⟩])
  (.seq (.cond (Operand.tmp 7)
  .skip
  (.exit 0))
  (.block 1 (.seq (.ops [⟨some 8, Op.entry (Operand.tmp 5), none⟩,
    ⟨some 9, Op.extract (Operand.tmp 8) 0, none⟩,
    ⟨some 3, Op.assign (Operand.tmp 9), none⟩])
  (.seq (.ops [⟨some 10, Op.move (Operand.tmp 0), none⟩,
    ⟨some 11, Op.move (Operand.tmp 3), none⟩,
    ⟨some 12, Op.call { callee := Callee.value (Operand.tmp 10), args := #[Operand.tmp 11], argTypes := #[2] }, none⟩,
    ⟨some 13, Op.unOp UnOp.not 4 (Operand.tmp 12), none⟩])
  (.cond (Operand.tmp 13)
  .ret
  .skip))))))
def ir54 : LC := (.seq (.ops [⟨some 4, Op.load 59 (Operand.tmp 1), none⟩,
    ⟨some 5, Op.range 59 (Operand.tmp 4), none⟩])
  (.block 0 (.loop ir54_l0)))
theorem ir54_eq : (Try.f54.body.map low, Try.f54.ntmps, Try.f54.results.toList) = (some ir54, 14, []) := by kernel_rfl
def ir55_l0 : LC := (.seq (.ops [⟨some 17, Op.binOp BinOp.lss 3 (Operand.tmp 16) (Operand.tmp 15) 3, none⟩])
  (.seq (.cond (Operand.tmp 17)
  .skip
  (.exit 0))
  (.seq (.block 1 (.seq (.ops [⟨some 18, Op.indexAddr 45 (Operand.tmp 14) (Operand.tmp 16), none⟩,
    ⟨some 19, Op.load 2 (Operand.tmp 18), none⟩,
    ⟨some 6, Op.assign (Operand.tmp 19), none⟩])
  (.seq (.ops [⟨some 21, Op.load 24 (Operand.tmp 1), none⟩,
    ⟨some 22, Op.nilCheck (Operand.tmp 21), none⟩,
    ⟨some 23, Op.fieldAddr 61 (Operand.tmp 22) 0, none⟩,
    ⟨some 24, Op.load 59 (Operand.tmp 23), none⟩,
    ⟨some 25, Op.move (Operand.tmp 6), none⟩,
    ⟨some 26, Op.lookup 59 (Operand.tmp 24) (Operand.tmp 25) true, none⟩,
    ⟨some 20, Op.move (Operand.tmp 26), none⟩,
    ⟨some 27, Op.extract (Operand.tmp 20) 0, none⟩,
    ⟨some 28, Op.extract (Operand.tmp 20) 1, none⟩,
    ⟨some 7, Op.alloc 40, none⟩,
    ⟨none, Op.store 40 (Operand.tmp 7) (Operand.tmp 27), none⟩,
    ⟨some 8, Op.assign (Operand.tmp 28), none⟩])
  (.seq (.ops [⟨some 29, Op.move (Operand.tmp 8), none⟩,
    ⟨some 30, Op.move (Operand.tmp 29), none⟩,
    ⟨some 31, Op.fieldAddr 40 (Operand.tmp 7) 1, some (30, true)⟩,
    ⟨some 32, Op.load 2 (Operand.tmp 31), some (30, true)⟩,
    ⟨some 33, Op.move (Operand.tmp 0), some (30, true)⟩,
    ⟨some 34, Op.binOp BinOp.eql 2 (Operand.tmp 32) (Operand.tmp 33) 2, some (30, true)⟩,
    ⟨some 35, Op.pick (Operand.tmp 30) (Operand.tmp 34) (Operand.const (Value.bool false)), none⟩])
  (.cond (Operand.tmp 35)
  (.seq (.ops [⟨some 36, Op.load 24 (Operand.tmp 1), none⟩,
    ⟨some 37, Op.nilCheck (Operand.tmp 36), none⟩,
    ⟨some 38, Op.fieldAddr 61 (Operand.tmp 37) 0, none⟩,
    ⟨some 39, Op.load 59 (Operand.tmp 38), none⟩,
    ⟨some 40, Op.move (Operand.tmp 6), none⟩,
    ⟨none, Op.call { callee := Callee.builtin Builtin.delete, args := #[Operand.tmp 39, Operand.tmp 40], argTypes := #[59, 2] }, none⟩])
  (.seq (.ops [⟨some 41, Op.load 3 (Operand.tmp 2), none⟩,
    ⟨some 42, Op.binOp BinOp.add 3 (Operand.tmp 41) (Operand.const (Value.int IntKind.i64 1)) 3, none⟩,
    ⟨none, Op.store 3 (Operand.tmp 2) (Operand.tmp 42), none⟩])
  (.ops [⟨some 43, Op.load 90 (Operand.tmp 3), none⟩,
    ⟨some 44, Op.move (Operand.tmp 6), none⟩,
    ⟨some 45, Op.call { callee := Callee.value (Operand.tmp 43), args := #[Operand.tmp 44], argTypes := #[2] }, none⟩])))
  .skip)))))
  (.ops [⟨some 46, Op.binOp BinOp.add 3 (Operand.tmp 16) (Operand.const (Value.int IntKind.i64 1)) 3, none⟩,
    ⟨some 16, Op.move (Operand.tmp 46), none⟩]))))
def ir55 : LC := (.seq (.ops [⟨some 9, Op.load 24 (Operand.tmp 1), none⟩,
    ⟨some 10, Op.nilCheck (Operand.tmp 9), none⟩,
    ⟨some 11, Op.fieldAddr 61 (Operand.tmp 10) 0, none⟩,
    ⟨some 12, Op.load 59 (Operand.tmp 11), none⟩,
    ⟨some 13, Op.call { callee := Callee.value (Operand.func 39), args := #[Operand.tmp 12], argTypes := #[59] }, none⟩,
    ⟨some 14, Op.call { callee := Callee.value (Operand.func 38), args := #[Operand.tmp 13], argTypes := #[76] }, none⟩,
    ⟨some 15, Op.call { callee := Callee.builtin Builtin.len, args := #[Operand.tmp 14], argTypes := #[45] }, none⟩,
    ⟨some 16, Op.move (Operand.const (Value.int IntKind.i64 0)), none⟩])
  (.block 0 (.loop ir55_l0)))
theorem ir55_eq : (Try.f55.body.map low, Try.f55.ntmps, Try.f55.results.toList) = (some ir55, 47, []) := by kernel_rfl
noncomputable def rc57 (i : Nat) : Code × Code := (((Try.f57.body.map rangesOf).getD [])[i]?).getD (.skip, .skip)
noncomputable def ir57_a0 : LC := (.ops [⟨some 5, Op.assign (Operand.tmp 7), none⟩])
noncomputable def ir57_b0 : LC := (.block 1 (.ops [⟨some 8, Op.load 45 (Operand.tmp 2), none⟩,
    ⟨some 9, Op.move (Operand.tmp 5), none⟩,
    ⟨some 10, Op.buildSlice 45 1 #[(0, Operand.tmp 9)], none⟩,
    ⟨some 11, Op.call { callee := Callee.builtin Builtin.append, args := #[Operand.tmp 8, Operand.tmp 10], argTypes := #[45, 45] }, none⟩,
    ⟨none, Op.store 45 (Operand.tmp 2) (Operand.tmp 11), none⟩]))
theorem ir57_a0_eq : low (rc57 0).1 = ir57_a0 := by kernel_rfl
theorem ir57_b0_eq : low (rc57 0).2 = ir57_b0 := by kernel_rfl
noncomputable def ir57 : LC := (.seq (.ops [⟨some 2, Op.box 45 (Operand.tmp 0), none⟩,
    ⟨some 4, Op.assign (Operand.const (Value.slice none 0 0)), none⟩])
  (.seq (.seq (.ops [⟨some 6, Op.move (Operand.tmp 1), none⟩])
  (.block 0 (.range (Operand.tmp 6) #[7] (rc57 0).1 (rc57 0).2)))
  (.seq (.ops [⟨some 12, Op.load 45 (Operand.tmp 2), none⟩,
    ⟨some 4, Op.assign (Operand.tmp 12), none⟩])
  .ret)))
theorem ir57_eq : (Try.f57.body.map low, Try.f57.ntmps, Try.f57.results.toList) = (some ir57, 13, [.tmp 4]) := by kernel_rfl
def ir58_l0 : LC := (.block 1 (.seq (.ops [⟨some 19, Op.move (Operand.tmp 2), none⟩,
    ⟨some 20, Op.move (Operand.tmp 1), none⟩,
    ⟨some 21, Op.binOp BinOp.sub 3 (Operand.tmp 19) (Operand.tmp 20) 3, none⟩,
    ⟨some 10, Op.assign (Operand.tmp 21), none⟩])
  (.seq (.seq (.ops [⟨some 22, Op.move (Operand.tmp 10), none⟩,
    ⟨some 23, Op.binOp BinOp.leq 3 (Operand.tmp 22) (Operand.const (Value.int IntKind.i64 12)) 3, none⟩])
  (.cond (Operand.tmp 23)
  (.seq (.ops [⟨some 24, Op.move (Operand.tmp 0), none⟩,
    ⟨some 25, Op.move (Operand.tmp 1), none⟩,
    ⟨some 26, Op.move (Operand.tmp 2), none⟩,
    ⟨some 27, Op.call { callee := Callee.value (Operand.func 60), args := #[Operand.tmp 24, Operand.tmp 25, Operand.tmp 26], argTypes := #[45, 3, 3] }, none⟩])
  .ret)
  .skip))
  (.seq (.seq (.ops [⟨some 28, Op.move (Operand.tmp 3), none⟩,
    ⟨some 29, Op.binOp BinOp.eql 3 (Operand.tmp 28) (Operand.const (Value.int IntKind.i64 0)) 3, none⟩])
  (.cond (Operand.tmp 29)
  (.seq (.ops [⟨some 30, Op.move (Operand.tmp 0), none⟩,
    ⟨some 31, Op.move (Operand.tmp 1), none⟩,
    ⟨some 32, Op.move (Operand.tmp 2), none⟩,
    ⟨some 33, Op.call { callee := Callee.value (Operand.func 61), args := #[Operand.tmp 30, Operand.tmp 31, Operand.tmp 32], argTypes := #[45, 3, 3] }, none⟩])
  .ret)
  .skip))
  (.seq (.seq (.ops [⟨some 34, Op.move (Operand.tmp 8), none⟩,
    ⟨some 35, Op.unOp UnOp.not 4 (Operand.tmp 34), none⟩])
  (.cond (Operand.tmp 35)
  (.seq (.ops [⟨some 36, Op.move (Operand.tmp 0), none⟩,
    ⟨some 37, Op.move (Operand.tmp 1), none⟩,
    ⟨some 38, Op.move (Operand.tmp 2), none⟩,
    ⟨some 39, Op.call { callee := Callee.value (Operand.func 62), args := #[Operand.tmp 36, Operand.tmp 37, Operand.tmp 38], argTypes := #[45, 3, 3] }, none⟩])
  (.ops [⟨some 40, Op.move (Operand.tmp 3), none⟩,
    ⟨some 41, Op.binOp BinOp.sub 3 (Operand.tmp 40) (Operand.const (Value.int IntKind.i64 1)) 3, none⟩,
    ⟨some 3, Op.assign (Operand.tmp 41), none⟩]))
  .skip))
  (.seq (.ops [⟨some 43, Op.move (Operand.tmp 0), none⟩,
    ⟨some 44, Op.move (Operand.tmp 1), none⟩,
    ⟨some 45, Op.move (Operand.tmp 2), none⟩,
    ⟨some 46, Op.call { callee := Callee.value (Operand.func 63), args := #[Operand.tmp 43, Operand.tmp 44, Operand.tmp 45], argTypes := #[45, 3, 3] }, none⟩,
    ⟨some 42, Op.move (Operand.tmp 46), none⟩,
    ⟨some 47, Op.extract (Operand.tmp 42) 0, none⟩,
    ⟨some 48, Op.extract (Operand.tmp 42) 1, none⟩,
    ⟨some 11, Op.assign (Operand.tmp 47), none⟩,
    ⟨some 12, Op.assign (Operand.tmp 48), none⟩])
  (.seq (.seq (.ops [⟨some 49, Op.move (Operand.tmp 12), none⟩,
    ⟨some 50, Op.binOp BinOp.eql 97 (Operand.tmp 49) (Operand.const (Value.int IntKind.i64 2)) 97, none⟩])
  (.cond (Operand.tmp 50)
  (.seq (.ops [⟨some 51, Op.move (Operand.tmp 0), none⟩,
    ⟨some 52, Op.move (Operand.tmp 1), none⟩,
    ⟨some 53, Op.move (Operand.tmp 2), none⟩,
    ⟨some 54, Op.call { callee := Callee.value (Operand.func 64), args := #[Operand.tmp 51, Operand.tmp 52, Operand.tmp 53], argTypes := #[45, 3, 3] }, none⟩])
  (.seq (.ops [⟨some 55, Op.move (Operand.tmp 2), none⟩,
    ⟨some 56, Op.binOp BinOp.sub 3 (Operand.tmp 55) (Operand.const (Value.int IntKind.i64 1)) 3, none⟩,
    ⟨some 57, Op.move (Operand.tmp 11), none⟩,
    ⟨some 58, Op.move (Operand.tmp 1), none⟩,
    ⟨some 59, Op.binOp BinOp.sub 3 (Operand.tmp 57) (Operand.tmp 58) 3, none⟩,
    ⟨some 60, Op.binOp BinOp.sub 3 (Operand.tmp 56) (Operand.tmp 59) 3, none⟩,
    ⟨some 11, Op.assign (Operand.tmp 60), none⟩])
  (.ops [⟨some 12, Op.assign (Operand.const (Value.int IntKind.i64 1)), none⟩])))
  .skip))
  (.seq (.seq (.ops [⟨some 61, Op.move (Operand.tmp 8), none⟩,
    ⟨some 62, Op.move (Operand.tmp 61), none⟩,
    ⟨some 63, Op.move (Operand.tmp 9), some (62, true)⟩,
    ⟨some 64, Op.pick (Operand.tmp 62) (Operand.tmp 63) (Operand.const (Value.bool false)), none⟩,
    ⟨some 65, Op.move (Operand.tmp 64), none⟩,
    ⟨some 66, Op.move (Operand.tmp 12), some (65, true)⟩,
    ⟨some 67, Op.binOp BinOp.eql 97 (Operand.tmp 66) (Operand.const (Value.int IntKind.i64 1)) 97, some (65, true)⟩,
    ⟨some 68, Op.pick (Operand.tmp 65) (Operand.tmp 67) (Operand.const (Value.bool false)), none⟩])
  (.cond (Operand.tmp 68)
  (.seq (.ops [⟨some 69, Op.move (Operand.tmp 0), none⟩,
    ⟨some 70, Op.move (Operand.tmp 1), none⟩,
    ⟨some 71, Op.move (Operand.tmp 2), none⟩,
    ⟨some 72, Op.call { callee := Callee.value (Operand.func 65), args := #[Operand.tmp 69, Operand.tmp 70, Operand.tmp 71], argTypes := #[45, 3, 3] }, none⟩])
  (.cond (Operand.tmp 72)
  .ret
  .skip))
  .skip))
  (.seq (.seq (.draw [⟨some 73, Op.move (Operand.tmp 1), none⟩,
    ⟨some 74, Op.binOp BinOp.gtr 3 (Operand.tmp 73) (Operand.const (Value.int IntKind.i64 0)) 3, none⟩,
    ⟨some 75, Op.move (Operand.tmp 74), none⟩,
    ⟨some 76, Op.move (Operand.tmp 0), some (75, true)⟩,
    ⟨some 77, Op.move (Operand.tmp 1), some (75, true)⟩,
    ⟨some 78, Op.binOp BinOp.sub 3 (Operand.tmp 77) (Operand.const (Value.int IntKind.i64 1)) 3, some (75, true)⟩,
    ⟨some 79, Op.indexAddr 45 (Operand.tmp 76) (Operand.tmp 78), some (75, true)⟩,
    ⟨some 80, Op.load 2 (Operand.tmp 79), some (75, true)⟩,
    ⟨some 81, Op.move (Operand.tmp 0), some (75, true)⟩,
    ⟨some 82, Op.move (Operand.tmp 11), some (75, true)⟩,
    ⟨some 83, Op.indexAddr 45 (Operand.tmp 81) (Operand.tmp 82), some (75, true)⟩,
    ⟨some 84, Op.load 2 (Operand.tmp 83), some (75, true)⟩,
    ⟨some 85, Op.call { callee := Callee.value (Operand.func 66), args := #[Operand.tmp 80, Operand.tmp 84], argTypes := #[2, 2] }, some (75, true)⟩,
    ⟨some 86, Op.unOp UnOp.not 4 (Operand.tmp 85), some (75, true)⟩,
    ⟨some 87, Op.pick (Operand.tmp 75) (Operand.tmp 86) (Operand.const (Value.bool false)), none⟩] [])
  (.cond (Operand.tmp 87)
  (.seq (.ops [⟨some 88, Op.move (Operand.tmp 0), none⟩,
    ⟨some 89, Op.move (Operand.tmp 1), none⟩,
    ⟨some 90, Op.move (Operand.tmp 2), none⟩,
    ⟨some 91, Op.move (Operand.tmp 11), none⟩,
    ⟨some 92, Op.call { callee := Callee.value (Operand.func 67), args := #[Operand.tmp 88, Operand.tmp 89, Operand.tmp 90, Operand.tmp 91], argTypes := #[45, 3, 3, 3] }, none⟩,
    ⟨some 13, Op.assign (Operand.tmp 92), none⟩])
  (.seq (.ops [⟨some 93, Op.move (Operand.tmp 13), none⟩,
    ⟨some 1, Op.assign (Operand.tmp 93), none⟩])
  (.exit 1)))
  .skip))
  (.seq (.ops [⟨some 95, Op.move (Operand.tmp 0), none⟩,
    ⟨some 96, Op.move (Operand.tmp 1), none⟩,
    ⟨some 97, Op.move (Operand.tmp 2), none⟩,
    ⟨some 98, Op.move (Operand.tmp 11), none⟩,
    ⟨some 99, Op.call { callee := Callee.value (Operand.func 68), args := #[Operand.tmp 95, Operand.tmp 96, Operand.tmp 97, Operand.tmp 98], argTypes := #[45, 3, 3, 3] }, none⟩,
    ⟨some 94, Op.move (Operand.tmp 99), none⟩,
    ⟨some 100, Op.extract (Operand.tmp 94) 0, none⟩,
    ⟨some 101, Op.extract (Operand.tmp 94) 1, none⟩,
    ⟨some 14, Op.assign (Operand.tmp 100), none⟩,
    ⟨some 15, Op.assign (Operand.tmp 101), none⟩])
  (.seq (.ops [⟨some 102, Op.move (Operand.tmp 15), none⟩,
    ⟨some 9, Op.assign (Operand.tmp 102), none⟩])
  (.seq (.ops [⟨some 103, Op.move (Operand.tmp 14), none⟩,
    ⟨some 104, Op.move (Operand.tmp 1), none⟩,
    ⟨some 105, Op.binOp BinOp.sub 3 (Operand.tmp 103) (Operand.tmp 104) 3, none⟩,
    ⟨some 106, Op.move (Operand.tmp 2), none⟩,
    ⟨some 107, Op.move (Operand.tmp 14), none⟩,
    ⟨some 108, Op.binOp BinOp.sub 3 (Operand.tmp 106) (Operand.tmp 107) 3, none⟩,
    ⟨some 16, Op.assign (Operand.tmp 105), none⟩,
    ⟨some 17, Op.assign (Operand.tmp 108), none⟩])
  (.seq (.ops [⟨some 109, Op.move (Operand.tmp 10), none⟩,
    ⟨some 110, Op.binOp BinOp.quo 3 (Operand.tmp 109) (Operand.const (Value.int IntKind.i64 8)) 3, none⟩,
    ⟨some 18, Op.assign (Operand.tmp 110), none⟩])
  (.seq (.ops [⟨some 111, Op.move (Operand.tmp 16), none⟩,
    ⟨some 112, Op.move (Operand.tmp 17), none⟩,
    ⟨some 113, Op.binOp BinOp.lss 3 (Operand.tmp 111) (Operand.tmp 112) 3, none⟩])
  (.cond (Operand.tmp 113)
  (.seq (.ops [⟨some 114, Op.move (Operand.tmp 16), none⟩,
    ⟨some 115, Op.move (Operand.tmp 18), none⟩,
    ⟨some 116, Op.binOp BinOp.geq 3 (Operand.tmp 114) (Operand.tmp 115) 3, none⟩,
    ⟨some 8, Op.assign (Operand.tmp 116), none⟩])
  (.seq (.ops [⟨some 117, Op.move (Operand.tmp 0), none⟩,
    ⟨some 118, Op.move (Operand.tmp 1), none⟩,
    ⟨some 119, Op.move (Operand.tmp 14), none⟩,
    ⟨some 120, Op.move (Operand.tmp 3), none⟩,
    ⟨some 121, Op.call { callee := Callee.value (Operand.func 58), args := #[Operand.tmp 117, Operand.tmp 118, Operand.tmp 119, Operand.tmp 120], argTypes := #[45, 3, 3, 3] }, none⟩])
  (.ops [⟨some 122, Op.move (Operand.tmp 14), none⟩,
    ⟨some 123, Op.binOp BinOp.add 3 (Operand.tmp 122) (Operand.const (Value.int IntKind.i64 1)) 3, none⟩,
    ⟨some 1, Op.assign (Operand.tmp 123), none⟩])))
  (.seq (.ops [⟨some 124, Op.move (Operand.tmp 17), none⟩,
    ⟨some 125, Op.move (Operand.tmp 18), none⟩,
    ⟨some 126, Op.binOp BinOp.geq 3 (Operand.tmp 124) (Operand.tmp 125) 3, none⟩,
    ⟨some 8, Op.assign (Operand.tmp 126), none⟩])
  (.seq (.ops [⟨some 127, Op.move (Operand.tmp 0), none⟩,
    ⟨some 128, Op.move (Operand.tmp 14), none⟩,
    ⟨some 129, Op.binOp BinOp.add 3 (Operand.tmp 128) (Operand.const (Value.int IntKind.i64 1)) 3, none⟩,
    ⟨some 130, Op.move (Operand.tmp 2), none⟩,
    ⟨some 131, Op.move (Operand.tmp 3), none⟩,
    ⟨some 132, Op.call { callee := Callee.value (Operand.func 58), args := #[Operand.tmp 127, Operand.tmp 129, Operand.tmp 130, Operand.tmp 131], argTypes := #[45, 3, 3, 3] }, none⟩])
  (.ops [⟨some 133, Op.move (Operand.tmp 14), none⟩,
    ⟨some 2, Op.assign (Operand.tmp 133), none⟩]))))))))))))))))))
def ir58 : LC := (.seq (.ops [⟨some 8, Op.assign (Operand.const (Value.bool true)), none⟩])
  (.seq (.ops [⟨some 9, Op.assign (Operand.const (Value.bool true)), none⟩])
  (.block 0 (.loop ir58_l0))))
theorem ir58_eq : (Try.f58.body.map low, Try.f58.ntmps, Try.f58.results.toList) = (some ir58, 134, []) := by kernel_rfl
def ir59 : LC := (.seq (.ops [⟨some 2, Op.assign (Operand.const (Value.int IntKind.i64 0)), none⟩])
  (.seq (.cond (Operand.const (Value.bool false))
  (.seq (.ops [⟨some 3, Op.move (Operand.tmp 0), none⟩,
    ⟨some 4, Op.convert 95 105 (Operand.tmp 3), none⟩,
    ⟨some 5, Op.call { callee := Callee.value (Operand.func 69), args := #[Operand.tmp 4], argTypes := #[105] }, none⟩,
    ⟨some 2, Op.assign (Operand.tmp 5), none⟩])
  .ret)
  .skip)
  (.seq (.ops [⟨some 6, Op.move (Operand.tmp 0), none⟩,
    ⟨some 7, Op.call { callee := Callee.value (Operand.func 70), args := #[Operand.tmp 6], argTypes := #[107] }, none⟩,
    ⟨some 2, Op.assign (Operand.tmp 7), none⟩])
  .ret)))
theorem ir59_eq : (Try.f59.body.map low, Try.f59.ntmps, Try.f59.results.toList) = (some ir59, 8, [.tmp 2]) := by kernel_rfl
def ir60_l0 : LC := (.seq (.seq (.draw [⟨some 16, Op.move (Operand.tmp 7), none⟩,
    ⟨some 17, Op.move (Operand.tmp 1), none⟩,
    ⟨some 18, Op.binOp BinOp.gtr 3 (Operand.tmp 16) (Operand.tmp 17) 3, none⟩,
    ⟨some 19, Op.move (Operand.tmp 18), none⟩,
    ⟨some 20, Op.move (Operand.tmp 0), some (19, true)⟩,
    ⟨some 21, Op.move (Operand.tmp 7), some (19, true)⟩,
    ⟨some 22, Op.indexAddr 45 (Operand.tmp 20) (Operand.tmp 21), some (19, true)⟩,
    ⟨some 23, Op.load 2 (Operand.tmp 22), some (19, true)⟩,
    ⟨some 24, Op.move (Operand.tmp 0), some (19, true)⟩,
    ⟨some 25, Op.move (Operand.tmp 7), some (19, true)⟩,
    ⟨some 26, Op.binOp BinOp.sub 3 (Operand.tmp 25) (Operand.const (Value.int IntKind.i64 1)) 3, some (19, true)⟩,
    ⟨some 27, Op.indexAddr 45 (Operand.tmp 24) (Operand.tmp 26), some (19, true)⟩,
    ⟨some 28, Op.load 2 (Operand.tmp 27), some (19, true)⟩,
    ⟨some 29, Op.call { callee := Callee.value (Operand.func 66), args := #[Operand.tmp 23, Operand.tmp 28], argTypes := #[2, 2] }, some (19, true)⟩,
    ⟨some 30, Op.pick (Operand.tmp 19) (Operand.tmp 29) (Operand.const (Value.bool false)), none⟩] [])
  (.cond (Operand.tmp 30)
  .skip
  (.exit 2)))
  (.seq (.block 3 (.draw [⟨some 33, Op.move (Operand.tmp 0), none⟩,
    ⟨some 34, Op.move (Operand.tmp 7), none⟩,
    ⟨some 35, Op.move (Operand.tmp 0), none⟩,
    ⟨some 36, Op.move (Operand.tmp 7), none⟩,
    ⟨some 37, Op.binOp BinOp.sub 3 (Operand.tmp 36) (Operand.const (Value.int IntKind.i64 1)) 3, none⟩,
    ⟨some 38, Op.move (Operand.tmp 0), none⟩,
    ⟨some 39, Op.move (Operand.tmp 7), none⟩,
    ⟨some 40, Op.binOp BinOp.sub 3 (Operand.tmp 39) (Operand.const (Value.int IntKind.i64 1)) 3, none⟩,
    ⟨some 41, Op.indexAddr 45 (Operand.tmp 38) (Operand.tmp 40), none⟩,
    ⟨some 42, Op.load 2 (Operand.tmp 41), none⟩,
    ⟨some 43, Op.move (Operand.tmp 0), none⟩,
    ⟨some 44, Op.move (Operand.tmp 7), none⟩,
    ⟨some 45, Op.indexAddr 45 (Operand.tmp 43) (Operand.tmp 44), none⟩,
    ⟨some 46, Op.load 2 (Operand.tmp 45), none⟩,
    ⟨some 47, Op.indexAddr 45 (Operand.tmp 33) (Operand.tmp 34), none⟩,
    ⟨none, Op.store 2 (Operand.tmp 47) (Operand.tmp 42), none⟩,
    ⟨some 48, Op.indexAddr 45 (Operand.tmp 35) (Operand.tmp 37), none⟩,
    ⟨none, Op.store 2 (Operand.tmp 48) (Operand.tmp 46), none⟩] [(2, 15), (3, 15), (4, 15)]))
  (.ops [⟨some 31, Op.move (Operand.tmp 7), none⟩,
    ⟨some 32, Op.binOp BinOp.sub 3 (Operand.tmp 31) (Operand.const (Value.int IntKind.i64 1)) 3, none⟩,
    ⟨some 7, Op.assign (Operand.tmp 32), none⟩])))
def ir60_l1 : LC := (.seq (.seq (.ops [⟨some 10, Op.move (Operand.tmp 6), none⟩,
    ⟨some 11, Op.move (Operand.tmp 2), none⟩,
    ⟨some 12, Op.binOp BinOp.lss 3 (Operand.tmp 10) (Operand.tmp 11) 3, none⟩])
  (.cond (Operand.tmp 12)
  .skip
  (.exit 0)))
  (.seq (.block 1 (.seq (.ops [⟨some 15, Op.move (Operand.tmp 6), none⟩,
    ⟨some 7, Op.assign (Operand.tmp 15), none⟩])
  (.block 2 (.loop ir60_l0))))
  (.ops [⟨some 13, Op.move (Operand.tmp 6), none⟩,
    ⟨some 14, Op.binOp BinOp.add 3 (Operand.tmp 13) (Operand.const (Value.int IntKind.i64 1)) 3, none⟩,
    ⟨some 6, Op.assign (Operand.tmp 14), none⟩])))
def ir60 : LC := (.seq (.ops [⟨some 8, Op.move (Operand.tmp 1), none⟩,
    ⟨some 9, Op.binOp BinOp.add 3 (Operand.tmp 8) (Operand.const (Value.int IntKind.i64 1)) 3, none⟩,
    ⟨some 6, Op.assign (Operand.tmp 9), none⟩])
  (.block 0 (.loop ir60_l1)))
theorem ir60_eq : (Try.f60.body.map low, Try.f60.ntmps, Try.f60.results.toList) = (some ir60, 49, []) := by kernel_rfl
def ir61_l0 : LC := (.seq (.seq (.ops [⟨some 18, Op.move (Operand.tmp 9), none⟩,
    ⟨some 19, Op.binOp BinOp.geq 3 (Operand.tmp 18) (Operand.const (Value.int IntKind.i64 0)) 3, none⟩])
  (.cond (Operand.tmp 19)
  .skip
  (.exit 0)))
  (.seq (.block 1 (.ops [⟨some 22, Op.move (Operand.tmp 0), none⟩,
    ⟨some 23, Op.move (Operand.tmp 9), none⟩,
    ⟨some 24, Op.move (Operand.tmp 8), none⟩,
    ⟨some 25, Op.move (Operand.tmp 6), none⟩,
    ⟨some 26, Op.call { callee := Callee.value (Operand.func 71), args := #[Operand.tmp 22, Operand.tmp 23, Operand.tmp 24, Operand.tmp 25], argTypes := #[45, 3, 3, 3] }, none⟩]))
  (.ops [⟨some 20, Op.move (Operand.tmp 9), none⟩,
    ⟨some 21, Op.binOp BinOp.sub 3 (Operand.tmp 20) (Operand.const (Value.int IntKind.i64 1)) 3, none⟩,
    ⟨some 9, Op.assign (Operand.tmp 21), none⟩])))
def ir61_l1 : LC := (.seq (.seq (.ops [⟨some 29, Op.move (Operand.tmp 10), none⟩,
    ⟨some 30, Op.binOp BinOp.geq 3 (Operand.tmp 29) (Operand.const (Value.int IntKind.i64 0)) 3, none⟩])
  (.cond (Operand.tmp 30)
  .skip
  (.exit 2)))
  (.seq (.block 3 (.seq (.draw [⟨some 33, Op.move (Operand.tmp 0), none⟩,
    ⟨some 34, Op.move (Operand.tmp 6), none⟩,
    ⟨some 35, Op.move (Operand.tmp 0), none⟩,
    ⟨some 36, Op.move (Operand.tmp 6), none⟩,
    ⟨some 37, Op.move (Operand.tmp 10), none⟩,
    ⟨some 38, Op.binOp BinOp.add 3 (Operand.tmp 36) (Operand.tmp 37) 3, none⟩,
    ⟨some 39, Op.move (Operand.tmp 0), none⟩,
    ⟨some 40, Op.move (Operand.tmp 6), none⟩,
    ⟨some 41, Op.move (Operand.tmp 10), none⟩,
    ⟨some 42, Op.binOp BinOp.add 3 (Operand.tmp 40) (Operand.tmp 41) 3, none⟩,
    ⟨some 43, Op.indexAddr 45 (Operand.tmp 39) (Operand.tmp 42), none⟩,
    ⟨some 44, Op.load 2 (Operand.tmp 43), none⟩,
    ⟨some 45, Op.move (Operand.tmp 0), none⟩,
    ⟨some 46, Op.move (Operand.tmp 6), none⟩,
    ⟨some 47, Op.indexAddr 45 (Operand.tmp 45) (Operand.tmp 46), none⟩,
    ⟨some 48, Op.load 2 (Operand.tmp 47), none⟩,
    ⟨some 49, Op.indexAddr 45 (Operand.tmp 33) (Operand.tmp 34), none⟩,
    ⟨none, Op.store 2 (Operand.tmp 49) (Operand.tmp 44), none⟩,
    ⟨some 50, Op.indexAddr 45 (Operand.tmp 35) (Operand.tmp 38), none⟩,
    ⟨none, Op.store 2 (Operand.tmp 50) (Operand.tmp 48), none⟩] [(2, 17), (3, 17), (4, 17), (5, 17)])
  (.ops [⟨some 51, Op.move (Operand.tmp 0), none⟩,
    ⟨some 52, Op.move (Operand.tmp 7), none⟩,
    ⟨some 53, Op.move (Operand.tmp 10), none⟩,
    ⟨some 54, Op.move (Operand.tmp 6), none⟩,
    ⟨some 55, Op.call { callee := Callee.value (Operand.func 71), args := #[Operand.tmp 51, Operand.tmp 52, Operand.tmp 53, Operand.tmp 54], argTypes := #[45, 3, 3, 3] }, none⟩])))
  (.ops [⟨some 31, Op.move (Operand.tmp 10), none⟩,
    ⟨some 32, Op.binOp BinOp.sub 3 (Operand.tmp 31) (Operand.const (Value.int IntKind.i64 1)) 3, none⟩,
    ⟨some 10, Op.assign (Operand.tmp 32), none⟩])))
def ir61 : LC := (.seq (.ops [⟨some 11, Op.move (Operand.tmp 1), none⟩,
    ⟨some 6, Op.assign (Operand.tmp 11), none⟩])
  (.seq (.ops [⟨some 7, Op.assign (Operand.const (Value.int IntKind.i64 0)), none⟩])
  (.seq (.ops [⟨some 12, Op.move (Operand.tmp 2), none⟩,
    ⟨some 13, Op.move (Operand.tmp 1), none⟩,
    ⟨some 14, Op.binOp BinOp.sub 3 (Operand.tmp 12) (Operand.tmp 13) 3, none⟩,
    ⟨some 8, Op.assign (Operand.tmp 14), none⟩])
  (.seq (.seq (.ops [⟨some 15, Op.move (Operand.tmp 8), none⟩,
    ⟨some 16, Op.binOp BinOp.sub 3 (Operand.tmp 15) (Operand.const (Value.int IntKind.i64 1)) 3, none⟩,
    ⟨some 17, Op.binOp BinOp.quo 3 (Operand.tmp 16) (Operand.const (Value.int IntKind.i64 2)) 3, none⟩,
    ⟨some 9, Op.assign (Operand.tmp 17), none⟩])
  (.block 0 (.loop ir61_l0)))
  (.seq (.ops [⟨some 27, Op.move (Operand.tmp 8), none⟩,
    ⟨some 28, Op.binOp BinOp.sub 3 (Operand.tmp 27) (Operand.const (Value.int IntKind.i64 1)) 3, none⟩,
    ⟨some 10, Op.assign (Operand.tmp 28), none⟩])
  (.block 2 (.loop ir61_l1)))))))
theorem ir61_eq : (Try.f61.body.map low, Try.f61.ntmps, Try.f61.results.toList) = (some ir61, 56, []) := by kernel_rfl
def ir62_l0 : LC := (.seq (.seq (.ops [⟨some 26, Op.move (Operand.tmp 9), none⟩,
    ⟨some 27, Op.move (Operand.tmp 1), none⟩,
    ⟨some 28, Op.move (Operand.tmp 6), none⟩,
    ⟨some 29, Op.binOp BinOp.quo 3 (Operand.tmp 28) (Operand.const (Value.int IntKind.i64 4)) 3, none⟩,
    ⟨some 30, Op.binOp BinOp.mul 3 (Operand.tmp 29) (Operand.const (Value.int IntKind.i64 2)) 3, none⟩,
    ⟨some 31, Op.binOp BinOp.add 3 (Operand.tmp 27) (Operand.tmp 30) 3, none⟩,
    ⟨some 32, Op.binOp BinOp.add 3 (Operand.tmp 31) (Operand.const (Value.int IntKind.i64 1)) 3, none⟩,
    ⟨some 33, Op.binOp BinOp.leq 3 (Operand.tmp 26) (Operand.tmp 32) 3, none⟩])
  (.cond (Operand.tmp 33)
  .skip
  (.exit 0)))
  (.seq (.block 1 (.seq (.ops [⟨some 36, Op.call { callee := Callee.value (Operand.func 73), args := #[Operand.tmp 7], argTypes := #[108] }, none⟩,
    ⟨some 37, Op.move (Operand.tmp 8), none⟩,
    ⟨some 38, Op.binOp BinOp.sub 95 (Operand.tmp 37) (Operand.const (Value.int IntKind.u64 1)) 95, none⟩,
    ⟨some 39, Op.binOp BinOp.and 95 (Operand.tmp 36) (Operand.tmp 38) 95, none⟩,
    ⟨some 40, Op.convert 95 3 (Operand.tmp 39), none⟩,
    ⟨some 10, Op.assign (Operand.tmp 40), none⟩])
  (.seq (.seq (.ops [⟨some 41, Op.move (Operand.tmp 10), none⟩,
    ⟨some 42, Op.move (Operand.tmp 6), none⟩,
    ⟨some 43, Op.binOp BinOp.geq 3 (Operand.tmp 41) (Operand.tmp 42) 3, none⟩])
  (.cond (Operand.tmp 43)
  (.ops [⟨some 44, Op.move (Operand.tmp 10), none⟩,
    ⟨some 45, Op.move (Operand.tmp 6), none⟩,
    ⟨some 46, Op.binOp BinOp.sub 3 (Operand.tmp 44) (Operand.tmp 45) 3, none⟩,
    ⟨some 10, Op.assign (Operand.tmp 46), none⟩])
  .skip))
  (.draw [⟨some 47, Op.move (Operand.tmp 0), none⟩,
    ⟨some 48, Op.move (Operand.tmp 9), none⟩,
    ⟨some 49, Op.move (Operand.tmp 0), none⟩,
    ⟨some 50, Op.move (Operand.tmp 1), none⟩,
    ⟨some 51, Op.move (Operand.tmp 10), none⟩,
    ⟨some 52, Op.binOp BinOp.add 3 (Operand.tmp 50) (Operand.tmp 51) 3, none⟩,
    ⟨some 53, Op.move (Operand.tmp 0), none⟩,
    ⟨some 54, Op.move (Operand.tmp 1), none⟩,
    ⟨some 55, Op.move (Operand.tmp 10), none⟩,
    ⟨some 56, Op.binOp BinOp.add 3 (Operand.tmp 54) (Operand.tmp 55) 3, none⟩,
    ⟨some 57, Op.indexAddr 45 (Operand.tmp 53) (Operand.tmp 56), none⟩,
    ⟨some 58, Op.load 2 (Operand.tmp 57), none⟩,
    ⟨some 59, Op.move (Operand.tmp 0), none⟩,
    ⟨some 60, Op.move (Operand.tmp 9), none⟩,
    ⟨some 61, Op.indexAddr 45 (Operand.tmp 59) (Operand.tmp 60), none⟩,
    ⟨some 62, Op.load 2 (Operand.tmp 61), none⟩,
    ⟨some 63, Op.indexAddr 45 (Operand.tmp 47) (Operand.tmp 48), none⟩,
    ⟨none, Op.store 2 (Operand.tmp 63) (Operand.tmp 58), none⟩,
    ⟨some 64, Op.indexAddr 45 (Operand.tmp 49) (Operand.tmp 52), none⟩,
    ⟨none, Op.store 2 (Operand.tmp 64) (Operand.tmp 62), none⟩] [(2, 17), (3, 17), (4, 17), (5, 17)]))))
  (.ops [⟨some 34, Op.move (Operand.tmp 9), none⟩,
    ⟨some 35, Op.binOp BinOp.add 3 (Operand.tmp 34) (Operand.const (Value.int IntKind.i64 1)) 3, none⟩,
    ⟨some 9, Op.assign (Operand.tmp 35), none⟩])))
def ir62 : LC := (.seq (.ops [⟨some 11, Op.move (Operand.tmp 2), none⟩,
    ⟨some 12, Op.move (Operand.tmp 1), none⟩,
    ⟨some 13, Op.binOp BinOp.sub 3 (Operand.tmp 11) (Operand.tmp 12) 3, none⟩,
    ⟨some 6, Op.assign (Operand.tmp 13), none⟩])
  (.seq (.ops [⟨some 14, Op.move (Operand.tmp 6), none⟩,
    ⟨some 15, Op.binOp BinOp.geq 3 (Operand.tmp 14) (Operand.const (Value.int IntKind.i64 8)) 3, none⟩])
  (.cond (Operand.tmp 15)
  (.seq (.ops [⟨some 16, Op.move (Operand.tmp 6), none⟩,
    ⟨some 17, Op.convert 3 108 (Operand.tmp 16), none⟩,
    ⟨some 7, Op.alloc 108, none⟩,
    ⟨none, Op.store 108 (Operand.tmp 7) (Operand.tmp 17), none⟩])
  (.seq (.ops [⟨some 18, Op.move (Operand.tmp 6), none⟩,
    ⟨some 19, Op.call { callee := Callee.value (Operand.func 72), args := #[Operand.tmp 18], argTypes := #[3] }, none⟩,
    ⟨some 8, Op.assign (Operand.tmp 19), none⟩])
  (.seq (.ops [⟨some 20, Op.move (Operand.tmp 1), none⟩,
    ⟨some 21, Op.move (Operand.tmp 6), none⟩,
    ⟨some 22, Op.binOp BinOp.quo 3 (Operand.tmp 21) (Operand.const (Value.int IntKind.i64 4)) 3, none⟩,
    ⟨some 23, Op.binOp BinOp.mul 3 (Operand.tmp 22) (Operand.const (Value.int IntKind.i64 2)) 3, none⟩,
    ⟨some 24, Op.binOp BinOp.add 3 (Operand.tmp 20) (Operand.tmp 23) 3, none⟩,
    ⟨some 25, Op.binOp BinOp.sub 3 (Operand.tmp 24) (Operand.const (Value.int IntKind.i64 1)) 3, none⟩,
    ⟨some 9, Op.assign (Operand.tmp 25), none⟩])
  (.block 0 (.loop ir62_l0)))))
  .skip)))
theorem ir62_eq : (Try.f62.body.map low, Try.f62.ntmps, Try.f62.results.toList) = (some ir62, 65, []) := by kernel_rfl
def ir63 : LC := (.seq (.ops [⟨some 6, Op.assign (Operand.const (Value.int IntKind.i64 0)), none⟩,
    ⟨some 7, Op.assign (Operand.const (Value.int IntKind.i64 0)), none⟩])
  (.seq (.ops [⟨some 13, Op.move (Operand.tmp 2), none⟩,
    ⟨some 14, Op.move (Operand.tmp 1), none⟩,
    ⟨some 15, Op.binOp BinOp.sub 3 (Operand.tmp 13) (Operand.tmp 14) 3, none⟩,
    ⟨some 8, Op.assign (Operand.tmp 15), none⟩])
  (.seq (.ops [⟨some 9, Op.alloc 3, none⟩])
  (.seq (.ops [⟨some 16, Op.move (Operand.tmp 1), none⟩,
    ⟨some 17, Op.move (Operand.tmp 8), none⟩,
    ⟨some 18, Op.binOp BinOp.quo 3 (Operand.tmp 17) (Operand.const (Value.int IntKind.i64 4)) 3, none⟩,
    ⟨some 19, Op.binOp BinOp.mul 3 (Operand.tmp 18) (Operand.const (Value.int IntKind.i64 1)) 3, none⟩,
    ⟨some 20, Op.binOp BinOp.add 3 (Operand.tmp 16) (Operand.tmp 19) 3, none⟩,
    ⟨some 10, Op.assign (Operand.tmp 20), none⟩])
  (.seq (.ops [⟨some 21, Op.move (Operand.tmp 1), none⟩,
    ⟨some 22, Op.move (Operand.tmp 8), none⟩,
    ⟨some 23, Op.binOp BinOp.quo 3 (Operand.tmp 22) (Operand.const (Value.int IntKind.i64 4)) 3, none⟩,
    ⟨some 24, Op.binOp BinOp.mul 3 (Operand.tmp 23) (Operand.const (Value.int IntKind.i64 2)) 3, none⟩,
    ⟨some 25, Op.binOp BinOp.add 3 (Operand.tmp 21) (Operand.tmp 24) 3, none⟩,
    ⟨some 11, Op.assign (Operand.tmp 25), none⟩])
  (.seq (.ops [⟨some 26, Op.move (Operand.tmp 1), none⟩,
    ⟨some 27, Op.move (Operand.tmp 8), none⟩,
    ⟨some 28, Op.binOp BinOp.quo 3 (Operand.tmp 27) (Operand.const (Value.int IntKind.i64 4)) 3, none⟩,
    ⟨some 29, Op.binOp BinOp.mul 3 (Operand.tmp 28) (Operand.const (Value.int IntKind.i64 3)) 3, none⟩,
    ⟨some 30, Op.binOp BinOp.add 3 (Operand.tmp 26) (Operand.tmp 29) 3, none⟩,
    ⟨some 12, Op.assign (Operand.tmp 30), none⟩])
  (.seq (.seq (.ops [⟨some 31, Op.move (Operand.tmp 8), none⟩,
    ⟨some 32, Op.binOp BinOp.geq 3 (Operand.tmp 31) (Operand.const (Value.int IntKind.i64 8)) 3, none⟩])
  (.cond (Operand.tmp 32)
  (.seq (.seq (.ops [⟨some 33, Op.move (Operand.tmp 8), none⟩,
    ⟨some 34, Op.binOp BinOp.geq 3 (Operand.tmp 33) (Operand.const (Value.int IntKind.i64 50)) 3, none⟩])
  (.cond (Operand.tmp 34)
  (.seq (.ops [⟨some 35, Op.move (Operand.tmp 0), none⟩,
    ⟨some 36, Op.move (Operand.tmp 10), none⟩,
    ⟨some 37, Op.call { callee := Callee.value (Operand.func 74), args := #[Operand.tmp 35, Operand.tmp 36, Operand.tmp 9], argTypes := #[45, 3, 112] }, none⟩,
    ⟨some 10, Op.assign (Operand.tmp 37), none⟩])
  (.seq (.ops [⟨some 38, Op.move (Operand.tmp 0), none⟩,
    ⟨some 39, Op.move (Operand.tmp 11), none⟩,
    ⟨some 40, Op.call { callee := Callee.value (Operand.func 74), args := #[Operand.tmp 38, Operand.tmp 39, Operand.tmp 9], argTypes := #[45, 3, 112] }, none⟩,
    ⟨some 11, Op.assign (Operand.tmp 40), none⟩])
  (.ops [⟨some 41, Op.move (Operand.tmp 0), none⟩,
    ⟨some 42, Op.move (Operand.tmp 12), none⟩,
    ⟨some 43, Op.call { callee := Callee.value (Operand.func 74), args := #[Operand.tmp 41, Operand.tmp 42, Operand.tmp 9], argTypes := #[45, 3, 112] }, none⟩,
    ⟨some 12, Op.assign (Operand.tmp 43), none⟩])))
  .skip))
  (.ops [⟨some 44, Op.move (Operand.tmp 0), none⟩,
    ⟨some 45, Op.move (Operand.tmp 10), none⟩,
    ⟨some 46, Op.move (Operand.tmp 11), none⟩,
    ⟨some 47, Op.move (Operand.tmp 12), none⟩,
    ⟨some 48, Op.call { callee := Callee.value (Operand.func 75), args := #[Operand.tmp 44, Operand.tmp 45, Operand.tmp 46, Operand.tmp 47, Operand.tmp 9], argTypes := #[45, 3, 3, 3, 112] }, none⟩,
    ⟨some 11, Op.assign (Operand.tmp 48), none⟩]))
  .skip))
  (.seq (.ops [⟨some 49, Op.load 3 (Operand.tmp 9), none⟩])
  (.block 0 (.seq (.ops [⟨some 52, Op.binOp BinOp.eql 3 (Operand.tmp 49) (Operand.const (Value.int IntKind.i64 0)) 3, none⟩,
    ⟨some 51, Op.assign (Operand.tmp 52), none⟩])
  (.cond (Operand.tmp 51)
  (.seq (.ops [⟨some 53, Op.move (Operand.tmp 11), none⟩,
    ⟨some 6, Op.assign (Operand.tmp 53), none⟩,
    ⟨some 7, Op.assign (Operand.const (Value.int IntKind.i64 1)), none⟩])
  .ret)
  (.seq (.ops [⟨some 55, Op.binOp BinOp.eql 3 (Operand.tmp 49) (Operand.const (Value.int IntKind.i64 12)) 3, none⟩,
    ⟨some 54, Op.assign (Operand.tmp 55), none⟩])
  (.cond (Operand.tmp 54)
  (.seq (.ops [⟨some 56, Op.move (Operand.tmp 11), none⟩,
    ⟨some 6, Op.assign (Operand.tmp 56), none⟩,
    ⟨some 7, Op.assign (Operand.const (Value.int IntKind.i64 2)), none⟩])
  .ret)
  (.seq (.ops [⟨some 50, Op.move (Operand.tmp 11), none⟩,
    ⟨some 6, Op.assign (Operand.tmp 50), none⟩,
    ⟨some 7, Op.assign (Operand.const (Value.int IntKind.i64 0)), none⟩])
  .ret))))))))))))))
theorem ir63_eq : (Try.f63.body.map low, Try.f63.ntmps, Try.f63.results.toList) = (some ir63, 57, [.tmp 6, .tmp 7]) := by kernel_rfl
def ir64_l0 : LC := (.seq (.seq (.ops [⟨some 11, Op.move (Operand.tmp 6), none⟩,
    ⟨some 12, Op.move (Operand.tmp 7), none⟩,
    ⟨some 13, Op.binOp BinOp.lss 3 (Operand.tmp 11) (Operand.tmp 12) 3, none⟩])
  (.cond (Operand.tmp 13)
  .skip
  (.exit 0)))
  (.block 1 (.seq (.draw [⟨some 14, Op.move (Operand.tmp 0), none⟩,
    ⟨some 15, Op.move (Operand.tmp 6), none⟩,
    ⟨some 16, Op.move (Operand.tmp 0), none⟩,
    ⟨some 17, Op.move (Operand.tmp 7), none⟩,
    ⟨some 18, Op.move (Operand.tmp 0), none⟩,
    ⟨some 19, Op.move (Operand.tmp 7), none⟩,
    ⟨some 20, Op.indexAddr 45 (Operand.tmp 18) (Operand.tmp 19), none⟩,
    ⟨some 21, Op.load 2 (Operand.tmp 20), none⟩,
    ⟨some 22, Op.move (Operand.tmp 0), none⟩,
    ⟨some 23, Op.move (Operand.tmp 6), none⟩,
    ⟨some 24, Op.indexAddr 45 (Operand.tmp 22) (Operand.tmp 23), none⟩,
    ⟨some 25, Op.load 2 (Operand.tmp 24), none⟩,
    ⟨some 26, Op.indexAddr 45 (Operand.tmp 14) (Operand.tmp 15), none⟩,
    ⟨none, Op.store 2 (Operand.tmp 26) (Operand.tmp 21), none⟩,
    ⟨some 27, Op.indexAddr 45 (Operand.tmp 16) (Operand.tmp 17), none⟩,
    ⟨none, Op.store 2 (Operand.tmp 27) (Operand.tmp 25), none⟩] [(2, 13), (3, 13)])
  (.seq (.ops [⟨some 28, Op.move (Operand.tmp 6), none⟩,
    ⟨some 29, Op.binOp BinOp.add 3 (Operand.tmp 28) (Operand.const (Value.int IntKind.i64 1)) 3, none⟩,
    ⟨some 6, Op.assign (Operand.tmp 29), none⟩])
  (.ops [⟨some 30, Op.move (Operand.tmp 7), none⟩,
    ⟨some 31, Op.binOp BinOp.sub 3 (Operand.tmp 30) (Operand.const (Value.int IntKind.i64 1)) 3, none⟩,
    ⟨some 7, Op.assign (Operand.tmp 31), none⟩])))))
def ir64 : LC := (.seq (.ops [⟨some 8, Op.move (Operand.tmp 1), none⟩,
    ⟨some 6, Op.assign (Operand.tmp 8), none⟩])
  (.seq (.ops [⟨some 9, Op.move (Operand.tmp 2), none⟩,
    ⟨some 10, Op.binOp BinOp.sub 3 (Operand.tmp 9) (Operand.const (Value.int IntKind.i64 1)) 3, none⟩,
    ⟨some 7, Op.assign (Operand.tmp 10), none⟩])
  (.block 0 (.loop ir64_l0))))
theorem ir64_eq : (Try.f64.body.map low, Try.f64.ntmps, Try.f64.results.toList) = (some ir64, 32, []) := by kernel_rfl
def ir65_l0 : LC := (.seq (.seq (.draw [⟨some 17, Op.move (Operand.tmp 7), none⟩,
    ⟨some 18, Op.move (Operand.tmp 2), none⟩,
    ⟨some 19, Op.binOp BinOp.lss 3 (Operand.tmp 17) (Operand.tmp 18) 3, none⟩,
    ⟨some 20, Op.move (Operand.tmp 19), none⟩,
    ⟨some 21, Op.move (Operand.tmp 0), some (20, true)⟩,
    ⟨some 22, Op.move (Operand.tmp 7), some (20, true)⟩,
    ⟨some 23, Op.indexAddr 45 (Operand.tmp 21) (Operand.tmp 22), some (20, true)⟩,
    ⟨some 24, Op.load 2 (Operand.tmp 23), some (20, true)⟩,
    ⟨some 25, Op.move (Operand.tmp 0), some (20, true)⟩,
    ⟨some 26, Op.move (Operand.tmp 7), some (20, true)⟩,
    ⟨some 27, Op.binOp BinOp.sub 3 (Operand.tmp 26) (Operand.const (Value.int IntKind.i64 1)) 3, some (20, true)⟩,
    ⟨some 28, Op.indexAddr 45 (Operand.tmp 25) (Operand.tmp 27), some (20, true)⟩,
    ⟨some 29, Op.load 2 (Operand.tmp 28), some (20, true)⟩,
    ⟨some 30, Op.call { callee := Callee.value (Operand.func 66), args := #[Operand.tmp 24, Operand.tmp 29], argTypes := #[2, 2] }, some (20, true)⟩,
    ⟨some 31, Op.unOp UnOp.not 4 (Operand.tmp 30), some (20, true)⟩,
    ⟨some 32, Op.pick (Operand.tmp 20) (Operand.tmp 31) (Operand.const (Value.bool false)), none⟩] [])
  (.cond (Operand.tmp 32)
  .skip
  (.exit 2)))
  (.block 3 (.ops [⟨some 33, Op.move (Operand.tmp 7), none⟩,
    ⟨some 34, Op.binOp BinOp.add 3 (Operand.tmp 33) (Operand.const (Value.int IntKind.i64 1)) 3, none⟩,
    ⟨some 7, Op.assign (Operand.tmp 34), none⟩])))
def ir65_l1 : LC := (.seq (.seq (.ops [⟨some 64, Op.move (Operand.tmp 9), none⟩,
    ⟨some 65, Op.binOp BinOp.geq 3 (Operand.tmp 64) (Operand.const (Value.int IntKind.i64 1)) 3, none⟩])
  (.cond (Operand.tmp 65)
  .skip
  (.exit 4)))
  (.seq (.block 5 (.seq (.seq (.draw [⟨some 68, Op.move (Operand.tmp 0), none⟩,
    ⟨some 69, Op.move (Operand.tmp 9), none⟩,
    ⟨some 70, Op.indexAddr 45 (Operand.tmp 68) (Operand.tmp 69), none⟩,
    ⟨some 71, Op.load 2 (Operand.tmp 70), none⟩,
    ⟨some 72, Op.move (Operand.tmp 0), none⟩,
    ⟨some 73, Op.move (Operand.tmp 9), none⟩,
    ⟨some 74, Op.binOp BinOp.sub 3 (Operand.tmp 73) (Operand.const (Value.int IntKind.i64 1)) 3, none⟩,
    ⟨some 75, Op.indexAddr 45 (Operand.tmp 72) (Operand.tmp 74), none⟩,
    ⟨some 76, Op.load 2 (Operand.tmp 75), none⟩,
    ⟨some 77, Op.call { callee := Callee.value (Operand.func 66), args := #[Operand.tmp 71, Operand.tmp 76], argTypes := #[2, 2] }, none⟩,
    ⟨some 78, Op.unOp UnOp.not 4 (Operand.tmp 77), none⟩] [])
  (.cond (Operand.tmp 78)
  (.exit 4)
  .skip))
  (.draw [⟨some 79, Op.move (Operand.tmp 0), none⟩,
    ⟨some 80, Op.move (Operand.tmp 9), none⟩,
    ⟨some 81, Op.move (Operand.tmp 0), none⟩,
    ⟨some 82, Op.move (Operand.tmp 9), none⟩,
    ⟨some 83, Op.binOp BinOp.sub 3 (Operand.tmp 82) (Operand.const (Value.int IntKind.i64 1)) 3, none⟩,
    ⟨some 84, Op.move (Operand.tmp 0), none⟩,
    ⟨some 85, Op.move (Operand.tmp 9), none⟩,
    ⟨some 86, Op.binOp BinOp.sub 3 (Operand.tmp 85) (Operand.const (Value.int IntKind.i64 1)) 3, none⟩,
    ⟨some 87, Op.indexAddr 45 (Operand.tmp 84) (Operand.tmp 86), none⟩,
    ⟨some 88, Op.load 2 (Operand.tmp 87), none⟩,
    ⟨some 89, Op.move (Operand.tmp 0), none⟩,
    ⟨some 90, Op.move (Operand.tmp 9), none⟩,
    ⟨some 91, Op.indexAddr 45 (Operand.tmp 89) (Operand.tmp 90), none⟩,
    ⟨some 92, Op.load 2 (Operand.tmp 91), none⟩,
    ⟨some 93, Op.indexAddr 45 (Operand.tmp 79) (Operand.tmp 80), none⟩,
    ⟨none, Op.store 2 (Operand.tmp 93) (Operand.tmp 88), none⟩,
    ⟨some 94, Op.indexAddr 45 (Operand.tmp 81) (Operand.tmp 83), none⟩,
    ⟨none, Op.store 2 (Operand.tmp 94) (Operand.tmp 92), none⟩] [(2, 15), (3, 15), (4, 15)])))
  (.ops [⟨some 66, Op.move (Operand.tmp 9), none⟩,
    ⟨some 67, Op.binOp BinOp.sub 3 (Operand.tmp 66) (Operand.const (Value.int IntKind.i64 1)) 3, none⟩,
    ⟨some 9, Op.assign (Operand.tmp 67), none⟩])))
def ir65_l2 : LC := (.seq (.seq (.ops [⟨some 101, Op.move (Operand.tmp 10), none⟩,
    ⟨some 102, Op.move (Operand.tmp 2), none⟩,
    ⟨some 103, Op.binOp BinOp.lss 3 (Operand.tmp 101) (Operand.tmp 102) 3, none⟩])
  (.cond (Operand.tmp 103)
  .skip
  (.exit 6)))
  (.seq (.block 7 (.seq (.seq (.draw [⟨some 106, Op.move (Operand.tmp 0), none⟩,
    ⟨some 107, Op.move (Operand.tmp 10), none⟩,
    ⟨some 108, Op.indexAddr 45 (Operand.tmp 106) (Operand.tmp 107), none⟩,
    ⟨some 109, Op.load 2 (Operand.tmp 108), none⟩,
    ⟨some 110, Op.move (Operand.tmp 0), none⟩,
    ⟨some 111, Op.move (Operand.tmp 10), none⟩,
    ⟨some 112, Op.binOp BinOp.sub 3 (Operand.tmp 111) (Operand.const (Value.int IntKind.i64 1)) 3, none⟩,
    ⟨some 113, Op.indexAddr 45 (Operand.tmp 110) (Operand.tmp 112), none⟩,
    ⟨some 114, Op.load 2 (Operand.tmp 113), none⟩,
    ⟨some 115, Op.call { callee := Callee.value (Operand.func 66), args := #[Operand.tmp 109, Operand.tmp 114], argTypes := #[2, 2] }, none⟩,
    ⟨some 116, Op.unOp UnOp.not 4 (Operand.tmp 115), none⟩] [])
  (.cond (Operand.tmp 116)
  (.exit 6)
  .skip))
  (.draw [⟨some 117, Op.move (Operand.tmp 0), none⟩,
    ⟨some 118, Op.move (Operand.tmp 10), none⟩,
    ⟨some 119, Op.move (Operand.tmp 0), none⟩,
    ⟨some 120, Op.move (Operand.tmp 10), none⟩,
    ⟨some 121, Op.binOp BinOp.sub 3 (Operand.tmp 120) (Operand.const (Value.int IntKind.i64 1)) 3, none⟩,
    ⟨some 122, Op.move (Operand.tmp 0), none⟩,
    ⟨some 123, Op.move (Operand.tmp 10), none⟩,
    ⟨some 124, Op.binOp BinOp.sub 3 (Operand.tmp 123) (Operand.const (Value.int IntKind.i64 1)) 3, none⟩,
    ⟨some 125, Op.indexAddr 45 (Operand.tmp 122) (Operand.tmp 124), none⟩,
    ⟨some 126, Op.load 2 (Operand.tmp 125), none⟩,
    ⟨some 127, Op.move (Operand.tmp 0), none⟩,
    ⟨some 128, Op.move (Operand.tmp 10), none⟩,
    ⟨some 129, Op.indexAddr 45 (Operand.tmp 127) (Operand.tmp 128), none⟩,
    ⟨some 130, Op.load 2 (Operand.tmp 129), none⟩,
    ⟨some 131, Op.indexAddr 45 (Operand.tmp 117) (Operand.tmp 118), none⟩,
    ⟨none, Op.store 2 (Operand.tmp 131) (Operand.tmp 126), none⟩,
    ⟨some 132, Op.indexAddr 45 (Operand.tmp 119) (Operand.tmp 121), none⟩,
    ⟨none, Op.store 2 (Operand.tmp 132) (Operand.tmp 130), none⟩] [(2, 15), (3, 15), (4, 15)])))
  (.ops [⟨some 104, Op.move (Operand.tmp 10), none⟩,
    ⟨some 105, Op.binOp BinOp.add 3 (Operand.tmp 104) (Operand.const (Value.int IntKind.i64 1)) 3, none⟩,
    ⟨some 10, Op.assign (Operand.tmp 105), none⟩])))
def ir65_l3 : LC := (.seq (.seq (.ops [⟨some 13, Op.move (Operand.tmp 8), none⟩,
    ⟨some 14, Op.binOp BinOp.lss 3 (Operand.tmp 13) (Operand.const (Value.int IntKind.i64 5)) 3, none⟩])
  (.cond (Operand.tmp 14)
  .skip
  (.exit 0)))
  (.seq (.block 1 (.seq (.block 2 (.loop ir65_l0))
  (.seq (.seq (.ops [⟨some 35, Op.move (Operand.tmp 7), none⟩,
    ⟨some 36, Op.move (Operand.tmp 2), none⟩,
    ⟨some 37, Op.binOp BinOp.eql 3 (Operand.tmp 35) (Operand.tmp 36) 3, none⟩])
  (.cond (Operand.tmp 37)
  (.seq (.ops [⟨some 6, Op.assign (Operand.const (Value.bool true)), none⟩])
  .ret)
  .skip))
  (.seq (.seq (.ops [⟨some 38, Op.move (Operand.tmp 2), none⟩,
    ⟨some 39, Op.move (Operand.tmp 1), none⟩,
    ⟨some 40, Op.binOp BinOp.sub 3 (Operand.tmp 38) (Operand.tmp 39) 3, none⟩,
    ⟨some 41, Op.binOp BinOp.lss 3 (Operand.tmp 40) (Operand.const (Value.int IntKind.i64 50)) 3, none⟩])
  (.cond (Operand.tmp 41)
  (.seq (.ops [⟨some 6, Op.assign (Operand.const (Value.bool false)), none⟩])
  .ret)
  .skip))
  (.seq (.draw [⟨some 42, Op.move (Operand.tmp 0), none⟩,
    ⟨some 43, Op.move (Operand.tmp 7), none⟩,
    ⟨some 44, Op.move (Operand.tmp 0), none⟩,
    ⟨some 45, Op.move (Operand.tmp 7), none⟩,
    ⟨some 46, Op.binOp BinOp.sub 3 (Operand.tmp 45) (Operand.const (Value.int IntKind.i64 1)) 3, none⟩,
    ⟨some 47, Op.move (Operand.tmp 0), none⟩,
    ⟨some 48, Op.move (Operand.tmp 7), none⟩,
    ⟨some 49, Op.binOp BinOp.sub 3 (Operand.tmp 48) (Operand.const (Value.int IntKind.i64 1)) 3, none⟩,
    ⟨some 50, Op.indexAddr 45 (Operand.tmp 47) (Operand.tmp 49), none⟩,
    ⟨some 51, Op.load 2 (Operand.tmp 50), none⟩,
    ⟨some 52, Op.move (Operand.tmp 0), none⟩,
    ⟨some 53, Op.move (Operand.tmp 7), none⟩,
    ⟨some 54, Op.indexAddr 45 (Operand.tmp 52) (Operand.tmp 53), none⟩,
    ⟨some 55, Op.load 2 (Operand.tmp 54), none⟩,
    ⟨some 56, Op.indexAddr 45 (Operand.tmp 42) (Operand.tmp 43), none⟩,
    ⟨none, Op.store 2 (Operand.tmp 56) (Operand.tmp 51), none⟩,
    ⟨some 57, Op.indexAddr 45 (Operand.tmp 44) (Operand.tmp 46), none⟩,
    ⟨none, Op.store 2 (Operand.tmp 57) (Operand.tmp 55), none⟩] [(2, 15), (3, 15), (4, 15)])
  (.seq (.seq (.ops [⟨some 58, Op.move (Operand.tmp 7), none⟩,
    ⟨some 59, Op.move (Operand.tmp 1), none⟩,
    ⟨some 60, Op.binOp BinOp.sub 3 (Operand.tmp 58) (Operand.tmp 59) 3, none⟩,
    ⟨some 61, Op.binOp BinOp.geq 3 (Operand.tmp 60) (Operand.const (Value.int IntKind.i64 2)) 3, none⟩])
  (.cond (Operand.tmp 61)
  (.seq (.ops [⟨some 62, Op.move (Operand.tmp 7), none⟩,
    ⟨some 63, Op.binOp BinOp.sub 3 (Operand.tmp 62) (Operand.const (Value.int IntKind.i64 1)) 3, none⟩,
    ⟨some 9, Op.assign (Operand.tmp 63), none⟩])
  (.block 4 (.loop ir65_l1)))
  .skip))
  (.seq (.ops [⟨some 95, Op.move (Operand.tmp 2), none⟩,
    ⟨some 96, Op.move (Operand.tmp 7), none⟩,
    ⟨some 97, Op.binOp BinOp.sub 3 (Operand.tmp 95) (Operand.tmp 96) 3, none⟩,
    ⟨some 98, Op.binOp BinOp.geq 3 (Operand.tmp 97) (Operand.const (Value.int IntKind.i64 2)) 3, none⟩])
  (.cond (Operand.tmp 98)
  (.seq (.ops [⟨some 99, Op.move (Operand.tmp 7), none⟩,
    ⟨some 100, Op.binOp BinOp.add 3 (Operand.tmp 99) (Operand.const (Value.int IntKind.i64 1)) 3, none⟩,
    ⟨some 10, Op.assign (Operand.tmp 100), none⟩])
  (.block 6 (.loop ir65_l2)))
  .skip))))))))
  (.ops [⟨some 15, Op.move (Operand.tmp 8), none⟩,
    ⟨some 16, Op.binOp BinOp.add 3 (Operand.tmp 15) (Operand.const (Value.int IntKind.i64 1)) 3, none⟩,
    ⟨some 8, Op.assign (Operand.tmp 16), none⟩])))
def ir65 : LC := (.seq (.ops [⟨some 6, Op.assign (Operand.const (Value.bool false)), none⟩])
  (.seq (.ops [⟨some 11, Op.move (Operand.tmp 1), none⟩,
    ⟨some 12, Op.binOp BinOp.add 3 (Operand.tmp 11) (Operand.const (Value.int IntKind.i64 1)) 3, none⟩,
    ⟨some 7, Op.assign (Operand.tmp 12), none⟩])
  (.seq (.seq (.ops [⟨some 8, Op.assign (Operand.const (Value.int IntKind.i64 0)), none⟩])
  (.block 0 (.loop ir65_l3)))
  (.seq (.ops [⟨some 6, Op.assign (Operand.const (Value.bool false)), none⟩])
  .ret))))
theorem ir65_eq : (Try.f65.body.map low, Try.f65.ntmps, Try.f65.results.toList) = (some ir65, 133, [.tmp 6]) := by kernel_rfl
def ir66 : LC := (.seq (.ops [⟨some 4, Op.assign (Operand.const (Value.bool false)), none⟩])
  (.seq (.ops [⟨some 5, Op.move (Operand.tmp 0), none⟩,
    ⟨some 6, Op.call { callee := Callee.value (Operand.func 76), args := #[Operand.tmp 5], argTypes := #[2] }, none⟩,
    ⟨some 7, Op.move (Operand.tmp 6), none⟩,
    ⟨some 8, Op.move (Operand.tmp 1), some (7, true)⟩,
    ⟨some 9, Op.call { callee := Callee.value (Operand.func 76), args := #[Operand.tmp 8], argTypes := #[2] }, some (7, true)⟩,
    ⟨some 10, Op.unOp UnOp.not 4 (Operand.tmp 9), some (7, true)⟩,
    ⟨some 11, Op.pick (Operand.tmp 7) (Operand.tmp 10) (Operand.const (Value.bool false)), none⟩,
    ⟨some 12, Op.move (Operand.tmp 11), none⟩,
    ⟨some 13, Op.move (Operand.tmp 0), some (12, false)⟩,
    ⟨some 14, Op.move (Operand.tmp 1), some (12, false)⟩,
    ⟨some 15, Op.binOp BinOp.lss 2 (Operand.tmp 13) (Operand.tmp 14) 2, some (12, false)⟩,
    ⟨some 16, Op.pick (Operand.tmp 12) (Operand.const (Value.bool true)) (Operand.tmp 15), none⟩,
    ⟨some 4, Op.assign (Operand.tmp 16), none⟩])
  .ret))
theorem ir66_eq : (Try.f66.body.map low, Try.f66.ntmps, Try.f66.results.toList) = (some ir66, 17, [.tmp 4]) := by kernel_rfl
def ir67_l0 : LC := (.seq (.seq (.draw [⟨some 29, Op.move (Operand.tmp 9), none⟩,
    ⟨some 30, Op.move (Operand.tmp 10), none⟩,
    ⟨some 31, Op.binOp BinOp.leq 3 (Operand.tmp 29) (Operand.tmp 30) 3, none⟩,
    ⟨some 32, Op.move (Operand.tmp 31), none⟩,
    ⟨some 33, Op.move (Operand.tmp 0), some (32, true)⟩,
    ⟨some 34, Op.move (Operand.tmp 1), some (32, true)⟩,
    ⟨some 35, Op.indexAddr 45 (Operand.tmp 33) (Operand.tmp 34), some (32, true)⟩,
    ⟨some 36, Op.load 2 (Operand.tmp 35), some (32, true)⟩,
    ⟨some 37, Op.move (Operand.tmp 0), some (32, true)⟩,
    ⟨some 38, Op.move (Operand.tmp 9), some (32, true)⟩,
    ⟨some 39, Op.indexAddr 45 (Operand.tmp 37) (Operand.tmp 38), some (32, true)⟩,
    ⟨some 40, Op.load 2 (Operand.tmp 39), some (32, true)⟩,
    ⟨some 41, Op.call { callee := Callee.value (Operand.func 66), args := #[Operand.tmp 36, Operand.tmp 40], argTypes := #[2, 2] }, some (32, true)⟩,
    ⟨some 42, Op.unOp UnOp.not 4 (Operand.tmp 41), some (32, true)⟩,
    ⟨some 43, Op.pick (Operand.tmp 32) (Operand.tmp 42) (Operand.const (Value.bool false)), none⟩] [])
  (.cond (Operand.tmp 43)
  .skip
  (.exit 2)))
  (.block 3 (.ops [⟨some 44, Op.move (Operand.tmp 9), none⟩,
    ⟨some 45, Op.binOp BinOp.add 3 (Operand.tmp 44) (Operand.const (Value.int IntKind.i64 1)) 3, none⟩,
    ⟨some 9, Op.assign (Operand.tmp 45), none⟩])))
def ir67_l1 : LC := (.seq (.seq (.draw [⟨some 46, Op.move (Operand.tmp 9), none⟩,
    ⟨some 47, Op.move (Operand.tmp 10), none⟩,
    ⟨some 48, Op.binOp BinOp.leq 3 (Operand.tmp 46) (Operand.tmp 47) 3, none⟩,
    ⟨some 49, Op.move (Operand.tmp 48), none⟩,
    ⟨some 50, Op.move (Operand.tmp 0), some (49, true)⟩,
    ⟨some 51, Op.move (Operand.tmp 1), some (49, true)⟩,
    ⟨some 52, Op.indexAddr 45 (Operand.tmp 50) (Operand.tmp 51), some (49, true)⟩,
    ⟨some 53, Op.load 2 (Operand.tmp 52), some (49, true)⟩,
    ⟨some 54, Op.move (Operand.tmp 0), some (49, true)⟩,
    ⟨some 55, Op.move (Operand.tmp 10), some (49, true)⟩,
    ⟨some 56, Op.indexAddr 45 (Operand.tmp 54) (Operand.tmp 55), some (49, true)⟩,
    ⟨some 57, Op.load 2 (Operand.tmp 56), some (49, true)⟩,
    ⟨some 58, Op.call { callee := Callee.value (Operand.func 66), args := #[Operand.tmp 53, Operand.tmp 57], argTypes := #[2, 2] }, some (49, true)⟩,
    ⟨some 59, Op.pick (Operand.tmp 49) (Operand.tmp 58) (Operand.const (Value.bool false)), none⟩] [])
  (.cond (Operand.tmp 59)
  .skip
  (.exit 4)))
  (.block 5 (.ops [⟨some 60, Op.move (Operand.tmp 10), none⟩,
    ⟨some 61, Op.binOp BinOp.sub 3 (Operand.tmp 60) (Operand.const (Value.int IntKind.i64 1)) 3, none⟩,
    ⟨some 10, Op.assign (Operand.tmp 61), none⟩])))
def ir67_l2 : LC := (.block 1 (.seq (.block 2 (.loop ir67_l0))
  (.seq (.block 4 (.loop ir67_l1))
  (.seq (.seq (.ops [⟨some 62, Op.move (Operand.tmp 9), none⟩,
    ⟨some 63, Op.move (Operand.tmp 10), none⟩,
    ⟨some 64, Op.binOp BinOp.gtr 3 (Operand.tmp 62) (Operand.tmp 63) 3, none⟩])
  (.cond (Operand.tmp 64)
  (.exit 0)
  .skip))
  (.seq (.draw [⟨some 65, Op.move (Operand.tmp 0), none⟩,
    ⟨some 66, Op.move (Operand.tmp 9), none⟩,
    ⟨some 67, Op.move (Operand.tmp 0), none⟩,
    ⟨some 68, Op.move (Operand.tmp 10), none⟩,
    ⟨some 69, Op.move (Operand.tmp 0), none⟩,
    ⟨some 70, Op.move (Operand.tmp 10), none⟩,
    ⟨some 71, Op.indexAddr 45 (Operand.tmp 69) (Operand.tmp 70), none⟩,
    ⟨some 72, Op.load 2 (Operand.tmp 71), none⟩,
    ⟨some 73, Op.move (Operand.tmp 0), none⟩,
    ⟨some 74, Op.move (Operand.tmp 9), none⟩,
    ⟨some 75, Op.indexAddr 45 (Operand.tmp 73) (Operand.tmp 74), none⟩,
    ⟨some 76, Op.load 2 (Operand.tmp 75), none⟩,
    ⟨some 77, Op.indexAddr 45 (Operand.tmp 65) (Operand.tmp 66), none⟩,
    ⟨none, Op.store 2 (Operand.tmp 77) (Operand.tmp 72), none⟩,
    ⟨some 78, Op.indexAddr 45 (Operand.tmp 67) (Operand.tmp 68), none⟩,
    ⟨none, Op.store 2 (Operand.tmp 78) (Operand.tmp 76), none⟩] [(2, 13), (3, 13)])
  (.seq (.ops [⟨some 79, Op.move (Operand.tmp 9), none⟩,
    ⟨some 80, Op.binOp BinOp.add 3 (Operand.tmp 79) (Operand.const (Value.int IntKind.i64 1)) 3, none⟩,
    ⟨some 9, Op.assign (Operand.tmp 80), none⟩])
  (.ops [⟨some 81, Op.move (Operand.tmp 10), none⟩,
    ⟨some 82, Op.binOp BinOp.sub 3 (Operand.tmp 81) (Operand.const (Value.int IntKind.i64 1)) 3, none⟩,
    ⟨some 10, Op.assign (Operand.tmp 82), none⟩])))))))
def ir67 : LC := (.seq (.ops [⟨some 8, Op.assign (Operand.const (Value.int IntKind.i64 0)), none⟩])
  (.seq (.draw [⟨some 11, Op.move (Operand.tmp 0), none⟩,
    ⟨some 12, Op.move (Operand.tmp 1), none⟩,
    ⟨some 13, Op.move (Operand.tmp 0), none⟩,
    ⟨some 14, Op.move (Operand.tmp 3), none⟩,
    ⟨some 15, Op.move (Operand.tmp 0), none⟩,
    ⟨some 16, Op.move (Operand.tmp 3), none⟩,
    ⟨some 17, Op.indexAddr 45 (Operand.tmp 15) (Operand.tmp 16), none⟩,
    ⟨some 18, Op.load 2 (Operand.tmp 17), none⟩,
    ⟨some 19, Op.move (Operand.tmp 0), none⟩,
    ⟨some 20, Op.move (Operand.tmp 1), none⟩,
    ⟨some 21, Op.indexAddr 45 (Operand.tmp 19) (Operand.tmp 20), none⟩,
    ⟨some 22, Op.load 2 (Operand.tmp 21), none⟩,
    ⟨some 23, Op.indexAddr 45 (Operand.tmp 11) (Operand.tmp 12), none⟩,
    ⟨none, Op.store 2 (Operand.tmp 23) (Operand.tmp 18), none⟩,
    ⟨some 24, Op.indexAddr 45 (Operand.tmp 13) (Operand.tmp 14), none⟩,
    ⟨none, Op.store 2 (Operand.tmp 24) (Operand.tmp 22), none⟩] [(2, 13), (3, 13)])
  (.seq (.ops [⟨some 25, Op.move (Operand.tmp 1), none⟩,
    ⟨some 26, Op.binOp BinOp.add 3 (Operand.tmp 25) (Operand.const (Value.int IntKind.i64 1)) 3, none⟩,
    ⟨some 27, Op.move (Operand.tmp 2), none⟩,
    ⟨some 28, Op.binOp BinOp.sub 3 (Operand.tmp 27) (Operand.const (Value.int IntKind.i64 1)) 3, none⟩,
    ⟨some 9, Op.assign (Operand.tmp 26), none⟩,
    ⟨some 10, Op.assign (Operand.tmp 28), none⟩])
  (.seq (.block 0 (.loop ir67_l2))
  (.seq (.ops [⟨some 83, Op.move (Operand.tmp 9), none⟩,
    ⟨some 8, Op.assign (Operand.tmp 83), none⟩])
  .ret)))))
theorem ir67_eq : (Try.f67.body.map low, Try.f67.ntmps, Try.f67.results.toList) = (some ir67, 84, [.tmp 8]) := by kernel_rfl
def ir68_l0 : LC := (.seq (.seq (.draw [⟨some 30, Op.move (Operand.tmp 10), none⟩,
    ⟨some 31, Op.move (Operand.tmp 11), none⟩,
    ⟨some 32, Op.binOp BinOp.leq 3 (Operand.tmp 30) (Operand.tmp 31) 3, none⟩,
    ⟨some 33, Op.move (Operand.tmp 32), none⟩,
    ⟨some 34, Op.move (Operand.tmp 0), some (33, true)⟩,
    ⟨some 35, Op.move (Operand.tmp 10), some (33, true)⟩,
    ⟨some 36, Op.indexAddr 45 (Operand.tmp 34) (Operand.tmp 35), some (33, true)⟩,
    ⟨some 37, Op.load 2 (Operand.tmp 36), some (33, true)⟩,
    ⟨some 38, Op.move (Operand.tmp 0), some (33, true)⟩,
    ⟨some 39, Op.move (Operand.tmp 1), some (33, true)⟩,
    ⟨some 40, Op.indexAddr 45 (Operand.tmp 38) (Operand.tmp 39), some (33, true)⟩,
    ⟨some 41, Op.load 2 (Operand.tmp 40), some (33, true)⟩,
    ⟨some 42, Op.call { callee := Callee.value (Operand.func 66), args := #[Operand.tmp 37, Operand.tmp 41], argTypes := #[2, 2] }, some (33, true)⟩,
    ⟨some 43, Op.pick (Operand.tmp 33) (Operand.tmp 42) (Operand.const (Value.bool false)), none⟩] [])
  (.cond (Operand.tmp 43)
  .skip
  (.exit 0)))
  (.block 1 (.ops [⟨some 44, Op.move (Operand.tmp 10), none⟩,
    ⟨some 45, Op.binOp BinOp.add 3 (Operand.tmp 44) (Operand.const (Value.int IntKind.i64 1)) 3, none⟩,
    ⟨some 10, Op.assign (Operand.tmp 45), none⟩])))
def ir68_l1 : LC := (.seq (.seq (.draw [⟨some 46, Op.move (Operand.tmp 10), none⟩,
    ⟨some 47, Op.move (Operand.tmp 11), none⟩,
    ⟨some 48, Op.binOp BinOp.leq 3 (Operand.tmp 46) (Operand.tmp 47) 3, none⟩,
    ⟨some 49, Op.move (Operand.tmp 48), none⟩,
    ⟨some 50, Op.move (Operand.tmp 0), some (49, true)⟩,
    ⟨some 51, Op.move (Operand.tmp 11), some (49, true)⟩,
    ⟨some 52, Op.indexAddr 45 (Operand.tmp 50) (Operand.tmp 51), some (49, true)⟩,
    ⟨some 53, Op.load 2 (Operand.tmp 52), some (49, true)⟩,
    ⟨some 54, Op.move (Operand.tmp 0), some (49, true)⟩,
    ⟨some 55, Op.move (Operand.tmp 1), some (49, true)⟩,
    ⟨some 56, Op.indexAddr 45 (Operand.tmp 54) (Operand.tmp 55), some (49, true)⟩,
    ⟨some 57, Op.load 2 (Operand.tmp 56), some (49, true)⟩,
    ⟨some 58, Op.call { callee := Callee.value (Operand.func 66), args := #[Operand.tmp 53, Operand.tmp 57], argTypes := #[2, 2] }, some (49, true)⟩,
    ⟨some 59, Op.unOp UnOp.not 4 (Operand.tmp 58), some (49, true)⟩,
    ⟨some 60, Op.pick (Operand.tmp 49) (Operand.tmp 59) (Operand.const (Value.bool false)), none⟩] [])
  (.cond (Operand.tmp 60)
  .skip
  (.exit 2)))
  (.block 3 (.ops [⟨some 61, Op.move (Operand.tmp 11), none⟩,
    ⟨some 62, Op.binOp BinOp.sub 3 (Operand.tmp 61) (Operand.const (Value.int IntKind.i64 1)) 3, none⟩,
    ⟨some 11, Op.assign (Operand.tmp 62), none⟩])))
def ir68_l2 : LC := (.seq (.seq (.draw [⟨some 99, Op.move (Operand.tmp 10), none⟩,
    ⟨some 100, Op.move (Operand.tmp 11), none⟩,
    ⟨some 101, Op.binOp BinOp.leq 3 (Operand.tmp 99) (Operand.tmp 100) 3, none⟩,
    ⟨some 102, Op.move (Operand.tmp 101), none⟩,
    ⟨some 103, Op.move (Operand.tmp 0), some (102, true)⟩,
    ⟨some 104, Op.move (Operand.tmp 10), some (102, true)⟩,
    ⟨some 105, Op.indexAddr 45 (Operand.tmp 103) (Operand.tmp 104), some (102, true)⟩,
    ⟨some 106, Op.load 2 (Operand.tmp 105), some (102, true)⟩,
    ⟨some 107, Op.move (Operand.tmp 0), some (102, true)⟩,
    ⟨some 108, Op.move (Operand.tmp 1), some (102, true)⟩,
    ⟨some 109, Op.indexAddr 45 (Operand.tmp 107) (Operand.tmp 108), some (102, true)⟩,
    ⟨some 110, Op.load 2 (Operand.tmp 109), some (102, true)⟩,
    ⟨some 111, Op.call { callee := Callee.value (Operand.func 66), args := #[Operand.tmp 106, Operand.tmp 110], argTypes := #[2, 2] }, some (102, true)⟩,
    ⟨some 112, Op.pick (Operand.tmp 102) (Operand.tmp 111) (Operand.const (Value.bool false)), none⟩] [])
  (.cond (Operand.tmp 112)
  .skip
  (.exit 6)))
  (.block 7 (.ops [⟨some 113, Op.move (Operand.tmp 10), none⟩,
    ⟨some 114, Op.binOp BinOp.add 3 (Operand.tmp 113) (Operand.const (Value.int IntKind.i64 1)) 3, none⟩,
    ⟨some 10, Op.assign (Operand.tmp 114), none⟩])))
def ir68_l3 : LC := (.seq (.seq (.draw [⟨some 115, Op.move (Operand.tmp 10), none⟩,
    ⟨some 116, Op.move (Operand.tmp 11), none⟩,
    ⟨some 117, Op.binOp BinOp.leq 3 (Operand.tmp 115) (Operand.tmp 116) 3, none⟩,
    ⟨some 118, Op.move (Operand.tmp 117), none⟩,
    ⟨some 119, Op.move (Operand.tmp 0), some (118, true)⟩,
    ⟨some 120, Op.move (Operand.tmp 11), some (118, true)⟩,
    ⟨some 121, Op.indexAddr 45 (Operand.tmp 119) (Operand.tmp 120), some (118, true)⟩,
    ⟨some 122, Op.load 2 (Operand.tmp 121), some (118, true)⟩,
    ⟨some 123, Op.move (Operand.tmp 0), some (118, true)⟩,
    ⟨some 124, Op.move (Operand.tmp 1), some (118, true)⟩,
    ⟨some 125, Op.indexAddr 45 (Operand.tmp 123) (Operand.tmp 124), some (118, true)⟩,
    ⟨some 126, Op.load 2 (Operand.tmp 125), some (118, true)⟩,
    ⟨some 127, Op.call { callee := Callee.value (Operand.func 66), args := #[Operand.tmp 122, Operand.tmp 126], argTypes := #[2, 2] }, some (118, true)⟩,
    ⟨some 128, Op.unOp UnOp.not 4 (Operand.tmp 127), some (118, true)⟩,
    ⟨some 129, Op.pick (Operand.tmp 118) (Operand.tmp 128) (Operand.const (Value.bool false)), none⟩] [])
  (.cond (Operand.tmp 129)
  .skip
  (.exit 8)))
  (.block 9 (.ops [⟨some 130, Op.move (Operand.tmp 11), none⟩,
    ⟨some 131, Op.binOp BinOp.sub 3 (Operand.tmp 130) (Operand.const (Value.int IntKind.i64 1)) 3, none⟩,
    ⟨some 11, Op.assign (Operand.tmp 131), none⟩])))
def ir68_l4 : LC := (.block 5 (.seq (.block 6 (.loop ir68_l2))
  (.seq (.block 8 (.loop ir68_l3))
  (.seq (.seq (.ops [⟨some 132, Op.move (Operand.tmp 10), none⟩,
    ⟨some 133, Op.move (Operand.tmp 11), none⟩,
    ⟨some 134, Op.binOp BinOp.gtr 3 (Operand.tmp 132) (Operand.tmp 133) 3, none⟩])
  (.cond (Operand.tmp 134)
  (.exit 4)
  .skip))
  (.seq (.draw [⟨some 135, Op.move (Operand.tmp 0), none⟩,
    ⟨some 136, Op.move (Operand.tmp 10), none⟩,
    ⟨some 137, Op.move (Operand.tmp 0), none⟩,
    ⟨some 138, Op.move (Operand.tmp 11), none⟩,
    ⟨some 139, Op.move (Operand.tmp 0), none⟩,
    ⟨some 140, Op.move (Operand.tmp 11), none⟩,
    ⟨some 141, Op.indexAddr 45 (Operand.tmp 139) (Operand.tmp 140), none⟩,
    ⟨some 142, Op.load 2 (Operand.tmp 141), none⟩,
    ⟨some 143, Op.move (Operand.tmp 0), none⟩,
    ⟨some 144, Op.move (Operand.tmp 10), none⟩,
    ⟨some 145, Op.indexAddr 45 (Operand.tmp 143) (Operand.tmp 144), none⟩,
    ⟨some 146, Op.load 2 (Operand.tmp 145), none⟩,
    ⟨some 147, Op.indexAddr 45 (Operand.tmp 135) (Operand.tmp 136), none⟩,
    ⟨none, Op.store 2 (Operand.tmp 147) (Operand.tmp 142), none⟩,
    ⟨some 148, Op.indexAddr 45 (Operand.tmp 137) (Operand.tmp 138), none⟩,
    ⟨none, Op.store 2 (Operand.tmp 148) (Operand.tmp 146), none⟩] [(2, 13), (3, 13)])
  (.seq (.ops [⟨some 149, Op.move (Operand.tmp 10), none⟩,
    ⟨some 150, Op.binOp BinOp.add 3 (Operand.tmp 149) (Operand.const (Value.int IntKind.i64 1)) 3, none⟩,
    ⟨some 10, Op.assign (Operand.tmp 150), none⟩])
  (.ops [⟨some 151, Op.move (Operand.tmp 11), none⟩,
    ⟨some 152, Op.binOp BinOp.sub 3 (Operand.tmp 151) (Operand.const (Value.int IntKind.i64 1)) 3, none⟩,
    ⟨some 11, Op.assign (Operand.tmp 152), none⟩])))))))
def ir68 : LC := (.seq (.ops [⟨some 8, Op.assign (Operand.const (Value.int IntKind.i64 0)), none⟩,
    ⟨some 9, Op.assign (Operand.const (Value.bool false)), none⟩])
  (.seq (.draw [⟨some 12, Op.move (Operand.tmp 0), none⟩,
    ⟨some 13, Op.move (Operand.tmp 1), none⟩,
    ⟨some 14, Op.move (Operand.tmp 0), none⟩,
    ⟨some 15, Op.move (Operand.tmp 3), none⟩,
    ⟨some 16, Op.move (Operand.tmp 0), none⟩,
    ⟨some 17, Op.move (Operand.tmp 3), none⟩,
    ⟨some 18, Op.indexAddr 45 (Operand.tmp 16) (Operand.tmp 17), none⟩,
    ⟨some 19, Op.load 2 (Operand.tmp 18), none⟩,
    ⟨some 20, Op.move (Operand.tmp 0), none⟩,
    ⟨some 21, Op.move (Operand.tmp 1), none⟩,
    ⟨some 22, Op.indexAddr 45 (Operand.tmp 20) (Operand.tmp 21), none⟩,
    ⟨some 23, Op.load 2 (Operand.tmp 22), none⟩,
    ⟨some 24, Op.indexAddr 45 (Operand.tmp 12) (Operand.tmp 13), none⟩,
    ⟨none, Op.store 2 (Operand.tmp 24) (Operand.tmp 19), none⟩,
    ⟨some 25, Op.indexAddr 45 (Operand.tmp 14) (Operand.tmp 15), none⟩,
    ⟨none, Op.store 2 (Operand.tmp 25) (Operand.tmp 23), none⟩] [(2, 13), (3, 13)])
  (.seq (.ops [⟨some 26, Op.move (Operand.tmp 1), none⟩,
    ⟨some 27, Op.binOp BinOp.add 3 (Operand.tmp 26) (Operand.const (Value.int IntKind.i64 1)) 3, none⟩,
    ⟨some 28, Op.move (Operand.tmp 2), none⟩,
    ⟨some 29, Op.binOp BinOp.sub 3 (Operand.tmp 28) (Operand.const (Value.int IntKind.i64 1)) 3, none⟩,
    ⟨some 10, Op.assign (Operand.tmp 27), none⟩,
    ⟨some 11, Op.assign (Operand.tmp 29), none⟩])
  (.seq (.block 0 (.loop ir68_l0))
  (.seq (.block 2 (.loop ir68_l1))
  (.seq (.seq (.ops [⟨some 63, Op.move (Operand.tmp 10), none⟩,
    ⟨some 64, Op.move (Operand.tmp 11), none⟩,
    ⟨some 65, Op.binOp BinOp.gtr 3 (Operand.tmp 63) (Operand.tmp 64) 3, none⟩])
  (.cond (Operand.tmp 65)
  (.seq (.draw [⟨some 66, Op.move (Operand.tmp 0), none⟩,
    ⟨some 67, Op.move (Operand.tmp 11), none⟩,
    ⟨some 68, Op.move (Operand.tmp 0), none⟩,
    ⟨some 69, Op.move (Operand.tmp 1), none⟩,
    ⟨some 70, Op.move (Operand.tmp 0), none⟩,
    ⟨some 71, Op.move (Operand.tmp 1), none⟩,
    ⟨some 72, Op.indexAddr 45 (Operand.tmp 70) (Operand.tmp 71), none⟩,
    ⟨some 73, Op.load 2 (Operand.tmp 72), none⟩,
    ⟨some 74, Op.move (Operand.tmp 0), none⟩,
    ⟨some 75, Op.move (Operand.tmp 11), none⟩,
    ⟨some 76, Op.indexAddr 45 (Operand.tmp 74) (Operand.tmp 75), none⟩,
    ⟨some 77, Op.load 2 (Operand.tmp 76), none⟩,
    ⟨some 78, Op.indexAddr 45 (Operand.tmp 66) (Operand.tmp 67), none⟩,
    ⟨none, Op.store 2 (Operand.tmp 78) (Operand.tmp 73), none⟩,
    ⟨some 79, Op.indexAddr 45 (Operand.tmp 68) (Operand.tmp 69), none⟩,
    ⟨none, Op.store 2 (Operand.tmp 79) (Operand.tmp 77), none⟩] [(2, 13), (3, 13)])
  (.seq (.ops [⟨some 80, Op.move (Operand.tmp 11), none⟩,
    ⟨some 8, Op.assign (Operand.tmp 80), none⟩,
    ⟨some 9, Op.assign (Operand.const (Value.bool true)), none⟩])
  .ret))
  .skip))
  (.seq (.draw [⟨some 81, Op.move (Operand.tmp 0), none⟩,
    ⟨some 82, Op.move (Operand.tmp 10), none⟩,
    ⟨some 83, Op.move (Operand.tmp 0), none⟩,
    ⟨some 84, Op.move (Operand.tmp 11), none⟩,
    ⟨some 85, Op.move (Operand.tmp 0), none⟩,
    ⟨some 86, Op.move (Operand.tmp 11), none⟩,
    ⟨some 87, Op.indexAddr 45 (Operand.tmp 85) (Operand.tmp 86), none⟩,
    ⟨some 88, Op.load 2 (Operand.tmp 87), none⟩,
    ⟨some 89, Op.move (Operand.tmp 0), none⟩,
    ⟨some 90, Op.move (Operand.tmp 10), none⟩,
    ⟨some 91, Op.indexAddr 45 (Operand.tmp 89) (Operand.tmp 90), none⟩,
    ⟨some 92, Op.load 2 (Operand.tmp 91), none⟩,
    ⟨some 93, Op.indexAddr 45 (Operand.tmp 81) (Operand.tmp 82), none⟩,
    ⟨none, Op.store 2 (Operand.tmp 93) (Operand.tmp 88), none⟩,
    ⟨some 94, Op.indexAddr 45 (Operand.tmp 83) (Operand.tmp 84), none⟩,
    ⟨none, Op.store 2 (Operand.tmp 94) (Operand.tmp 92), none⟩] [(2, 13), (3, 13)])
  (.seq (.ops [⟨some 95, Op.move (Operand.tmp 10), none⟩,
    ⟨some 96, Op.binOp BinOp.add 3 (Operand.tmp 95) (Operand.const (Value.int IntKind.i64 1)) 3, none⟩,
    ⟨some 10, Op.assign (Operand.tmp 96), none⟩])
  (.seq (.ops [⟨some 97, Op.move (Operand.tmp 11), none⟩,
    ⟨some 98, Op.binOp BinOp.sub 3 (Operand.tmp 97) (Operand.const (Value.int IntKind.i64 1)) 3, none⟩,
    ⟨some 11, Op.assign (Operand.tmp 98), none⟩])
  (.seq (.block 4 (.loop ir68_l4))
  (.seq (.draw [⟨some 153, Op.move (Operand.tmp 0), none⟩,
    ⟨some 154, Op.move (Operand.tmp 11), none⟩,
    ⟨some 155, Op.move (Operand.tmp 0), none⟩,
    ⟨some 156, Op.move (Operand.tmp 1), none⟩,
    ⟨some 157, Op.move (Operand.tmp 0), none⟩,
    ⟨some 158, Op.move (Operand.tmp 1), none⟩,
    ⟨some 159, Op.indexAddr 45 (Operand.tmp 157) (Operand.tmp 158), none⟩,
    ⟨some 160, Op.load 2 (Operand.tmp 159), none⟩,
    ⟨some 161, Op.move (Operand.tmp 0), none⟩,
    ⟨some 162, Op.move (Operand.tmp 11), none⟩,
    ⟨some 163, Op.indexAddr 45 (Operand.tmp 161) (Operand.tmp 162), none⟩,
    ⟨some 164, Op.load 2 (Operand.tmp 163), none⟩,
    ⟨some 165, Op.indexAddr 45 (Operand.tmp 153) (Operand.tmp 154), none⟩,
    ⟨none, Op.store 2 (Operand.tmp 165) (Operand.tmp 160), none⟩,
    ⟨some 166, Op.indexAddr 45 (Operand.tmp 155) (Operand.tmp 156), none⟩,
    ⟨none, Op.store 2 (Operand.tmp 166) (Operand.tmp 164), none⟩] [(2, 13), (3, 13)])
  (.seq (.ops [⟨some 167, Op.move (Operand.tmp 11), none⟩,
    ⟨some 8, Op.assign (Operand.tmp 167), none⟩,
    ⟨some 9, Op.assign (Operand.const (Value.bool false)), none⟩])
  .ret))))))))))))
theorem ir68_eq : (Try.f68.body.map low, Try.f68.ntmps, Try.f68.results.toList) = (some ir68, 168, [.tmp 8, .tmp 9]) := by kernel_rfl
def ir71_l0 : LC := (.block 1 (.seq (.ops [⟨some 11, Op.move (Operand.tmp 8), none⟩,
    ⟨some 12, Op.binOp BinOp.mul 3 (Operand.const (Value.int IntKind.i64 2)) (Operand.tmp 11) 3, none⟩,
    ⟨some 13, Op.binOp BinOp.add 3 (Operand.tmp 12) (Operand.const (Value.int IntKind.i64 1)) 3, none⟩,
    ⟨some 9, Op.assign (Operand.tmp 13), none⟩])
  (.seq (.seq (.ops [⟨some 14, Op.move (Operand.tmp 9), none⟩,
    ⟨some 15, Op.move (Operand.tmp 2), none⟩,
    ⟨some 16, Op.binOp BinOp.geq 3 (Operand.tmp 14) (Operand.tmp 15) 3, none⟩])
  (.cond (Operand.tmp 16)
  (.exit 0)
  .skip))
  (.seq (.seq (.draw [⟨some 17, Op.move (Operand.tmp 9), none⟩,
    ⟨some 18, Op.binOp BinOp.add 3 (Operand.tmp 17) (Operand.const (Value.int IntKind.i64 1)) 3, none⟩,
    ⟨some 19, Op.move (Operand.tmp 2), none⟩,
    ⟨some 20, Op.binOp BinOp.lss 3 (Operand.tmp 18) (Operand.tmp 19) 3, none⟩,
    ⟨some 21, Op.move (Operand.tmp 20), none⟩,
    ⟨some 22, Op.move (Operand.tmp 0), some (21, true)⟩,
    ⟨some 23, Op.move (Operand.tmp 3), some (21, true)⟩,
    ⟨some 24, Op.move (Operand.tmp 9), some (21, true)⟩,
    ⟨some 25, Op.binOp BinOp.add 3 (Operand.tmp 23) (Operand.tmp 24) 3, some (21, true)⟩,
    ⟨some 26, Op.indexAddr 45 (Operand.tmp 22) (Operand.tmp 25), some (21, true)⟩,
    ⟨some 27, Op.load 2 (Operand.tmp 26), some (21, true)⟩,
    ⟨some 28, Op.move (Operand.tmp 0), some (21, true)⟩,
    ⟨some 29, Op.move (Operand.tmp 3), some (21, true)⟩,
    ⟨some 30, Op.move (Operand.tmp 9), some (21, true)⟩,
    ⟨some 31, Op.binOp BinOp.add 3 (Operand.tmp 29) (Operand.tmp 30) 3, some (21, true)⟩,
    ⟨some 32, Op.binOp BinOp.add 3 (Operand.tmp 31) (Operand.const (Value.int IntKind.i64 1)) 3, some (21, true)⟩,
    ⟨some 33, Op.indexAddr 45 (Operand.tmp 28) (Operand.tmp 32), some (21, true)⟩,
    ⟨some 34, Op.load 2 (Operand.tmp 33), some (21, true)⟩,
    ⟨some 35, Op.call { callee := Callee.value (Operand.func 66), args := #[Operand.tmp 27, Operand.tmp 34], argTypes := #[2, 2] }, some (21, true)⟩,
    ⟨some 36, Op.pick (Operand.tmp 21) (Operand.tmp 35) (Operand.const (Value.bool false)), none⟩] [])
  (.cond (Operand.tmp 36)
  (.ops [⟨some 37, Op.move (Operand.tmp 9), none⟩,
    ⟨some 38, Op.binOp BinOp.add 3 (Operand.tmp 37) (Operand.const (Value.int IntKind.i64 1)) 3, none⟩,
    ⟨some 9, Op.assign (Operand.tmp 38), none⟩])
  .skip))
  (.seq (.seq (.draw [⟨some 39, Op.move (Operand.tmp 0), none⟩,
    ⟨some 40, Op.move (Operand.tmp 3), none⟩,
    ⟨some 41, Op.move (Operand.tmp 8), none⟩,
    ⟨some 42, Op.binOp BinOp.add 3 (Operand.tmp 40) (Operand.tmp 41) 3, none⟩,
    ⟨some 43, Op.indexAddr 45 (Operand.tmp 39) (Operand.tmp 42), none⟩,
    ⟨some 44, Op.load 2 (Operand.tmp 43), none⟩,
    ⟨some 45, Op.move (Operand.tmp 0), none⟩,
    ⟨some 46, Op.move (Operand.tmp 3), none⟩,
    ⟨some 47, Op.move (Operand.tmp 9), none⟩,
    ⟨some 48, Op.binOp BinOp.add 3 (Operand.tmp 46) (Operand.tmp 47) 3, none⟩,
    ⟨some 49, Op.indexAddr 45 (Operand.tmp 45) (Operand.tmp 48), none⟩,
    ⟨some 50, Op.load 2 (Operand.tmp 49), none⟩,
    ⟨some 51, Op.call { callee := Callee.value (Operand.func 66), args := #[Operand.tmp 44, Operand.tmp 50], argTypes := #[2, 2] }, none⟩,
    ⟨some 52, Op.unOp UnOp.not 4 (Operand.tmp 51), none⟩] [])
  (.cond (Operand.tmp 52)
  .ret
  .skip))
  (.seq (.draw [⟨some 53, Op.move (Operand.tmp 0), none⟩,
    ⟨some 54, Op.move (Operand.tmp 3), none⟩,
    ⟨some 55, Op.move (Operand.tmp 8), none⟩,
    ⟨some 56, Op.binOp BinOp.add 3 (Operand.tmp 54) (Operand.tmp 55) 3, none⟩,
    ⟨some 57, Op.move (Operand.tmp 0), none⟩,
    ⟨some 58, Op.move (Operand.tmp 3), none⟩,
    ⟨some 59, Op.move (Operand.tmp 9), none⟩,
    ⟨some 60, Op.binOp BinOp.add 3 (Operand.tmp 58) (Operand.tmp 59) 3, none⟩,
    ⟨some 61, Op.move (Operand.tmp 0), none⟩,
    ⟨some 62, Op.move (Operand.tmp 3), none⟩,
    ⟨some 63, Op.move (Operand.tmp 9), none⟩,
    ⟨some 64, Op.binOp BinOp.add 3 (Operand.tmp 62) (Operand.tmp 63) 3, none⟩,
    ⟨some 65, Op.indexAddr 45 (Operand.tmp 61) (Operand.tmp 64), none⟩,
    ⟨some 66, Op.load 2 (Operand.tmp 65), none⟩,
    ⟨some 67, Op.move (Operand.tmp 0), none⟩,
    ⟨some 68, Op.move (Operand.tmp 3), none⟩,
    ⟨some 69, Op.move (Operand.tmp 8), none⟩,
    ⟨some 70, Op.binOp BinOp.add 3 (Operand.tmp 68) (Operand.tmp 69) 3, none⟩,
    ⟨some 71, Op.indexAddr 45 (Operand.tmp 67) (Operand.tmp 70), none⟩,
    ⟨some 72, Op.load 2 (Operand.tmp 71), none⟩,
    ⟨some 73, Op.indexAddr 45 (Operand.tmp 53) (Operand.tmp 56), none⟩,
    ⟨none, Op.store 2 (Operand.tmp 73) (Operand.tmp 66), none⟩,
    ⟨some 74, Op.indexAddr 45 (Operand.tmp 57) (Operand.tmp 60), none⟩,
    ⟨none, Op.store 2 (Operand.tmp 74) (Operand.tmp 72), none⟩] [(4, 21), (5, 21), (6, 21), (7, 21)])
  (.ops [⟨some 75, Op.move (Operand.tmp 9), none⟩,
    ⟨some 8, Op.assign (Operand.tmp 75), none⟩])))))))
def ir71 : LC := (.seq (.ops [⟨some 10, Op.move (Operand.tmp 1), none⟩,
    ⟨some 8, Op.assign (Operand.tmp 10), none⟩])
  (.block 0 (.loop ir71_l0)))
theorem ir71_eq : (Try.f71.body.map low, Try.f71.ntmps, Try.f71.results.toList) = (some ir71, 76, []) := by kernel_rfl
def ir72 : LC := (.seq (.ops [⟨some 2, Op.assign (Operand.const (Value.int IntKind.u64 0)), none⟩])
  (.seq (.ops [⟨some 3, Op.move (Operand.tmp 0), none⟩,
    ⟨some 4, Op.convert 3 95 (Operand.tmp 3), none⟩,
    ⟨some 5, Op.call { callee := Callee.value (Operand.func 59), args := #[Operand.tmp 4], argTypes := #[95] }, none⟩,
    ⟨some 6, Op.binOp BinOp.shl 95 (Operand.const (Value.int IntKind.u64 1)) (Operand.tmp 5) 3, none⟩,
    ⟨some 2, Op.assign (Operand.tmp 6), none⟩])
  .ret))
theorem ir72_eq : (Try.f72.body.map low, Try.f72.ntmps, Try.f72.results.toList) = (some ir72, 7, [.tmp 2]) := by kernel_rfl
def ir73 : LC := (.seq (.ops [⟨some 2, Op.assign (Operand.const (Value.int IntKind.u64 0)), none⟩])
  (.seq (.draw [⟨some 3, Op.move (Operand.tmp 0), none⟩,
    ⟨some 4, Op.nilCheck (Operand.tmp 3), none⟩,
    ⟨some 5, Op.load 108 (Operand.tmp 4), none⟩,
    ⟨some 6, Op.move (Operand.tmp 0), none⟩,
    ⟨some 7, Op.nilCheck (Operand.tmp 6), none⟩,
    ⟨some 8, Op.load 108 (Operand.tmp 7), none⟩,
    ⟨some 9, Op.binOp BinOp.shl 108 (Operand.tmp 8) (Operand.const (Value.int IntKind.u64 13)) 95, none⟩,
    ⟨some 10, Op.binOp BinOp.xor 108 (Operand.tmp 5) (Operand.tmp 9) 108, none⟩,
    ⟨some 11, Op.nilCheck (Operand.tmp 3), none⟩,
    ⟨none, Op.store 108 (Operand.tmp 11) (Operand.tmp 10), none⟩] [])
  (.seq (.draw [⟨some 12, Op.move (Operand.tmp 0), none⟩,
    ⟨some 13, Op.nilCheck (Operand.tmp 12), none⟩,
    ⟨some 14, Op.load 108 (Operand.tmp 13), none⟩,
    ⟨some 15, Op.move (Operand.tmp 0), none⟩,
    ⟨some 16, Op.nilCheck (Operand.tmp 15), none⟩,
    ⟨some 17, Op.load 108 (Operand.tmp 16), none⟩,
    ⟨some 18, Op.binOp BinOp.shr 108 (Operand.tmp 17) (Operand.const (Value.int IntKind.u64 7)) 95, none⟩,
    ⟨some 19, Op.binOp BinOp.xor 108 (Operand.tmp 14) (Operand.tmp 18) 108, none⟩,
    ⟨some 20, Op.nilCheck (Operand.tmp 12), none⟩,
    ⟨none, Op.store 108 (Operand.tmp 20) (Operand.tmp 19), none⟩] [])
  (.seq (.draw [⟨some 21, Op.move (Operand.tmp 0), none⟩,
    ⟨some 22, Op.nilCheck (Operand.tmp 21), none⟩,
    ⟨some 23, Op.load 108 (Operand.tmp 22), none⟩,
    ⟨some 24, Op.move (Operand.tmp 0), none⟩,
    ⟨some 25, Op.nilCheck (Operand.tmp 24), none⟩,
    ⟨some 26, Op.load 108 (Operand.tmp 25), none⟩,
    ⟨some 27, Op.binOp BinOp.shl 108 (Operand.tmp 26) (Operand.const (Value.int IntKind.u64 17)) 95, none⟩,
    ⟨some 28, Op.binOp BinOp.xor 108 (Operand.tmp 23) (Operand.tmp 27) 108, none⟩,
    ⟨some 29, Op.nilCheck (Operand.tmp 21), none⟩,
    ⟨none, Op.store 108 (Operand.tmp 29) (Operand.tmp 28), none⟩] [])
  (.seq (.ops [⟨some 30, Op.move (Operand.tmp 0), none⟩,
    ⟨some 31, Op.nilCheck (Operand.tmp 30), none⟩,
    ⟨some 32, Op.load 108 (Operand.tmp 31), none⟩,
    ⟨some 2, Op.assign (Operand.tmp 32), none⟩])
  .ret)))))
theorem ir73_eq : (Try.f73.body.map low, Try.f73.ntmps, Try.f73.results.toList) = (some ir73, 33, [.tmp 2]) := by kernel_rfl
def ir74 : LC := (.seq (.ops [⟨some 6, Op.assign (Operand.const (Value.int IntKind.i64 0)), none⟩])
  (.seq (.ops [⟨some 7, Op.move (Operand.tmp 0), none⟩,
    ⟨some 8, Op.move (Operand.tmp 1), none⟩,
    ⟨some 9, Op.binOp BinOp.sub 3 (Operand.tmp 8) (Operand.const (Value.int IntKind.i64 1)) 3, none⟩,
    ⟨some 10, Op.move (Operand.tmp 1), none⟩,
    ⟨some 11, Op.move (Operand.tmp 1), none⟩,
    ⟨some 12, Op.binOp BinOp.add 3 (Operand.tmp 11) (Operand.const (Value.int IntKind.i64 1)) 3, none⟩,
    ⟨some 13, Op.move (Operand.tmp 2), none⟩,
    ⟨some 14, Op.call { callee := Callee.value (Operand.func 75), args := #[Operand.tmp 7, Operand.tmp 9, Operand.tmp 10, Operand.tmp 12, Operand.tmp 13], argTypes := #[45, 3, 3, 3, 112] }, none⟩,
    ⟨some 6, Op.assign (Operand.tmp 14), none⟩])
  .ret))
theorem ir74_eq : (Try.f74.body.map low, Try.f74.ntmps, Try.f74.results.toList) = (some ir74, 15, [.tmp 6]) := by kernel_rfl
def ir75 : LC := (.seq (.ops [⟨some 10, Op.assign (Operand.const (Value.int IntKind.i64 0)), none⟩])
  (.seq (.ops [⟨some 12, Op.move (Operand.tmp 0), none⟩,
    ⟨some 13, Op.move (Operand.tmp 1), none⟩,
    ⟨some 14, Op.move (Operand.tmp 2), none⟩,
    ⟨some 15, Op.move (Operand.tmp 4), none⟩,
    ⟨some 16, Op.call { callee := Callee.value (Operand.func 77), args := #[Operand.tmp 12, Operand.tmp 13, Operand.tmp 14, Operand.tmp 15], argTypes := #[45, 3, 3, 112] }, none⟩,
    ⟨some 11, Op.move (Operand.tmp 16), none⟩,
    ⟨some 17, Op.extract (Operand.tmp 11) 0, none⟩,
    ⟨some 18, Op.extract (Operand.tmp 11) 1, none⟩,
    ⟨some 1, Op.assign (Operand.tmp 17), none⟩,
    ⟨some 2, Op.assign (Operand.tmp 18), none⟩])
  (.seq (.ops [⟨some 20, Op.move (Operand.tmp 0), none⟩,
    ⟨some 21, Op.move (Operand.tmp 2), none⟩,
    ⟨some 22, Op.move (Operand.tmp 3), none⟩,
    ⟨some 23, Op.move (Operand.tmp 4), none⟩,
    ⟨some 24, Op.call { callee := Callee.value (Operand.func 77), args := #[Operand.tmp 20, Operand.tmp 21, Operand.tmp 22, Operand.tmp 23], argTypes := #[45, 3, 3, 112] }, none⟩,
    ⟨some 19, Op.move (Operand.tmp 24), none⟩,
    ⟨some 25, Op.extract (Operand.tmp 19) 0, none⟩,
    ⟨some 26, Op.extract (Operand.tmp 19) 1, none⟩,
    ⟨some 2, Op.assign (Operand.tmp 25), none⟩,
    ⟨some 3, Op.assign (Operand.tmp 26), none⟩])
  (.seq (.ops [⟨some 28, Op.move (Operand.tmp 0), none⟩,
    ⟨some 29, Op.move (Operand.tmp 1), none⟩,
    ⟨some 30, Op.move (Operand.tmp 2), none⟩,
    ⟨some 31, Op.move (Operand.tmp 4), none⟩,
    ⟨some 32, Op.call { callee := Callee.value (Operand.func 77), args := #[Operand.tmp 28, Operand.tmp 29, Operand.tmp 30, Operand.tmp 31], argTypes := #[45, 3, 3, 112] }, none⟩,
    ⟨some 27, Op.move (Operand.tmp 32), none⟩,
    ⟨some 33, Op.extract (Operand.tmp 27) 0, none⟩,
    ⟨some 34, Op.extract (Operand.tmp 27) 1, none⟩,
    ⟨some 1, Op.assign (Operand.tmp 33), none⟩,
    ⟨some 2, Op.assign (Operand.tmp 34), none⟩])
  (.seq (.ops [⟨some 35, Op.move (Operand.tmp 2), none⟩,
    ⟨some 10, Op.assign (Operand.tmp 35), none⟩])
  .ret)))))
theorem ir75_eq : (Try.f75.body.map low, Try.f75.ntmps, Try.f75.results.toList) = (some ir75, 36, [.tmp 10]) := by kernel_rfl
def ir76 : LC := (.seq (.ops [⟨some 2, Op.assign (Operand.const (Value.bool false)), none⟩])
  (.seq (.ops [⟨some 3, Op.move (Operand.tmp 0), none⟩,
    ⟨some 4, Op.move (Operand.tmp 0), none⟩,
    ⟨some 5, Op.binOp BinOp.neq 2 (Operand.tmp 3) (Operand.tmp 4) 2, none⟩,
    ⟨some 2, Op.assign (Operand.tmp 5), none⟩])
  .ret))
theorem ir76_eq : (Try.f76.body.map low, Try.f76.ntmps, Try.f76.results.toList) = (some ir76, 6, [.tmp 2]) := by kernel_rfl
def ir77 : LC := (.seq (.ops [⟨some 8, Op.assign (Operand.const (Value.int IntKind.i64 0)), none⟩,
    ⟨some 9, Op.assign (Operand.const (Value.int IntKind.i64 0)), none⟩])
  (.seq (.seq (.draw [⟨some 10, Op.move (Operand.tmp 0), none⟩,
    ⟨some 11, Op.move (Operand.tmp 2), none⟩,
    ⟨some 12, Op.indexAddr 45 (Operand.tmp 10) (Operand.tmp 11), none⟩,
    ⟨some 13, Op.load 2 (Operand.tmp 12), none⟩,
    ⟨some 14, Op.move (Operand.tmp 0), none⟩,
    ⟨some 15, Op.move (Operand.tmp 1), none⟩,
    ⟨some 16, Op.indexAddr 45 (Operand.tmp 14) (Operand.tmp 15), none⟩,
    ⟨some 17, Op.load 2 (Operand.tmp 16), none⟩,
    ⟨some 18, Op.call { callee := Callee.value (Operand.func 66), args := #[Operand.tmp 13, Operand.tmp 17], argTypes := #[2, 2] }, none⟩] [])
  (.cond (Operand.tmp 18)
  (.seq (.ops [⟨some 19, Op.move (Operand.tmp 3), none⟩,
    ⟨some 20, Op.nilCheck (Operand.tmp 19), none⟩,
    ⟨some 21, Op.load 3 (Operand.tmp 20), none⟩,
    ⟨some 22, Op.binOp BinOp.add 3 (Operand.tmp 21) (Operand.const (Value.int IntKind.i64 1)) 3, none⟩,
    ⟨some 23, Op.nilCheck (Operand.tmp 19), none⟩,
    ⟨none, Op.store 3 (Operand.tmp 23) (Operand.tmp 22), none⟩])
  (.seq (.ops [⟨some 24, Op.move (Operand.tmp 2), none⟩,
    ⟨some 25, Op.move (Operand.tmp 1), none⟩,
    ⟨some 8, Op.assign (Operand.tmp 24), none⟩,
    ⟨some 9, Op.assign (Operand.tmp 25), none⟩])
  .ret))
  .skip))
  (.seq (.ops [⟨some 26, Op.move (Operand.tmp 1), none⟩,
    ⟨some 27, Op.move (Operand.tmp 2), none⟩,
    ⟨some 8, Op.assign (Operand.tmp 26), none⟩,
    ⟨some 9, Op.assign (Operand.tmp 27), none⟩])
  .ret)))
theorem ir77_eq : (Try.f77.body.map low, Try.f77.ntmps, Try.f77.results.toList) = (some ir77, 28, [.tmp 8, .tmp 9]) := by kernel_rfl
end Go.Proofs.Ytehgjkopobkbmaa
