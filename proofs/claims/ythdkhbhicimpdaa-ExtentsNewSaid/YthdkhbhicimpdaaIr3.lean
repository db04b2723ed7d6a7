/- The code of this seat struck bare (printed by program). -/
import Derived.Test.YthdkhbhicimpdaaProg
import Derived.Test.YthdkhbhicimpdaaV4
import Derived.KernelRfl
set_option linter.unusedVariables false
set_option linter.unusedSimpArgs false
set_option linter.unusedSimpArgs false
set_option maxRecDepth 100000
namespace Go.Proofs.Ythdkhbhicimpdaa
open Go Go.Vm
def ir3_l0 : LC := (.seq (.seq (.ops [⟨some 33, Op.move (Operand.tmp 8), none⟩,
    ⟨some 34, Op.move (Operand.tmp 1), none⟩,
    ⟨some 35, Op.call { callee := Callee.builtin Builtin.len, args := #[Operand.tmp 34], argTypes := #[22] }, none⟩,
    ⟨some 36, Op.binOp BinOp.lss 3 (Operand.tmp 33) (Operand.tmp 35) 3, none⟩])
  (.cond (Operand.tmp 36)
  .skip
  (.exit 0)))
  (.seq (.block 1 (.seq (.ops [⟨some 40, Op.fieldAddr 29 (Operand.tmp 5) 0, none⟩,
    ⟨some 41, Op.load 25 (Operand.tmp 40), none⟩,
    ⟨some 42, Op.move (Operand.tmp 8), none⟩,
    ⟨some 43, Op.call { callee := Callee.value (Operand.func 11), args := #[Operand.tmp 41, Operand.tmp 42], argTypes := #[25, 3] }, none⟩,
    ⟨some 39, Op.move (Operand.tmp 43), none⟩,
    ⟨some 44, Op.extract (Operand.tmp 39) 0, none⟩,
    ⟨some 45, Op.extract (Operand.tmp 39) 1, none⟩,
    ⟨some 46, Op.extract (Operand.tmp 39) 2, none⟩,
    ⟨some 9, Op.assign (Operand.tmp 44), none⟩,
    ⟨some 10, Op.assign (Operand.tmp 45), none⟩,
    ⟨some 11, Op.assign (Operand.tmp 46), none⟩])
  (.seq (.seq (.ops [⟨some 47, Op.move (Operand.tmp 9), none⟩,
    ⟨some 48, Op.move (Operand.tmp 7), none⟩,
    ⟨some 49, Op.binOp BinOp.neq 3 (Operand.tmp 47) (Operand.tmp 48) 3, none⟩,
    ⟨some 50, Op.move (Operand.tmp 49), none⟩,
    ⟨some 51, Op.move (Operand.tmp 10), some (50, false)⟩,
    ⟨some 52, Op.move (Operand.tmp 1), some (50, false)⟩,
    ⟨some 53, Op.move (Operand.tmp 8), some (50, false)⟩,
    ⟨some 54, Op.indexAddr 22 (Operand.tmp 52) (Operand.tmp 53), some (50, false)⟩,
    ⟨some 55, Op.load 3 (Operand.tmp 54), some (50, false)⟩,
    ⟨some 56, Op.binOp BinOp.neq 3 (Operand.tmp 51) (Operand.tmp 55) 3, some (50, false)⟩,
    ⟨some 57, Op.pick (Operand.tmp 50) (Operand.const (Value.bool true)) (Operand.tmp 56), none⟩,
    ⟨some 58, Op.move (Operand.tmp 57), none⟩,
    ⟨some 59, Op.move (Operand.tmp 11), some (58, false)⟩,
    ⟨some 60, Op.unOp UnOp.not 4 (Operand.tmp 59), some (58, false)⟩,
    ⟨some 61, Op.pick (Operand.tmp 58) (Operand.const (Value.bool true)) (Operand.tmp 60), none⟩])
  (.cond (Operand.tmp 61)
  (.seq (.ops [⟨some 4, Op.assign (Operand.const (Value.bool false)), none⟩])
  .ret)
  .skip))
  (.ops [⟨some 62, Op.move (Operand.tmp 7), none⟩,
    ⟨some 63, Op.move (Operand.tmp 10), none⟩,
    ⟨some 64, Op.binOp BinOp.add 3 (Operand.tmp 62) (Operand.tmp 63) 3, none⟩,
    ⟨some 7, Op.assign (Operand.tmp 64), none⟩]))))
  (.ops [⟨some 37, Op.move (Operand.tmp 8), none⟩,
    ⟨some 38, Op.binOp BinOp.add 3 (Operand.tmp 37) (Operand.const (Value.int IntKind.i64 1)) 3, none⟩,
    ⟨some 8, Op.assign (Operand.tmp 38), none⟩])))
def ir3 : LC := (.seq (.ops [⟨some 4, Op.assign (Operand.const (Value.bool false)), none⟩])
  (.seq (.seq (.ops [⟨some 12, Op.move (Operand.tmp 0), none⟩,
    ⟨some 13, Op.move (Operand.tmp 1), none⟩,
    ⟨some 14, Op.call { callee := Callee.value (Operand.func 8), args := #[Operand.tmp 12, Operand.tmp 13, Operand.const (Value.slice none 0 0)], argTypes := #[3, 22, 36] }, none⟩])
  (.cond (Operand.tmp 14)
  (.seq (.ops [⟨some 15, Op.call { callee := Callee.value (Operand.func 9), args := #[], argTypes := #[] }, none⟩,
    ⟨some 4, Op.assign (Operand.tmp 15), none⟩])
  .ret)
  .skip))
  (.seq (.ops [⟨some 17, Op.move (Operand.tmp 0), none⟩,
    ⟨some 18, Op.move (Operand.tmp 1), none⟩,
    ⟨some 19, Op.call { callee := Callee.value (Operand.func 10), args := #[Operand.tmp 17, Operand.tmp 18], argTypes := #[3, 22] }, none⟩,
    ⟨some 16, Op.move (Operand.tmp 19), none⟩,
    ⟨some 20, Op.extract (Operand.tmp 16) 0, none⟩,
    ⟨some 21, Op.extract (Operand.tmp 16) 1, none⟩,
    ⟨some 5, Op.alloc 29, none⟩,
    ⟨none, Op.store 29 (Operand.tmp 5) (Operand.tmp 20), none⟩,
    ⟨some 6, Op.assign (Operand.tmp 21), none⟩])
  (.seq (.seq (.ops [⟨some 22, Op.move (Operand.tmp 6), none⟩,
    ⟨some 23, Op.unOp UnOp.not 4 (Operand.tmp 22), none⟩,
    ⟨some 24, Op.move (Operand.tmp 23), none⟩,
    ⟨some 25, Op.fieldAddr 29 (Operand.tmp 5) 2, some (24, false)⟩,
    ⟨some 26, Op.load 27 (Operand.tmp 25), some (24, false)⟩,
    ⟨some 27, Op.binOp BinOp.eql 27 (Operand.tmp 26) (Operand.const (Value.pointer none)) 27, some (24, false)⟩,
    ⟨some 28, Op.pick (Operand.tmp 24) (Operand.const (Value.bool true)) (Operand.tmp 27), none⟩])
  (.cond (Operand.tmp 28)
  (.seq (.ops [⟨some 29, Op.move (Operand.tmp 6), none⟩,
    ⟨some 30, Op.move (Operand.tmp 29), none⟩,
    ⟨some 31, Op.call { callee := Callee.value (Operand.func 9), args := #[], argTypes := #[] }, some (30, true)⟩,
    ⟨some 32, Op.pick (Operand.tmp 30) (Operand.tmp 31) (Operand.const (Value.bool false)), none⟩,
    ⟨some 4, Op.assign (Operand.tmp 32), none⟩])
  .ret)
  .skip))
  (.seq (.ops [⟨some 7, Op.assign (Operand.const (Value.int IntKind.i64 0)), none⟩])
  (.seq (.seq (.ops [⟨some 8, Op.assign (Operand.const (Value.int IntKind.i64 0)), none⟩])
  (.block 0 (.loop ir3_l0)))
  (.seq (.ops [⟨some 65, Op.load 29 (Operand.tmp 5), none⟩,
    ⟨some 66, Op.call { callee := Callee.value (Operand.func 12), args := #[Operand.tmp 65, Operand.const (Value.int IntKind.i64 0)], argTypes := #[29, 3] }, none⟩,
    ⟨some 67, Op.move (Operand.tmp 66), none⟩,
    ⟨some 68, Op.call { callee := Callee.value (Operand.func 9), args := #[], argTypes := #[] }, some (67, true)⟩,
    ⟨some 69, Op.pick (Operand.tmp 67) (Operand.tmp 68) (Operand.const (Value.bool false)), none⟩,
    ⟨some 4, Op.assign (Operand.tmp 69), none⟩])
  .ret)))))))
theorem ir3_eq : (Try.f3.body.map low, Try.f3.ntmps, Try.f3.results.toList) = (some ir3, 70, [.tmp 4]) := by kernel_rfl
def ir10_l0 : LC := (.seq (.seq (.ops [⟨some 55, Op.move (Operand.tmp 14), none⟩,
    ⟨some 56, Op.move (Operand.tmp 1), none⟩,
    ⟨some 57, Op.call { callee := Callee.builtin Builtin.len, args := #[Operand.tmp 56], argTypes := #[22] }, none⟩,
    ⟨some 58, Op.binOp BinOp.lss 3 (Operand.tmp 55) (Operand.tmp 57) 3, none⟩])
  (.cond (Operand.tmp 58)
  .skip
  (.exit 0)))
  (.seq (.block 1 (.seq (.seq (.draw [⟨some 61, Op.move (Operand.tmp 9), none⟩,
    ⟨some 62, Op.move (Operand.tmp 14), none⟩,
    ⟨some 63, Op.indexAddr 22 (Operand.tmp 61) (Operand.tmp 62), none⟩,
    ⟨some 64, Op.load 3 (Operand.tmp 63), none⟩,
    ⟨some 65, Op.move (Operand.tmp 1), none⟩,
    ⟨some 66, Op.move (Operand.tmp 14), none⟩,
    ⟨some 67, Op.indexAddr 22 (Operand.tmp 65) (Operand.tmp 66), none⟩,
    ⟨some 68, Op.load 3 (Operand.tmp 67), none⟩,
    ⟨some 69, Op.binOp BinOp.neq 3 (Operand.tmp 64) (Operand.tmp 68) 3, none⟩] [])
  (.cond (Operand.tmp 69)
  (.seq (.ops [⟨some 70, Op.build 29 #[], none⟩,
    ⟨none, Op.store 29 (Operand.tmp 4) (Operand.tmp 70), none⟩,
    ⟨some 5, Op.assign (Operand.const (Value.bool false)), none⟩])
  .ret)
  .skip))
  (.ops [⟨some 71, Op.move (Operand.tmp 9), none⟩,
    ⟨some 72, Op.move (Operand.tmp 14), none⟩,
    ⟨some 73, Op.indexAddr 22 (Operand.tmp 71) (Operand.tmp 72), none⟩,
    ⟨none, Op.store 3 (Operand.tmp 73) (Operand.const (Value.int IntKind.i64 99)), none⟩])))
  (.ops [⟨some 59, Op.move (Operand.tmp 14), none⟩,
    ⟨some 60, Op.binOp BinOp.add 3 (Operand.tmp 59) (Operand.const (Value.int IntKind.i64 1)) 3, none⟩,
    ⟨some 14, Op.assign (Operand.tmp 60), none⟩])))
def ir10 : LC := (.seq (.ops [⟨some 4, Op.alloc 29, none⟩,
    ⟨some 5, Op.assign (Operand.const (Value.bool false)), none⟩])
  (.seq (.ops [⟨some 16, Op.move (Operand.tmp 0), none⟩,
    ⟨some 17, Op.call { callee := Callee.value (Operand.func 13), args := #[Operand.tmp 16], argTypes := #[3] }, none⟩,
    ⟨some 15, Op.move (Operand.tmp 17), none⟩,
    ⟨some 18, Op.extract (Operand.tmp 15) 0, none⟩,
    ⟨some 19, Op.extract (Operand.tmp 15) 1, none⟩,
    ⟨some 6, Op.assign (Operand.tmp 18), none⟩,
    ⟨some 7, Op.assign (Operand.tmp 19), none⟩])
  (.seq (.ops [⟨some 20, Op.move (Operand.tmp 0), none⟩,
    ⟨some 21, Op.call { callee := Callee.value (Operand.func 30), args := #[Operand.tmp 20], argTypes := #[3] }, none⟩,
    ⟨some 8, Op.assign (Operand.tmp 21), none⟩])
  (.seq (.seq (.ops [⟨some 22, Op.move (Operand.tmp 6), none⟩,
    ⟨some 23, Op.binOp BinOp.eql 26 (Operand.tmp 22) (Operand.const (Value.pointer none)) 26, none⟩,
    ⟨some 24, Op.move (Operand.tmp 8), none⟩,
    ⟨some 25, Op.binOp BinOp.eql 65 (Operand.tmp 24) (Operand.const (Value.pointer none)) 65, none⟩,
    ⟨some 26, Op.binOp BinOp.neq 4 (Operand.tmp 23) (Operand.tmp 25) 4, none⟩,
    ⟨some 27, Op.move (Operand.tmp 26), none⟩,
    ⟨some 28, Op.move (Operand.tmp 7), some (27, false)⟩,
    ⟨some 29, Op.call { callee := Callee.value (Operand.func 15), args := #[Operand.tmp 28], argTypes := #[37] }, some (27, false)⟩,
    ⟨some 30, Op.binOp BinOp.eql 3 (Operand.tmp 29) (Operand.const (Value.int IntKind.i64 0)) 3, some (27, false)⟩,
    ⟨some 31, Op.move (Operand.tmp 8), some (27, false)⟩,
    ⟨some 32, Op.binOp BinOp.neq 65 (Operand.tmp 31) (Operand.const (Value.pointer none)) 65, some (27, false)⟩,
    ⟨some 33, Op.binOp BinOp.neq 4 (Operand.tmp 30) (Operand.tmp 32) 4, some (27, false)⟩,
    ⟨some 34, Op.pick (Operand.tmp 27) (Operand.const (Value.bool true)) (Operand.tmp 33), none⟩])
  (.cond (Operand.tmp 34)
  (.seq (.ops [⟨some 35, Op.build 29 #[], none⟩,
    ⟨none, Op.store 29 (Operand.tmp 4) (Operand.tmp 35), none⟩,
    ⟨some 5, Op.assign (Operand.const (Value.bool false)), none⟩])
  .ret)
  .skip))
  (.seq (.ops [⟨some 36, Op.move (Operand.tmp 1), none⟩,
    ⟨some 37, Op.call { callee := Callee.builtin Builtin.append, args := #[Operand.const (Value.slice none 0 0), Operand.tmp 36], argTypes := #[22, 22] }, none⟩,
    ⟨some 38, Op.buildSlice 22 1 #[(0, Operand.const (Value.int IntKind.i64 77))], none⟩,
    ⟨some 39, Op.call { callee := Callee.builtin Builtin.append, args := #[Operand.tmp 37, Operand.tmp 38], argTypes := #[22, 22] }, none⟩,
    ⟨some 9, Op.assign (Operand.tmp 39), none⟩])
  (.seq (.ops [⟨some 41, Op.move (Operand.tmp 6), none⟩,
    ⟨some 42, Op.move (Operand.tmp 9), none⟩,
    ⟨some 43, Op.move (Operand.tmp 1), none⟩,
    ⟨some 44, Op.call { callee := Callee.builtin Builtin.len, args := #[Operand.tmp 43], argTypes := #[22] }, none⟩,
    ⟨some 45, Op.slice 22 (Operand.tmp 42) none (some (Operand.tmp 44)) none, none⟩,
    ⟨some 46, Op.call { callee := Callee.value (Operand.func 14), args := #[Operand.tmp 41, Operand.tmp 45], argTypes := #[26, 22] }, none⟩,
    ⟨some 40, Op.move (Operand.tmp 46), none⟩,
    ⟨some 47, Op.extract (Operand.tmp 40) 0, none⟩,
    ⟨some 48, Op.extract (Operand.tmp 40) 1, none⟩,
    ⟨some 10, Op.assign (Operand.tmp 47), none⟩,
    ⟨some 11, Op.assign (Operand.tmp 48), none⟩])
  (.seq (.ops [⟨some 50, Op.move (Operand.tmp 8), none⟩,
    ⟨some 51, Op.move (Operand.tmp 1), none⟩,
    ⟨some 52, Op.call { callee := Callee.value (Operand.func 31), args := #[Operand.tmp 50, Operand.tmp 51], argTypes := #[65, 22] }, none⟩,
    ⟨some 49, Op.move (Operand.tmp 52), none⟩,
    ⟨some 53, Op.extract (Operand.tmp 49) 0, none⟩,
    ⟨some 54, Op.extract (Operand.tmp 49) 1, none⟩,
    ⟨some 12, Op.assign (Operand.tmp 53), none⟩,
    ⟨some 13, Op.assign (Operand.tmp 54), none⟩])
  (.seq (.seq (.ops [⟨some 14, Op.assign (Operand.const (Value.int IntKind.i64 0)), none⟩])
  (.block 0 (.loop ir10_l0)))
  (.seq (.ops [⟨some 74, Op.move (Operand.tmp 10), none⟩,
    ⟨some 75, Op.move (Operand.tmp 6), none⟩,
    ⟨some 76, Op.move (Operand.tmp 12), none⟩,
    ⟨some 77, Op.build 29 #[(0, Operand.tmp 74), (1, Operand.tmp 75), (2, Operand.tmp 76)], none⟩,
    ⟨some 78, Op.move (Operand.tmp 10), none⟩,
    ⟨some 79, Op.binOp BinOp.eql 25 (Operand.tmp 78) (Operand.const (Value.pointer none)) 25, none⟩,
    ⟨some 80, Op.move (Operand.tmp 12), none⟩,
    ⟨some 81, Op.binOp BinOp.eql 27 (Operand.tmp 80) (Operand.const (Value.pointer none)) 27, none⟩,
    ⟨some 82, Op.binOp BinOp.eql 4 (Operand.tmp 79) (Operand.tmp 81) 4, none⟩,
    ⟨some 83, Op.move (Operand.tmp 82), none⟩,
    ⟨some 84, Op.move (Operand.tmp 11), some (83, true)⟩,
    ⟨some 85, Op.call { callee := Callee.value (Operand.func 15), args := #[Operand.tmp 84], argTypes := #[37] }, some (83, true)⟩,
    ⟨some 86, Op.move (Operand.tmp 13), some (83, true)⟩,
    ⟨some 87, Op.binOp BinOp.eql 3 (Operand.tmp 85) (Operand.tmp 86) 3, some (83, true)⟩,
    ⟨some 88, Op.pick (Operand.tmp 83) (Operand.tmp 87) (Operand.const (Value.bool false)), none⟩,
    ⟨none, Op.store 29 (Operand.tmp 4) (Operand.tmp 77), none⟩,
    ⟨some 5, Op.assign (Operand.tmp 88), none⟩])
  .ret)))))))))
theorem ir10_eq : (Try.f10.body.map low, Try.f10.ntmps, Try.f10.results.toList) = (some ir10, 89, [.cell 4 29, .tmp 5]) := by kernel_rfl
def ir11 : LC := (.seq (.ops [⟨some 4, Op.assign (Operand.const (Value.int IntKind.i64 0)), none⟩,
    ⟨some 5, Op.assign (Operand.const (Value.int IntKind.i64 0)), none⟩,
    ⟨some 6, Op.assign (Operand.const (Value.bool false)), none⟩])
  (.seq (.ops [⟨some 10, Op.move (Operand.tmp 0), none⟩,
    ⟨some 11, Op.move (Operand.tmp 1), none⟩,
    ⟨some 12, Op.call { callee := Callee.value (Operand.func 32), args := #[Operand.tmp 10, Operand.tmp 11], argTypes := #[25, 3] }, none⟩,
    ⟨some 9, Op.move (Operand.tmp 12), none⟩,
    ⟨some 13, Op.extract (Operand.tmp 9) 0, none⟩,
    ⟨some 14, Op.extract (Operand.tmp 9) 1, none⟩,
    ⟨some 7, Op.assign (Operand.tmp 13), none⟩,
    ⟨some 8, Op.assign (Operand.tmp 14), none⟩])
  (.seq (.seq (.ops [⟨some 15, Op.move (Operand.tmp 8), none⟩,
    ⟨some 16, Op.binOp BinOp.neq 37 (Operand.tmp 15) (Operand.const (Value.int IntKind.i64 0)) 37, none⟩])
  (.cond (Operand.tmp 16)
  (.seq (.ops [⟨some 4, Op.assign (Operand.const (Value.int IntKind.i64 0)), none⟩,
    ⟨some 5, Op.assign (Operand.const (Value.int IntKind.i64 0)), none⟩,
    ⟨some 6, Op.assign (Operand.const (Value.bool false)), none⟩])
  .ret)
  .skip))
  (.seq (.draw [⟨some 17, Op.move (Operand.tmp 7), none⟩,
    ⟨some 18, Op.nilCheck (Operand.tmp 17), none⟩,
    ⟨some 19, Op.fieldAddr 57 (Operand.tmp 18) 0, none⟩,
    ⟨some 20, Op.load 3 (Operand.tmp 19), none⟩,
    ⟨some 21, Op.move (Operand.tmp 7), none⟩,
    ⟨some 22, Op.nilCheck (Operand.tmp 21), none⟩,
    ⟨some 23, Op.fieldAddr 57 (Operand.tmp 22) 1, none⟩,
    ⟨some 24, Op.load 3 (Operand.tmp 23), none⟩,
    ⟨some 4, Op.assign (Operand.tmp 20), none⟩,
    ⟨some 5, Op.assign (Operand.tmp 24), none⟩,
    ⟨some 6, Op.assign (Operand.const (Value.bool true)), none⟩] [])
  .ret))))
theorem ir11_eq : (Try.f11.body.map low, Try.f11.ntmps, Try.f11.results.toList) = (some ir11, 25, [.tmp 4, .tmp 5, .tmp 6]) := by kernel_rfl
def ir12_l0 : LC := (.seq (.seq (.ops [⟨some 19, Op.move (Operand.tmp 5), none⟩,
    ⟨some 20, Op.binOp BinOp.leq 3 (Operand.tmp 19) (Operand.const (Value.int IntKind.i64 9)) 3, none⟩])
  (.cond (Operand.tmp 20)
  .skip
  (.exit 0)))
  (.seq (.block 1 (.seq (.ops [⟨some 24, Op.fieldAddr 29 (Operand.tmp 2) 0, none⟩,
    ⟨some 25, Op.load 25 (Operand.tmp 24), none⟩,
    ⟨some 26, Op.move (Operand.tmp 5), none⟩,
    ⟨some 27, Op.call { callee := Callee.value (Operand.func 11), args := #[Operand.tmp 25, Operand.tmp 26], argTypes := #[25, 3] }, none⟩,
    ⟨some 23, Op.move (Operand.tmp 27), none⟩,
    ⟨some 28, Op.extract (Operand.tmp 23) 0, none⟩,
    ⟨some 29, Op.extract (Operand.tmp 23) 1, none⟩,
    ⟨some 30, Op.extract (Operand.tmp 23) 2, none⟩,
    ⟨some 6, Op.assign (Operand.tmp 28), none⟩,
    ⟨some 7, Op.assign (Operand.tmp 29), none⟩,
    ⟨some 8, Op.assign (Operand.tmp 30), none⟩])
  (.seq (.ops [⟨some 32, Op.fieldAddr 29 (Operand.tmp 2) 2, none⟩,
    ⟨some 33, Op.load 27 (Operand.tmp 32), none⟩,
    ⟨some 34, Op.move (Operand.tmp 5), none⟩,
    ⟨some 35, Op.call { callee := Callee.value (Operand.func 33), args := #[Operand.tmp 33, Operand.tmp 34], argTypes := #[27, 3] }, none⟩,
    ⟨some 31, Op.move (Operand.tmp 35), none⟩,
    ⟨some 36, Op.extract (Operand.tmp 31) 0, none⟩,
    ⟨some 37, Op.extract (Operand.tmp 31) 1, none⟩,
    ⟨some 38, Op.extract (Operand.tmp 31) 2, none⟩,
    ⟨some 9, Op.assign (Operand.tmp 36), none⟩,
    ⟨some 10, Op.assign (Operand.tmp 37), none⟩,
    ⟨some 11, Op.assign (Operand.tmp 38), none⟩])
  (.seq (.draw [⟨some 39, Op.move (Operand.tmp 6), none⟩,
    ⟨some 40, Op.move (Operand.tmp 9), none⟩,
    ⟨some 41, Op.binOp BinOp.neq 3 (Operand.tmp 39) (Operand.tmp 40) 3, none⟩,
    ⟨some 42, Op.move (Operand.tmp 41), none⟩,
    ⟨some 43, Op.move (Operand.tmp 7), some (42, false)⟩,
    ⟨some 44, Op.move (Operand.tmp 10), some (42, false)⟩,
    ⟨some 45, Op.binOp BinOp.neq 3 (Operand.tmp 43) (Operand.tmp 44) 3, some (42, false)⟩,
    ⟨some 46, Op.pick (Operand.tmp 42) (Operand.const (Value.bool true)) (Operand.tmp 45), none⟩,
    ⟨some 47, Op.move (Operand.tmp 46), none⟩,
    ⟨some 48, Op.move (Operand.tmp 8), some (47, false)⟩,
    ⟨some 49, Op.move (Operand.tmp 11), some (47, false)⟩,
    ⟨some 50, Op.binOp BinOp.neq 4 (Operand.tmp 48) (Operand.tmp 49) 4, some (47, false)⟩,
    ⟨some 51, Op.pick (Operand.tmp 47) (Operand.const (Value.bool true)) (Operand.tmp 50), none⟩,
    ⟨some 52, Op.move (Operand.tmp 51), none⟩,
    ⟨some 53, Op.fieldAddr 29 (Operand.tmp 2) 0, some (52, false)⟩,
    ⟨some 54, Op.load 25 (Operand.tmp 53), some (52, false)⟩,
    ⟨some 55, Op.move (Operand.tmp 5), some (52, false)⟩,
    ⟨some 56, Op.call { callee := Callee.value (Operand.func 34), args := #[Operand.tmp 54, Operand.tmp 55], argTypes := #[25, 3] }, some (52, false)⟩,
    ⟨some 57, Op.move (Operand.tmp 10), some (52, false)⟩,
    ⟨some 58, Op.binOp BinOp.neq 3 (Operand.tmp 56) (Operand.tmp 57) 3, some (52, false)⟩,
    ⟨some 59, Op.pick (Operand.tmp 52) (Operand.const (Value.bool true)) (Operand.tmp 58), none⟩,
    ⟨some 60, Op.move (Operand.tmp 59), none⟩,
    ⟨some 61, Op.fieldAddr 29 (Operand.tmp 2) 0, some (60, false)⟩,
    ⟨some 62, Op.load 25 (Operand.tmp 61), some (60, false)⟩,
    ⟨some 63, Op.move (Operand.tmp 5), some (60, false)⟩,
    ⟨some 64, Op.call { callee := Callee.value (Operand.func 24), args := #[Operand.tmp 62, Operand.tmp 63], argTypes := #[25, 3] }, some (60, false)⟩,
    ⟨some 65, Op.fieldAddr 29 (Operand.tmp 2) 2, some (60, false)⟩,
    ⟨some 66, Op.load 27 (Operand.tmp 65), some (60, false)⟩,
    ⟨some 67, Op.move (Operand.tmp 5), some (60, false)⟩,
    ⟨some 68, Op.call { callee := Callee.value (Operand.func 35), args := #[Operand.tmp 66, Operand.tmp 67], argTypes := #[27, 3] }, some (60, false)⟩,
    ⟨some 69, Op.binOp BinOp.neq 3 (Operand.tmp 64) (Operand.tmp 68) 3, some (60, false)⟩,
    ⟨some 70, Op.pick (Operand.tmp 60) (Operand.const (Value.bool true)) (Operand.tmp 69), none⟩,
    ⟨some 71, Op.move (Operand.tmp 70), none⟩,
    ⟨some 72, Op.load 29 (Operand.tmp 2), some (71, false)⟩,
    ⟨some 73, Op.move (Operand.tmp 5), some (71, false)⟩,
    ⟨some 74, Op.move (Operand.tmp 1), some (71, false)⟩,
    ⟨some 75, Op.call { callee := Callee.value (Operand.func 36), args := #[Operand.tmp 72, Operand.tmp 73, Operand.tmp 74], argTypes := #[29, 3, 3] }, some (71, false)⟩,
    ⟨some 76, Op.unOp UnOp.not 4 (Operand.tmp 75), some (71, false)⟩,
    ⟨some 77, Op.pick (Operand.tmp 71) (Operand.const (Value.bool true)) (Operand.tmp 76), none⟩] [(17, 18), (25, 26), (25, 27), (25, 28)])
  (.cond (Operand.tmp 77)
  (.seq (.ops [⟨some 4, Op.assign (Operand.const (Value.bool false)), none⟩])
  .ret)
  .skip)))))
  (.ops [⟨some 21, Op.move (Operand.tmp 5), none⟩,
    ⟨some 22, Op.binOp BinOp.add 3 (Operand.tmp 21) (Operand.const (Value.int IntKind.i64 1)) 3, none⟩,
    ⟨some 5, Op.assign (Operand.tmp 22), none⟩])))
def ir12_l1 : LC := (.seq (.seq (.ops [⟨some 78, Op.move (Operand.tmp 12), none⟩,
    ⟨some 79, Op.fieldAddr 29 (Operand.tmp 2) 2, none⟩,
    ⟨some 80, Op.load 27 (Operand.tmp 79), none⟩,
    ⟨some 81, Op.nilCheck (Operand.tmp 80), none⟩,
    ⟨some 82, Op.fieldAddr 68 (Operand.tmp 81) 0, none⟩,
    ⟨some 83, Op.load 65 (Operand.tmp 82), none⟩,
    ⟨some 84, Op.nilCheck (Operand.tmp 83), none⟩,
    ⟨some 85, Op.fieldAddr 83 (Operand.tmp 84) 0, none⟩,
    ⟨some 86, Op.load 80 (Operand.tmp 85), none⟩,
    ⟨some 87, Op.call { callee := Callee.builtin Builtin.len, args := #[Operand.tmp 86], argTypes := #[80] }, none⟩,
    ⟨some 88, Op.binOp BinOp.leq 3 (Operand.tmp 78) (Operand.tmp 87) 3, none⟩])
  (.cond (Operand.tmp 88)
  .skip
  (.exit 2)))
  (.seq (.block 3 (.seq (.ops [⟨some 92, Op.fieldAddr 29 (Operand.tmp 2) 0, none⟩,
    ⟨some 93, Op.load 25 (Operand.tmp 92), none⟩,
    ⟨some 94, Op.move (Operand.tmp 12), none⟩,
    ⟨some 95, Op.call { callee := Callee.value (Operand.func 25), args := #[Operand.tmp 93, Operand.tmp 94], argTypes := #[25, 3] }, none⟩,
    ⟨some 91, Op.move (Operand.tmp 95), none⟩,
    ⟨some 96, Op.extract (Operand.tmp 91) 0, none⟩,
    ⟨some 97, Op.extract (Operand.tmp 91) 1, none⟩,
    ⟨some 98, Op.extract (Operand.tmp 91) 2, none⟩,
    ⟨some 13, Op.assign (Operand.tmp 96), none⟩,
    ⟨some 14, Op.assign (Operand.tmp 97), none⟩,
    ⟨some 15, Op.assign (Operand.tmp 98), none⟩])
  (.seq (.ops [⟨some 100, Op.fieldAddr 29 (Operand.tmp 2) 2, none⟩,
    ⟨some 101, Op.load 27 (Operand.tmp 100), none⟩,
    ⟨some 102, Op.move (Operand.tmp 12), none⟩,
    ⟨some 103, Op.call { callee := Callee.value (Operand.func 37), args := #[Operand.tmp 101, Operand.tmp 102], argTypes := #[27, 3] }, none⟩,
    ⟨some 99, Op.move (Operand.tmp 103), none⟩,
    ⟨some 104, Op.extract (Operand.tmp 99) 0, none⟩,
    ⟨some 105, Op.extract (Operand.tmp 99) 1, none⟩,
    ⟨some 106, Op.extract (Operand.tmp 99) 2, none⟩,
    ⟨some 16, Op.assign (Operand.tmp 104), none⟩,
    ⟨some 17, Op.assign (Operand.tmp 105), none⟩,
    ⟨some 18, Op.assign (Operand.tmp 106), none⟩])
  (.seq (.ops [⟨some 107, Op.move (Operand.tmp 13), none⟩,
    ⟨some 108, Op.move (Operand.tmp 16), none⟩,
    ⟨some 109, Op.binOp BinOp.neq 3 (Operand.tmp 107) (Operand.tmp 108) 3, none⟩,
    ⟨some 110, Op.move (Operand.tmp 109), none⟩,
    ⟨some 111, Op.move (Operand.tmp 14), some (110, false)⟩,
    ⟨some 112, Op.move (Operand.tmp 17), some (110, false)⟩,
    ⟨some 113, Op.binOp BinOp.neq 3 (Operand.tmp 111) (Operand.tmp 112) 3, some (110, false)⟩,
    ⟨some 114, Op.pick (Operand.tmp 110) (Operand.const (Value.bool true)) (Operand.tmp 113), none⟩,
    ⟨some 115, Op.move (Operand.tmp 114), none⟩,
    ⟨some 116, Op.move (Operand.tmp 15), some (115, false)⟩,
    ⟨some 117, Op.move (Operand.tmp 18), some (115, false)⟩,
    ⟨some 118, Op.binOp BinOp.neq 4 (Operand.tmp 116) (Operand.tmp 117) 4, some (115, false)⟩,
    ⟨some 119, Op.pick (Operand.tmp 115) (Operand.const (Value.bool true)) (Operand.tmp 118), none⟩])
  (.cond (Operand.tmp 119)
  (.seq (.ops [⟨some 4, Op.assign (Operand.const (Value.bool false)), none⟩])
  .ret)
  .skip)))))
  (.ops [⟨some 89, Op.move (Operand.tmp 12), none⟩,
    ⟨some 90, Op.binOp BinOp.add 3 (Operand.tmp 89) (Operand.const (Value.int IntKind.i64 1)) 3, none⟩,
    ⟨some 12, Op.assign (Operand.tmp 90), none⟩])))
def ir12 : LC := (.seq (.ops [⟨some 2, Op.box 29 (Operand.tmp 0), none⟩,
    ⟨some 4, Op.assign (Operand.const (Value.bool false)), none⟩])
  (.seq (.seq (.ops [⟨some 5, Op.assign (Operand.const (Value.int IntKind.i64 (-1))), none⟩])
  (.block 0 (.loop ir12_l0)))
  (.seq (.seq (.ops [⟨some 12, Op.assign (Operand.const (Value.int IntKind.i64 (-1))), none⟩])
  (.block 2 (.loop ir12_l1)))
  (.seq (.draw [⟨some 120, Op.fieldAddr 29 (Operand.tmp 2) 0, none⟩,
    ⟨some 121, Op.load 25 (Operand.tmp 120), none⟩,
    ⟨some 122, Op.call { callee := Callee.value (Operand.func 38), args := #[Operand.tmp 121], argTypes := #[25] }, none⟩,
    ⟨some 123, Op.fieldAddr 29 (Operand.tmp 2) 1, none⟩,
    ⟨some 124, Op.load 26 (Operand.tmp 123), none⟩,
    ⟨some 125, Op.binOp BinOp.eql 26 (Operand.tmp 122) (Operand.tmp 124) 26, none⟩,
    ⟨some 126, Op.move (Operand.tmp 125), none⟩,
    ⟨some 127, Op.fieldAddr 29 (Operand.tmp 2) 1, some (126, true)⟩,
    ⟨some 128, Op.load 26 (Operand.tmp 127), some (126, true)⟩,
    ⟨some 129, Op.call { callee := Callee.value (Operand.func 39), args := #[Operand.tmp 128], argTypes := #[26] }, some (126, true)⟩,
    ⟨some 130, Op.convert 45 9 (Operand.tmp 129), some (126, true)⟩,
    ⟨some 131, Op.fieldAddr 29 (Operand.tmp 2) 2, some (126, true)⟩,
    ⟨some 132, Op.load 27 (Operand.tmp 131), some (126, true)⟩,
    ⟨some 133, Op.nilCheck (Operand.tmp 132), some (126, true)⟩,
    ⟨some 134, Op.fieldAddr 68 (Operand.tmp 133) 0, some (126, true)⟩,
    ⟨some 135, Op.load 65 (Operand.tmp 134), some (126, true)⟩,
    ⟨some 136, Op.call { callee := Callee.value (Operand.func 40), args := #[Operand.tmp 135], argTypes := #[65] }, some (126, true)⟩,
    ⟨some 137, Op.convert 45 9 (Operand.tmp 136), some (126, true)⟩,
    ⟨some 138, Op.binOp BinOp.eql 9 (Operand.tmp 130) (Operand.tmp 137) 9, some (126, true)⟩,
    ⟨some 139, Op.pick (Operand.tmp 126) (Operand.tmp 138) (Operand.const (Value.bool false)), none⟩,
    ⟨some 4, Op.assign (Operand.tmp 139), none⟩] [(2, 3), (2, 4), (9, 11), (9, 12), (9, 13), (9, 14), (9, 15), (10, 16)])
  .ret))))
theorem ir12_eq : (Try.f12.body.map low, Try.f12.ntmps, Try.f12.results.toList) = (some ir12, 140, [.tmp 4]) := by kernel_rfl
def ir25_l0 : LC := (.seq (.seq (.ops [⟨some 9, Op.move (Operand.tmp 0), none⟩,
    ⟨some 10, Op.call { callee := Callee.value (Operand.func 44), args := #[Operand.tmp 9], argTypes := #[25] }, none⟩,
    ⟨some 11, Op.move (Operand.tmp 10), none⟩,
    ⟨some 12, Op.move (Operand.tmp 7), some (11, true)⟩,
    ⟨some 13, Op.move (Operand.tmp 0), some (11, true)⟩,
    ⟨some 14, Op.nilCheck (Operand.tmp 13), some (11, true)⟩,
    ⟨some 15, Op.fieldAddr 60 (Operand.tmp 14) 2, some (11, true)⟩,
    ⟨some 16, Op.load 3 (Operand.tmp 15), some (11, true)⟩,
    ⟨some 17, Op.binOp BinOp.lss 3 (Operand.tmp 12) (Operand.tmp 16) 3, some (11, true)⟩,
    ⟨some 18, Op.pick (Operand.tmp 11) (Operand.tmp 17) (Operand.const (Value.bool false)), none⟩])
  (.cond (Operand.tmp 18)
  .skip
  (.exit 0)))
  (.seq (.block 1 (.seq (.ops [⟨some 21, Op.move (Operand.tmp 0), none⟩,
    ⟨some 22, Op.move (Operand.tmp 7), none⟩,
    ⟨some 23, Op.nilCheck (Operand.tmp 21), none⟩,
    ⟨some 24, Op.fieldAddr 60 (Operand.tmp 23) 1, none⟩,
    ⟨some 25, Op.indexAddr 58 (Operand.tmp 24) (Operand.tmp 22), none⟩,
    ⟨some 26, Op.load 57 (Operand.tmp 25), none⟩,
    ⟨some 8, Op.alloc 57, none⟩,
    ⟨none, Op.store 57 (Operand.tmp 8) (Operand.tmp 26), none⟩])
  (.seq (.ops [⟨some 27, Op.move (Operand.tmp 1), none⟩,
    ⟨some 28, Op.fieldAddr 57 (Operand.tmp 8) 0, none⟩,
    ⟨some 29, Op.load 3 (Operand.tmp 28), none⟩,
    ⟨some 30, Op.binOp BinOp.geq 3 (Operand.tmp 27) (Operand.tmp 29) 3, none⟩,
    ⟨some 31, Op.move (Operand.tmp 30), none⟩,
    ⟨some 32, Op.move (Operand.tmp 1), some (31, true)⟩,
    ⟨some 33, Op.fieldAddr 57 (Operand.tmp 8) 0, some (31, true)⟩,
    ⟨some 34, Op.load 3 (Operand.tmp 33), some (31, true)⟩,
    ⟨some 35, Op.fieldAddr 57 (Operand.tmp 8) 1, some (31, true)⟩,
    ⟨some 36, Op.load 3 (Operand.tmp 35), some (31, true)⟩,
    ⟨some 37, Op.binOp BinOp.add 3 (Operand.tmp 34) (Operand.tmp 36) 3, some (31, true)⟩,
    ⟨some 38, Op.binOp BinOp.lss 3 (Operand.tmp 32) (Operand.tmp 37) 3, some (31, true)⟩,
    ⟨some 39, Op.pick (Operand.tmp 31) (Operand.tmp 38) (Operand.const (Value.bool false)), none⟩])
  (.cond (Operand.tmp 39)
  (.seq (.draw [⟨some 40, Op.move (Operand.tmp 7), none⟩,
    ⟨some 41, Op.move (Operand.tmp 1), none⟩,
    ⟨some 42, Op.fieldAddr 57 (Operand.tmp 8) 0, none⟩,
    ⟨some 43, Op.load 3 (Operand.tmp 42), none⟩,
    ⟨some 44, Op.binOp BinOp.sub 3 (Operand.tmp 41) (Operand.tmp 43) 3, none⟩,
    ⟨some 4, Op.assign (Operand.tmp 40), none⟩,
    ⟨some 5, Op.assign (Operand.tmp 44), none⟩,
    ⟨some 6, Op.assign (Operand.const (Value.bool true)), none⟩] [])
  .ret)
  .skip))))
  (.ops [⟨some 19, Op.move (Operand.tmp 7), none⟩,
    ⟨some 20, Op.binOp BinOp.add 3 (Operand.tmp 19) (Operand.const (Value.int IntKind.i64 1)) 3, none⟩,
    ⟨some 7, Op.assign (Operand.tmp 20), none⟩])))
def ir25 : LC := (.seq (.ops [⟨some 4, Op.assign (Operand.const (Value.int IntKind.i64 0)), none⟩,
    ⟨some 5, Op.assign (Operand.const (Value.int IntKind.i64 0)), none⟩,
    ⟨some 6, Op.assign (Operand.const (Value.bool false)), none⟩])
  (.seq (.seq (.ops [⟨some 7, Op.assign (Operand.const (Value.int IntKind.i64 0)), none⟩])
  (.block 0 (.loop ir25_l0)))
  (.seq (.ops [⟨some 4, Op.assign (Operand.const (Value.int IntKind.i64 0)), none⟩,
    ⟨some 5, Op.assign (Operand.const (Value.int IntKind.i64 0)), none⟩,
    ⟨some 6, Op.assign (Operand.const (Value.bool false)), none⟩])
  .ret)))
theorem ir25_eq : (Try.f25.body.map low, Try.f25.ntmps, Try.f25.results.toList) = (some ir25, 45, [.tmp 4, .tmp 5, .tmp 6]) := by kernel_rfl
def ir30_l0 : LC := (.seq (.seq (.ops [⟨some 15, Op.move (Operand.tmp 4), none⟩,
    ⟨some 16, Op.move (Operand.tmp 0), none⟩,
    ⟨some 17, Op.binOp BinOp.lss 3 (Operand.tmp 15) (Operand.tmp 16) 3, none⟩])
  (.cond (Operand.tmp 17)
  .skip
  (.exit 0)))
  (.seq (.block 1 (.draw [⟨some 20, Op.move (Operand.tmp 3), none⟩,
    ⟨some 21, Op.move (Operand.tmp 3), none⟩,
    ⟨some 22, Op.nilCheck (Operand.tmp 21), none⟩,
    ⟨some 23, Op.fieldAddr 83 (Operand.tmp 22) 0, none⟩,
    ⟨some 24, Op.load 80 (Operand.tmp 23), none⟩,
    ⟨some 25, Op.makeSlice 45 (Operand.const (Value.int IntKind.i64 128)) (Operand.const (Value.int IntKind.i64 128)), none⟩,
    ⟨some 26, Op.buildSlice 80 1 #[(0, Operand.tmp 25)], none⟩,
    ⟨some 27, Op.call { callee := Callee.builtin Builtin.append, args := #[Operand.tmp 24, Operand.tmp 26], argTypes := #[80, 80] }, none⟩,
    ⟨some 28, Op.nilCheck (Operand.tmp 20), none⟩,
    ⟨some 29, Op.fieldAddr 83 (Operand.tmp 28) 0, none⟩,
    ⟨none, Op.store 80 (Operand.tmp 29) (Operand.tmp 27), none⟩] [(0, 5), (1, 5), (2, 5), (3, 5), (4, 5), (0, 6), (1, 6), (2, 6), (3, 6), (4, 6), (0, 7)]))
  (.ops [⟨some 18, Op.move (Operand.tmp 4), none⟩,
    ⟨some 19, Op.binOp BinOp.add 3 (Operand.tmp 18) (Operand.const (Value.int IntKind.i64 1)) 3, none⟩,
    ⟨some 4, Op.assign (Operand.tmp 19), none⟩])))
def ir30 : LC := (.seq (.ops [⟨some 2, Op.assign (Operand.const (Value.pointer none)), none⟩])
  (.seq (.seq (.ops [⟨some 5, Op.move (Operand.tmp 0), none⟩,
    ⟨some 6, Op.binOp BinOp.lss 3 (Operand.tmp 5) (Operand.const (Value.int IntKind.i64 1)) 3, none⟩,
    ⟨some 7, Op.move (Operand.tmp 6), none⟩,
    ⟨some 8, Op.move (Operand.tmp 0), some (7, false)⟩,
    ⟨some 9, Op.binOp BinOp.gtr 3 (Operand.tmp 8) (Operand.const (Value.int IntKind.i64 4096)) 3, some (7, false)⟩,
    ⟨some 10, Op.pick (Operand.tmp 7) (Operand.const (Value.bool true)) (Operand.tmp 9), none⟩])
  (.cond (Operand.tmp 10)
  (.seq (.ops [⟨some 2, Op.assign (Operand.const (Value.pointer none)), none⟩])
  .ret)
  .skip))
  (.seq (.ops [⟨some 11, Op.move (Operand.tmp 0), none⟩,
    ⟨some 12, Op.makeSlice 81 (Operand.tmp 11) (Operand.tmp 11), none⟩,
    ⟨some 13, Op.build 83 #[(1, Operand.tmp 12)], none⟩,
    ⟨some 14, Op.box 83 (Operand.tmp 13), none⟩,
    ⟨some 3, Op.assign (Operand.tmp 14), none⟩])
  (.seq (.seq (.ops [⟨some 4, Op.assign (Operand.const (Value.int IntKind.i64 0)), none⟩])
  (.block 0 (.loop ir30_l0)))
  (.seq (.ops [⟨some 30, Op.move (Operand.tmp 3), none⟩,
    ⟨some 2, Op.assign (Operand.tmp 30), none⟩])
  .ret)))))
theorem ir30_eq : (Try.f30.body.map low, Try.f30.ntmps, Try.f30.results.toList) = (some ir30, 31, [.tmp 2]) := by kernel_rfl
def ir31_l0 : LC := (.seq (.seq (.ops [⟨some 28, Op.move (Operand.tmp 9), none⟩,
    ⟨some 29, Op.move (Operand.tmp 1), none⟩,
    ⟨some 30, Op.call { callee := Callee.builtin Builtin.len, args := #[Operand.tmp 29], argTypes := #[22] }, none⟩,
    ⟨some 31, Op.binOp BinOp.lss 3 (Operand.tmp 28) (Operand.tmp 30) 3, none⟩])
  (.cond (Operand.tmp 31)
  .skip
  (.exit 0)))
  (.seq (.block 1 (.seq (.seq (.ops [⟨some 34, Op.move (Operand.tmp 1), none⟩,
    ⟨some 35, Op.move (Operand.tmp 9), none⟩,
    ⟨some 36, Op.indexAddr 22 (Operand.tmp 34) (Operand.tmp 35), none⟩,
    ⟨some 37, Op.load 3 (Operand.tmp 36), none⟩,
    ⟨some 38, Op.binOp BinOp.lss 3 (Operand.tmp 37) (Operand.const (Value.int IntKind.i64 0)) 3, none⟩])
  (.cond (Operand.tmp 38)
  (.seq (.ops [⟨some 4, Op.assign (Operand.const (Value.pointer none)), none⟩,
    ⟨some 5, Op.assign (Operand.const (Value.int IntKind.i64 2)), none⟩])
  .ret)
  .skip))
  (.seq (.seq (.ops [⟨some 39, Op.move (Operand.tmp 1), none⟩,
    ⟨some 40, Op.move (Operand.tmp 9), none⟩,
    ⟨some 41, Op.indexAddr 22 (Operand.tmp 39) (Operand.tmp 40), none⟩,
    ⟨some 42, Op.load 3 (Operand.tmp 41), none⟩,
    ⟨some 43, Op.move (Operand.tmp 6), none⟩,
    ⟨some 44, Op.binOp BinOp.gtr 3 (Operand.tmp 42) (Operand.tmp 43) 3, none⟩])
  (.cond (Operand.tmp 44)
  (.seq (.ops [⟨some 7, Op.assign (Operand.const (Value.bool true)), none⟩])
  (.exit 1))
  .skip))
  (.seq (.ops [⟨some 45, Op.move (Operand.tmp 6), none⟩,
    ⟨some 46, Op.move (Operand.tmp 1), none⟩,
    ⟨some 47, Op.move (Operand.tmp 9), none⟩,
    ⟨some 48, Op.indexAddr 22 (Operand.tmp 46) (Operand.tmp 47), none⟩,
    ⟨some 49, Op.load 3 (Operand.tmp 48), none⟩,
    ⟨some 50, Op.binOp BinOp.sub 3 (Operand.tmp 45) (Operand.tmp 49) 3, none⟩,
    ⟨some 6, Op.assign (Operand.tmp 50), none⟩])
  (.seq (.draw [⟨some 51, Op.move (Operand.tmp 8), none⟩,
    ⟨some 52, Op.move (Operand.tmp 8), none⟩,
    ⟨some 53, Op.nilCheck (Operand.tmp 52), none⟩,
    ⟨some 54, Op.fieldAddr 68 (Operand.tmp 53) 1, none⟩,
    ⟨some 55, Op.load 22 (Operand.tmp 54), none⟩,
    ⟨some 56, Op.move (Operand.tmp 1), none⟩,
    ⟨some 57, Op.move (Operand.tmp 9), none⟩,
    ⟨some 58, Op.indexAddr 22 (Operand.tmp 56) (Operand.tmp 57), none⟩,
    ⟨some 59, Op.load 3 (Operand.tmp 58), none⟩,
    ⟨some 60, Op.buildSlice 22 1 #[(0, Operand.tmp 59)], none⟩,
    ⟨some 61, Op.call { callee := Callee.builtin Builtin.append, args := #[Operand.tmp 55, Operand.tmp 60], argTypes := #[22, 22] }, none⟩,
    ⟨some 62, Op.nilCheck (Operand.tmp 51), none⟩,
    ⟨some 63, Op.fieldAddr 68 (Operand.tmp 62) 1, none⟩,
    ⟨none, Op.store 22 (Operand.tmp 63) (Operand.tmp 61), none⟩] [(0, 9), (1, 9), (2, 9), (3, 9), (4, 9), (0, 10)])
  (.draw [⟨some 64, Op.move (Operand.tmp 8), none⟩,
    ⟨some 65, Op.move (Operand.tmp 8), none⟩,
    ⟨some 66, Op.nilCheck (Operand.tmp 65), none⟩,
    ⟨some 67, Op.fieldAddr 68 (Operand.tmp 66) 2, none⟩,
    ⟨some 68, Op.load 66 (Operand.tmp 67), none⟩,
    ⟨some 69, Op.move (Operand.tmp 1), none⟩,
    ⟨some 70, Op.move (Operand.tmp 9), none⟩,
    ⟨some 71, Op.indexAddr 22 (Operand.tmp 69) (Operand.tmp 70), none⟩,
    ⟨some 72, Op.load 3 (Operand.tmp 71), none⟩,
    ⟨some 73, Op.makeSlice 64 (Operand.tmp 72) (Operand.tmp 72), none⟩,
    ⟨some 74, Op.buildSlice 66 1 #[(0, Operand.tmp 73)], none⟩,
    ⟨some 75, Op.call { callee := Callee.builtin Builtin.append, args := #[Operand.tmp 68, Operand.tmp 74], argTypes := #[66, 66] }, none⟩,
    ⟨some 76, Op.nilCheck (Operand.tmp 64), none⟩,
    ⟨some 77, Op.fieldAddr 68 (Operand.tmp 76) 2, none⟩,
    ⟨none, Op.store 66 (Operand.tmp 77) (Operand.tmp 75), none⟩] [(0, 9), (1, 9), (2, 9), (3, 9), (4, 9), (0, 10), (1, 10), (2, 10), (3, 10), (4, 10), (0, 11)]))))))
  (.ops [⟨some 32, Op.move (Operand.tmp 9), none⟩,
    ⟨some 33, Op.binOp BinOp.add 3 (Operand.tmp 32) (Operand.const (Value.int IntKind.i64 1)) 3, none⟩,
    ⟨some 9, Op.assign (Operand.tmp 33), none⟩])))
def ir31 : LC := (.seq (.ops [⟨some 4, Op.assign (Operand.const (Value.pointer none)), none⟩,
    ⟨some 5, Op.assign (Operand.const (Value.int IntKind.i64 0)), none⟩])
  (.seq (.seq (.ops [⟨some 10, Op.move (Operand.tmp 0), none⟩,
    ⟨some 11, Op.binOp BinOp.eql 65 (Operand.tmp 10) (Operand.const (Value.pointer none)) 65, none⟩])
  (.cond (Operand.tmp 11)
  (.seq (.ops [⟨some 4, Op.assign (Operand.const (Value.pointer none)), none⟩,
    ⟨some 5, Op.assign (Operand.const (Value.int IntKind.i64 1)), none⟩])
  .ret)
  .skip))
  (.seq (.seq (.ops [⟨some 12, Op.move (Operand.tmp 1), none⟩,
    ⟨some 13, Op.call { callee := Callee.builtin Builtin.len, args := #[Operand.tmp 12], argTypes := #[22] }, none⟩,
    ⟨some 14, Op.binOp BinOp.eql 3 (Operand.tmp 13) (Operand.const (Value.int IntKind.i64 0)) 3, none⟩,
    ⟨some 15, Op.move (Operand.tmp 14), none⟩,
    ⟨some 16, Op.move (Operand.tmp 1), some (15, false)⟩,
    ⟨some 17, Op.call { callee := Callee.builtin Builtin.len, args := #[Operand.tmp 16], argTypes := #[22] }, some (15, false)⟩,
    ⟨some 18, Op.binOp BinOp.gtr 3 (Operand.tmp 17) (Operand.const (Value.int IntKind.i64 8)) 3, some (15, false)⟩,
    ⟨some 19, Op.pick (Operand.tmp 15) (Operand.const (Value.bool true)) (Operand.tmp 18), none⟩])
  (.cond (Operand.tmp 19)
  (.seq (.ops [⟨some 4, Op.assign (Operand.const (Value.pointer none)), none⟩,
    ⟨some 5, Op.assign (Operand.const (Value.int IntKind.i64 2)), none⟩])
  .ret)
  .skip))
  (.seq (.ops [⟨some 20, Op.move (Operand.tmp 0), none⟩,
    ⟨some 21, Op.nilCheck (Operand.tmp 20), none⟩,
    ⟨some 22, Op.fieldAddr 83 (Operand.tmp 21) 0, none⟩,
    ⟨some 23, Op.load 80 (Operand.tmp 22), none⟩,
    ⟨some 24, Op.call { callee := Callee.builtin Builtin.len, args := #[Operand.tmp 23], argTypes := #[80] }, none⟩,
    ⟨some 6, Op.assign (Operand.tmp 24), none⟩])
  (.seq (.ops [⟨some 7, Op.assign (Operand.const (Value.bool false)), none⟩])
  (.seq (.ops [⟨some 25, Op.move (Operand.tmp 0), none⟩,
    ⟨some 26, Op.build 68 #[(0, Operand.tmp 25)], none⟩,
    ⟨some 27, Op.box 68 (Operand.tmp 26), none⟩,
    ⟨some 8, Op.assign (Operand.tmp 27), none⟩])
  (.seq (.seq (.ops [⟨some 9, Op.assign (Operand.const (Value.int IntKind.i64 0)), none⟩])
  (.block 0 (.loop ir31_l0)))
  (.seq (.seq (.ops [⟨some 78, Op.move (Operand.tmp 7), none⟩])
  (.cond (Operand.tmp 78)
  (.seq (.ops [⟨some 4, Op.assign (Operand.const (Value.pointer none)), none⟩,
    ⟨some 5, Op.assign (Operand.const (Value.int IntKind.i64 5)), none⟩])
  .ret)
  .skip))
  (.seq (.ops [⟨some 79, Op.move (Operand.tmp 8), none⟩,
    ⟨some 4, Op.assign (Operand.tmp 79), none⟩,
    ⟨some 5, Op.assign (Operand.const (Value.int IntKind.i64 0)), none⟩])
  .ret)))))))))
theorem ir31_eq : (Try.f31.body.map low, Try.f31.ntmps, Try.f31.results.toList) = (some ir31, 80, [.tmp 4, .tmp 5]) := by kernel_rfl
def ir33_l0 : LC := (.seq (.seq (.ops [⟨some 13, Op.move (Operand.tmp 8), none⟩,
    ⟨some 14, Op.move (Operand.tmp 1), none⟩,
    ⟨some 15, Op.binOp BinOp.lss 3 (Operand.tmp 13) (Operand.tmp 14) 3, none⟩])
  (.cond (Operand.tmp 15)
  .skip
  (.exit 0)))
  (.seq (.block 1 (.ops [⟨some 18, Op.move (Operand.tmp 7), none⟩,
    ⟨some 19, Op.move (Operand.tmp 0), none⟩,
    ⟨some 20, Op.nilCheck (Operand.tmp 19), none⟩,
    ⟨some 21, Op.fieldAddr 68 (Operand.tmp 20) 1, none⟩,
    ⟨some 22, Op.load 22 (Operand.tmp 21), none⟩,
    ⟨some 23, Op.move (Operand.tmp 8), none⟩,
    ⟨some 24, Op.indexAddr 22 (Operand.tmp 22) (Operand.tmp 23), none⟩,
    ⟨some 25, Op.load 3 (Operand.tmp 24), none⟩,
    ⟨some 26, Op.binOp BinOp.add 3 (Operand.tmp 18) (Operand.tmp 25) 3, none⟩,
    ⟨some 7, Op.assign (Operand.tmp 26), none⟩]))
  (.ops [⟨some 16, Op.move (Operand.tmp 8), none⟩,
    ⟨some 17, Op.binOp BinOp.add 3 (Operand.tmp 16) (Operand.const (Value.int IntKind.i64 1)) 3, none⟩,
    ⟨some 8, Op.assign (Operand.tmp 17), none⟩])))
def ir33 : LC := (.seq (.ops [⟨some 4, Op.assign (Operand.const (Value.int IntKind.i64 0)), none⟩,
    ⟨some 5, Op.assign (Operand.const (Value.int IntKind.i64 0)), none⟩,
    ⟨some 6, Op.assign (Operand.const (Value.bool false)), none⟩])
  (.seq (.seq (.ops [⟨some 9, Op.move (Operand.tmp 0), none⟩,
    ⟨some 10, Op.move (Operand.tmp 1), none⟩,
    ⟨some 11, Op.call { callee := Callee.value (Operand.func 65), args := #[Operand.tmp 9, Operand.tmp 10], argTypes := #[27, 3] }, none⟩,
    ⟨some 12, Op.unOp UnOp.not 4 (Operand.tmp 11), none⟩])
  (.cond (Operand.tmp 12)
  (.seq (.ops [⟨some 4, Op.assign (Operand.const (Value.int IntKind.i64 0)), none⟩,
    ⟨some 5, Op.assign (Operand.const (Value.int IntKind.i64 0)), none⟩,
    ⟨some 6, Op.assign (Operand.const (Value.bool false)), none⟩])
  .ret)
  .skip))
  (.seq (.ops [⟨some 7, Op.assign (Operand.const (Value.int IntKind.i64 0)), none⟩])
  (.seq (.seq (.ops [⟨some 8, Op.assign (Operand.const (Value.int IntKind.i64 0)), none⟩])
  (.block 0 (.loop ir33_l0)))
  (.seq (.draw [⟨some 27, Op.move (Operand.tmp 7), none⟩,
    ⟨some 28, Op.move (Operand.tmp 0), none⟩,
    ⟨some 29, Op.nilCheck (Operand.tmp 28), none⟩,
    ⟨some 30, Op.fieldAddr 68 (Operand.tmp 29) 1, none⟩,
    ⟨some 31, Op.load 22 (Operand.tmp 30), none⟩,
    ⟨some 32, Op.move (Operand.tmp 1), none⟩,
    ⟨some 33, Op.indexAddr 22 (Operand.tmp 31) (Operand.tmp 32), none⟩,
    ⟨some 34, Op.load 3 (Operand.tmp 33), none⟩,
    ⟨some 4, Op.assign (Operand.tmp 27), none⟩,
    ⟨some 5, Op.assign (Operand.tmp 34), none⟩,
    ⟨some 6, Op.assign (Operand.const (Value.bool true)), none⟩] [])
  .ret)))))
theorem ir33_eq : (Try.f33.body.map low, Try.f33.ntmps, Try.f33.results.toList) = (some ir33, 35, [.tmp 4, .tmp 5, .tmp 6]) := by kernel_rfl
def ir34 : LC := (.seq (.ops [⟨some 4, Op.assign (Operand.const (Value.int IntKind.i64 0)), none⟩])
  (.seq (.ops [⟨some 9, Op.move (Operand.tmp 0), none⟩,
    ⟨some 10, Op.move (Operand.tmp 1), none⟩,
    ⟨some 11, Op.call { callee := Callee.value (Operand.func 11), args := #[Operand.tmp 9, Operand.tmp 10], argTypes := #[25, 3] }, none⟩,
    ⟨some 8, Op.move (Operand.tmp 11), none⟩,
    ⟨some 12, Op.extract (Operand.tmp 8) 0, none⟩,
    ⟨some 13, Op.extract (Operand.tmp 8) 1, none⟩,
    ⟨some 14, Op.extract (Operand.tmp 8) 2, none⟩,
    ⟨some 5, Op.assign (Operand.tmp 12), none⟩,
    ⟨some 6, Op.assign (Operand.tmp 13), none⟩,
    ⟨some 7, Op.assign (Operand.tmp 14), none⟩])
  (.seq (.ops [⟨some 15, Op.move (Operand.tmp 6), none⟩,
    ⟨some 4, Op.assign (Operand.tmp 15), none⟩])
  .ret)))
theorem ir34_eq : (Try.f34.body.map low, Try.f34.ntmps, Try.f34.results.toList) = (some ir34, 16, [.tmp 4]) := by kernel_rfl
def ir35_l0 : LC := (.seq (.seq (.ops [⟨some 7, Op.move (Operand.tmp 0), none⟩,
    ⟨some 8, Op.move (Operand.tmp 1), none⟩,
    ⟨some 9, Op.call { callee := Callee.value (Operand.func 65), args := #[Operand.tmp 7, Operand.tmp 8], argTypes := #[27, 3] }, none⟩,
    ⟨some 10, Op.move (Operand.tmp 9), none⟩,
    ⟨some 11, Op.move (Operand.tmp 6), some (10, true)⟩,
    ⟨some 12, Op.move (Operand.tmp 0), some (10, true)⟩,
    ⟨some 13, Op.nilCheck (Operand.tmp 12), some (10, true)⟩,
    ⟨some 14, Op.fieldAddr 68 (Operand.tmp 13) 2, some (10, true)⟩,
    ⟨some 15, Op.load 66 (Operand.tmp 14), some (10, true)⟩,
    ⟨some 16, Op.move (Operand.tmp 1), some (10, true)⟩,
    ⟨some 17, Op.indexAddr 66 (Operand.tmp 15) (Operand.tmp 16), some (10, true)⟩,
    ⟨some 18, Op.load 64 (Operand.tmp 17), some (10, true)⟩,
    ⟨some 19, Op.call { callee := Callee.builtin Builtin.len, args := #[Operand.tmp 18], argTypes := #[64] }, some (10, true)⟩,
    ⟨some 20, Op.binOp BinOp.lss 3 (Operand.tmp 11) (Operand.tmp 19) 3, some (10, true)⟩,
    ⟨some 21, Op.pick (Operand.tmp 10) (Operand.tmp 20) (Operand.const (Value.bool false)), none⟩])
  (.cond (Operand.tmp 21)
  .skip
  (.exit 0)))
  (.seq (.block 1 (.seq (.ops [⟨some 24, Op.move (Operand.tmp 0), none⟩,
    ⟨some 25, Op.nilCheck (Operand.tmp 24), none⟩,
    ⟨some 26, Op.fieldAddr 68 (Operand.tmp 25) 2, none⟩,
    ⟨some 27, Op.load 66 (Operand.tmp 26), none⟩,
    ⟨some 28, Op.move (Operand.tmp 1), none⟩,
    ⟨some 29, Op.indexAddr 66 (Operand.tmp 27) (Operand.tmp 28), none⟩,
    ⟨some 30, Op.load 64 (Operand.tmp 29), none⟩,
    ⟨some 31, Op.move (Operand.tmp 6), none⟩,
    ⟨some 32, Op.indexAddr 64 (Operand.tmp 30) (Operand.tmp 31), none⟩,
    ⟨some 33, Op.load 4 (Operand.tmp 32), none⟩])
  (.cond (Operand.tmp 33)
  (.ops [⟨some 34, Op.move (Operand.tmp 5), none⟩,
    ⟨some 35, Op.binOp BinOp.add 3 (Operand.tmp 34) (Operand.const (Value.int IntKind.i64 1)) 3, none⟩,
    ⟨some 5, Op.assign (Operand.tmp 35), none⟩])
  .skip)))
  (.ops [⟨some 22, Op.move (Operand.tmp 6), none⟩,
    ⟨some 23, Op.binOp BinOp.add 3 (Operand.tmp 22) (Operand.const (Value.int IntKind.i64 1)) 3, none⟩,
    ⟨some 6, Op.assign (Operand.tmp 23), none⟩])))
def ir35 : LC := (.seq (.ops [⟨some 4, Op.assign (Operand.const (Value.int IntKind.i64 0)), none⟩])
  (.seq (.ops [⟨some 5, Op.assign (Operand.const (Value.int IntKind.i64 0)), none⟩])
  (.seq (.seq (.ops [⟨some 6, Op.assign (Operand.const (Value.int IntKind.i64 0)), none⟩])
  (.block 0 (.loop ir35_l0)))
  (.seq (.ops [⟨some 36, Op.move (Operand.tmp 5), none⟩,
    ⟨some 4, Op.assign (Operand.tmp 36), none⟩])
  .ret))))
theorem ir35_eq : (Try.f35.body.map low, Try.f35.ntmps, Try.f35.results.toList) = (some ir35, 37, [.tmp 4]) := by kernel_rfl
noncomputable def rc36 (i : Nat) : Code × Code := (((Try.f36.body.map rangesOf).getD [])[i]?).getD (.skip, .skip)
noncomputable def ir36_l0 : LC := (.seq (.seq (.ops [⟨some 22, Op.load 3 (Operand.tmp 9), none⟩,
    ⟨some 23, Op.binOp BinOp.lss 3 (Operand.tmp 22) (Operand.const (Value.int IntKind.i64 2)) 3, none⟩])
  (.cond (Operand.tmp 23)
  .skip
  (.exit 0)))
  (.seq (.block 1 (.seq (.ops [⟨some 10, Op.alloc 3, none⟩,
    ⟨none, Op.store 3 (Operand.tmp 10) (Operand.const (Value.int IntKind.i64 0)), none⟩])
  (.seq (.seq (.ops [⟨some 26, Op.move (Operand.tmp 7), none⟩])
  (.block 2 (.range (Operand.tmp 26) #[27] (rc36 0).1 (rc36 0).2)))
  (.seq (.ops [⟨some 49, Op.load 3 (Operand.tmp 9), none⟩,
    ⟨some 50, Op.binOp BinOp.eql 3 (Operand.tmp 49) (Operand.const (Value.int IntKind.i64 1)) 3, none⟩,
    ⟨some 51, Op.move (Operand.tmp 50), none⟩,
    ⟨some 52, Op.load 3 (Operand.tmp 10), some (51, true)⟩,
    ⟨some 53, Op.load 121 (Operand.tmp 8), some (51, true)⟩,
    ⟨some 54, Op.call { callee := Callee.builtin Builtin.len, args := #[Operand.tmp 53], argTypes := #[121] }, some (51, true)⟩,
    ⟨some 55, Op.binOp BinOp.neq 3 (Operand.tmp 52) (Operand.tmp 54) 3, some (51, true)⟩,
    ⟨some 56, Op.pick (Operand.tmp 51) (Operand.tmp 55) (Operand.const (Value.bool false)), none⟩,
    ⟨some 57, Op.move (Operand.tmp 56), none⟩,
    ⟨some 58, Op.load 3 (Operand.tmp 9), some (57, false)⟩,
    ⟨some 59, Op.binOp BinOp.eql 3 (Operand.tmp 58) (Operand.const (Value.int IntKind.i64 0)) 3, some (57, false)⟩,
    ⟨some 60, Op.move (Operand.tmp 59), some (57, false)⟩,
    ⟨some 61, Op.load 3 (Operand.tmp 10), some (60, true)⟩,
    ⟨some 62, Op.load 121 (Operand.tmp 8), some (60, true)⟩,
    ⟨some 63, Op.call { callee := Callee.builtin Builtin.len, args := #[Operand.tmp 62], argTypes := #[121] }, some (60, true)⟩,
    ⟨some 64, Op.binOp BinOp.neq 3 (Operand.tmp 61) (Operand.tmp 63) 3, some (60, true)⟩,
    ⟨some 65, Op.pick (Operand.tmp 60) (Operand.tmp 64) (Operand.const (Value.bool false)), some (57, false)⟩,
    ⟨some 66, Op.move (Operand.tmp 65), some (57, false)⟩,
    ⟨some 67, Op.load 3 (Operand.tmp 10), some (66, true)⟩,
    ⟨some 68, Op.load 3 (Operand.tmp 5), some (66, true)⟩,
    ⟨some 69, Op.binOp BinOp.neq 3 (Operand.tmp 67) (Operand.tmp 68) 3, some (66, true)⟩,
    ⟨some 70, Op.pick (Operand.tmp 66) (Operand.tmp 69) (Operand.const (Value.bool false)), some (57, false)⟩,
    ⟨some 71, Op.pick (Operand.tmp 57) (Operand.const (Value.bool true)) (Operand.tmp 70), none⟩])
  (.cond (Operand.tmp 71)
  (.seq (.ops [⟨none, Op.store 4 (Operand.tmp 6) (Operand.const (Value.bool false)), none⟩])
  .ret)
  .skip)))))
  (.seq (.seq (.ops [⟨some 72, Op.load 3 (Operand.tmp 9), none⟩])
  (.ops [⟨some 9, Op.alloc 3, none⟩,
    ⟨none, Op.store 3 (Operand.tmp 9) (Operand.tmp 72), none⟩]))
  (.ops [⟨some 24, Op.load 3 (Operand.tmp 9), none⟩,
    ⟨some 25, Op.binOp BinOp.add 3 (Operand.tmp 24) (Operand.const (Value.int IntKind.i64 1)) 3, none⟩,
    ⟨none, Op.store 3 (Operand.tmp 9) (Operand.tmp 25), none⟩]))))
noncomputable def ir36_a0 : LC := (.ops [⟨some 11, Op.alloc 118, none⟩,
    ⟨none, Op.store 118 (Operand.tmp 11) (Operand.tmp 27), none⟩])
noncomputable def ir36_b0 : LC := (.block 3 (.seq (.seq (.draw [⟨some 28, Op.load 3 (Operand.tmp 10), none⟩,
    ⟨some 29, Op.load 121 (Operand.tmp 8), none⟩,
    ⟨some 30, Op.call { callee := Callee.builtin Builtin.len, args := #[Operand.tmp 29], argTypes := #[121] }, none⟩,
    ⟨some 31, Op.binOp BinOp.geq 3 (Operand.tmp 28) (Operand.tmp 30) 3, none⟩,
    ⟨some 32, Op.move (Operand.tmp 31), none⟩,
    ⟨some 33, Op.load 118 (Operand.tmp 11), some (32, false)⟩,
    ⟨some 34, Op.load 121 (Operand.tmp 8), some (32, false)⟩,
    ⟨some 35, Op.load 3 (Operand.tmp 10), some (32, false)⟩,
    ⟨some 36, Op.indexAddr 121 (Operand.tmp 34) (Operand.tmp 35), some (32, false)⟩,
    ⟨some 37, Op.load 118 (Operand.tmp 36), some (32, false)⟩,
    ⟨some 38, Op.binOp BinOp.neq 118 (Operand.tmp 33) (Operand.tmp 37) 118, some (32, false)⟩,
    ⟨some 39, Op.pick (Operand.tmp 32) (Operand.const (Value.bool true)) (Operand.tmp 38), none⟩] [])
  (.cond (Operand.tmp 39)
  (.seq (.ops [⟨none, Op.store 4 (Operand.tmp 6) (Operand.const (Value.bool false)), none⟩])
  .ret)
  .skip))
  (.seq (.ops [⟨some 40, Op.load 3 (Operand.tmp 10), none⟩,
    ⟨some 41, Op.binOp BinOp.add 3 (Operand.tmp 40) (Operand.const (Value.int IntKind.i64 1)) 3, none⟩,
    ⟨none, Op.store 3 (Operand.tmp 10) (Operand.tmp 41), none⟩])
  (.seq (.ops [⟨some 42, Op.load 3 (Operand.tmp 9), none⟩,
    ⟨some 43, Op.binOp BinOp.eql 3 (Operand.tmp 42) (Operand.const (Value.int IntKind.i64 0)) 3, none⟩,
    ⟨some 44, Op.move (Operand.tmp 43), none⟩,
    ⟨some 45, Op.load 3 (Operand.tmp 10), some (44, true)⟩,
    ⟨some 46, Op.load 3 (Operand.tmp 5), some (44, true)⟩,
    ⟨some 47, Op.binOp BinOp.eql 3 (Operand.tmp 45) (Operand.tmp 46) 3, some (44, true)⟩,
    ⟨some 48, Op.pick (Operand.tmp 44) (Operand.tmp 47) (Operand.const (Value.bool false)), none⟩])
  (.cond (Operand.tmp 48)
  (.exit 2)
  .skip)))))
theorem ir36_a0_eq : low (rc36 0).1 = ir36_a0 := by kernel_rfl
theorem ir36_b0_eq : low (rc36 0).2 = ir36_b0 := by kernel_rfl
noncomputable def ir36 : LC := (.seq (.ops [⟨some 3, Op.box 29 (Operand.tmp 0), none⟩,
    ⟨some 5, Op.box 3 (Operand.tmp 2), none⟩,
    ⟨some 6, Op.alloc 4, none⟩])
  (.seq (.draw [⟨some 12, Op.fieldAddr 29 (Operand.tmp 3) 0, none⟩,
    ⟨some 13, Op.load 25 (Operand.tmp 12), none⟩,
    ⟨some 14, Op.move (Operand.tmp 1), none⟩,
    ⟨some 15, Op.call { callee := Callee.value (Operand.func 48), args := #[Operand.tmp 13, Operand.tmp 14], argTypes := #[25, 3] }, none⟩,
    ⟨some 16, Op.fieldAddr 29 (Operand.tmp 3) 2, none⟩,
    ⟨some 17, Op.load 27 (Operand.tmp 16), none⟩,
    ⟨some 18, Op.move (Operand.tmp 1), none⟩,
    ⟨some 19, Op.call { callee := Callee.value (Operand.func 66), args := #[Operand.tmp 17, Operand.tmp 18], argTypes := #[27, 3] }, none⟩,
    ⟨some 8, Op.alloc 121, none⟩,
    ⟨some 7, Op.assign (Operand.tmp 15), none⟩,
    ⟨none, Op.store 121 (Operand.tmp 8) (Operand.tmp 19), none⟩] [(3, 4), (3, 5), (3, 6), (0, 8), (1, 8), (2, 8), (3, 8), (4, 8), (5, 8), (6, 8), (7, 8)])
  (.seq (.seq (.ops [⟨some 20, Op.move (Operand.tmp 7), none⟩,
    ⟨some 21, Op.binOp BinOp.eql 98 (Operand.tmp 20) (Operand.const Value.nilFunc) 98, none⟩])
  (.cond (Operand.tmp 21)
  (.seq (.ops [⟨none, Op.store 4 (Operand.tmp 6) (Operand.const (Value.bool false)), none⟩])
  .ret)
  .skip))
  (.seq (.seq (.ops [⟨some 9, Op.alloc 3, none⟩,
    ⟨none, Op.store 3 (Operand.tmp 9) (Operand.const (Value.int IntKind.i64 0)), none⟩])
  (.block 0 (.loop ir36_l0)))
  (.seq (.ops [⟨none, Op.store 4 (Operand.tmp 6) (Operand.const (Value.bool true)), none⟩])
  .ret)))))
theorem ir36_eq : (Try.f36.body.map low, Try.f36.ntmps, Try.f36.results.toList) = (some ir36, 73, [.cell 6 4]) := by kernel_rfl
def ir37_l0 : LC := (.seq (.seq (.ops [⟨some 11, Op.move (Operand.tmp 0), none⟩,
    ⟨some 12, Op.binOp BinOp.neq 27 (Operand.tmp 11) (Operand.const (Value.pointer none)) 27, none⟩,
    ⟨some 13, Op.move (Operand.tmp 12), none⟩,
    ⟨some 14, Op.move (Operand.tmp 7), some (13, true)⟩,
    ⟨some 15, Op.move (Operand.tmp 0), some (13, true)⟩,
    ⟨some 16, Op.nilCheck (Operand.tmp 15), some (13, true)⟩,
    ⟨some 17, Op.fieldAddr 68 (Operand.tmp 16) 1, some (13, true)⟩,
    ⟨some 18, Op.load 22 (Operand.tmp 17), some (13, true)⟩,
    ⟨some 19, Op.call { callee := Callee.builtin Builtin.len, args := #[Operand.tmp 18], argTypes := #[22] }, some (13, true)⟩,
    ⟨some 20, Op.binOp BinOp.lss 3 (Operand.tmp 14) (Operand.tmp 19) 3, some (13, true)⟩,
    ⟨some 21, Op.pick (Operand.tmp 13) (Operand.tmp 20) (Operand.const (Value.bool false)), none⟩])
  (.cond (Operand.tmp 21)
  .skip
  (.exit 0)))
  (.seq (.block 1 (.seq (.ops [⟨some 25, Op.move (Operand.tmp 0), none⟩,
    ⟨some 26, Op.move (Operand.tmp 7), none⟩,
    ⟨some 27, Op.call { callee := Callee.value (Operand.func 33), args := #[Operand.tmp 25, Operand.tmp 26], argTypes := #[27, 3] }, none⟩,
    ⟨some 24, Op.move (Operand.tmp 27), none⟩,
    ⟨some 28, Op.extract (Operand.tmp 24) 0, none⟩,
    ⟨some 29, Op.extract (Operand.tmp 24) 1, none⟩,
    ⟨some 30, Op.extract (Operand.tmp 24) 2, none⟩,
    ⟨some 8, Op.assign (Operand.tmp 28), none⟩,
    ⟨some 9, Op.assign (Operand.tmp 29), none⟩,
    ⟨some 10, Op.assign (Operand.tmp 30), none⟩])
  (.seq (.ops [⟨some 31, Op.move (Operand.tmp 1), none⟩,
    ⟨some 32, Op.move (Operand.tmp 8), none⟩,
    ⟨some 33, Op.binOp BinOp.geq 3 (Operand.tmp 31) (Operand.tmp 32) 3, none⟩,
    ⟨some 34, Op.move (Operand.tmp 33), none⟩,
    ⟨some 35, Op.move (Operand.tmp 1), some (34, true)⟩,
    ⟨some 36, Op.move (Operand.tmp 8), some (34, true)⟩,
    ⟨some 37, Op.move (Operand.tmp 9), some (34, true)⟩,
    ⟨some 38, Op.binOp BinOp.add 3 (Operand.tmp 36) (Operand.tmp 37) 3, some (34, true)⟩,
    ⟨some 39, Op.binOp BinOp.lss 3 (Operand.tmp 35) (Operand.tmp 38) 3, some (34, true)⟩,
    ⟨some 40, Op.pick (Operand.tmp 34) (Operand.tmp 39) (Operand.const (Value.bool false)), none⟩])
  (.cond (Operand.tmp 40)
  (.seq (.ops [⟨some 41, Op.move (Operand.tmp 7), none⟩,
    ⟨some 42, Op.move (Operand.tmp 1), none⟩,
    ⟨some 43, Op.move (Operand.tmp 8), none⟩,
    ⟨some 44, Op.binOp BinOp.sub 3 (Operand.tmp 42) (Operand.tmp 43) 3, none⟩,
    ⟨some 4, Op.assign (Operand.tmp 41), none⟩,
    ⟨some 5, Op.assign (Operand.tmp 44), none⟩,
    ⟨some 6, Op.assign (Operand.const (Value.bool true)), none⟩])
  .ret)
  .skip))))
  (.ops [⟨some 22, Op.move (Operand.tmp 7), none⟩,
    ⟨some 23, Op.binOp BinOp.add 3 (Operand.tmp 22) (Operand.const (Value.int IntKind.i64 1)) 3, none⟩,
    ⟨some 7, Op.assign (Operand.tmp 23), none⟩])))
def ir37 : LC := (.seq (.ops [⟨some 4, Op.assign (Operand.const (Value.int IntKind.i64 0)), none⟩,
    ⟨some 5, Op.assign (Operand.const (Value.int IntKind.i64 0)), none⟩,
    ⟨some 6, Op.assign (Operand.const (Value.bool false)), none⟩])
  (.seq (.seq (.ops [⟨some 7, Op.assign (Operand.const (Value.int IntKind.i64 0)), none⟩])
  (.block 0 (.loop ir37_l0)))
  (.seq (.ops [⟨some 4, Op.assign (Operand.const (Value.int IntKind.i64 0)), none⟩,
    ⟨some 5, Op.assign (Operand.const (Value.int IntKind.i64 0)), none⟩,
    ⟨some 6, Op.assign (Operand.const (Value.bool false)), none⟩])
  .ret)))
theorem ir37_eq : (Try.f37.body.map low, Try.f37.ntmps, Try.f37.results.toList) = (some ir37, 45, [.tmp 4, .tmp 5, .tmp 6]) := by kernel_rfl
def ir39_l0 : LC := (.seq (.ops [⟨some 21, Op.binOp BinOp.lss 3 (Operand.tmp 20) (Operand.tmp 19) 3, none⟩])
  (.seq (.cond (Operand.tmp 21)
  .skip
  (.exit 0))
  (.seq (.block 1 (.seq (.ops [⟨some 22, Op.move (Operand.tmp 20), none⟩,
    ⟨some 4, Op.assign (Operand.tmp 22), none⟩])
  (.ops [⟨some 23, Op.move (Operand.tmp 3), none⟩,
    ⟨some 24, Op.move (Operand.tmp 0), none⟩,
    ⟨some 25, Op.nilCheck (Operand.tmp 24), none⟩,
    ⟨some 26, Op.fieldAddr 88 (Operand.tmp 25) 0, none⟩,
    ⟨some 27, Op.load 85 (Operand.tmp 26), none⟩,
    ⟨some 28, Op.move (Operand.tmp 4), none⟩,
    ⟨some 29, Op.indexAddr 85 (Operand.tmp 27) (Operand.tmp 28), none⟩,
    ⟨some 30, Op.slice 113 (Operand.tmp 29) none none none, none⟩,
    ⟨some 31, Op.call { callee := Callee.builtin Builtin.append, args := #[Operand.tmp 23, Operand.tmp 30], argTypes := #[45, 45] }, none⟩,
    ⟨some 3, Op.assign (Operand.tmp 31), none⟩])))
  (.ops [⟨some 32, Op.binOp BinOp.add 3 (Operand.tmp 20) (Operand.const (Value.int IntKind.i64 1)) 3, none⟩,
    ⟨some 20, Op.move (Operand.tmp 32), none⟩]))))
def ir39 : LC := (.seq (.ops [⟨some 2, Op.assign (Operand.const (Value.slice none 0 0)), none⟩])
  (.seq (.seq (.ops [⟨some 5, Op.move (Operand.tmp 0), none⟩,
    ⟨some 6, Op.call { callee := Callee.value (Operand.func 58), args := #[Operand.tmp 5], argTypes := #[26] }, none⟩,
    ⟨some 7, Op.unOp UnOp.not 4 (Operand.tmp 6), none⟩])
  (.cond (Operand.tmp 7)
  (.seq (.ops [⟨some 2, Op.assign (Operand.const (Value.slice none 0 0)), none⟩])
  .ret)
  .skip))
  (.seq (.ops [⟨some 8, Op.move (Operand.tmp 0), none⟩,
    ⟨some 9, Op.nilCheck (Operand.tmp 8), none⟩,
    ⟨some 10, Op.fieldAddr 88 (Operand.tmp 9) 0, none⟩,
    ⟨some 11, Op.load 85 (Operand.tmp 10), none⟩,
    ⟨some 12, Op.call { callee := Callee.builtin Builtin.len, args := #[Operand.tmp 11], argTypes := #[85] }, none⟩,
    ⟨some 13, Op.binOp BinOp.mul 3 (Operand.tmp 12) (Operand.const (Value.int IntKind.i64 128)) 3, none⟩,
    ⟨some 14, Op.makeSlice 45 (Operand.const (Value.int IntKind.i64 0)) (Operand.tmp 13), none⟩,
    ⟨some 3, Op.assign (Operand.tmp 14), none⟩])
  (.seq (.seq (.ops [⟨some 15, Op.move (Operand.tmp 0), none⟩,
    ⟨some 16, Op.nilCheck (Operand.tmp 15), none⟩,
    ⟨some 17, Op.fieldAddr 88 (Operand.tmp 16) 0, none⟩,
    ⟨some 18, Op.load 85 (Operand.tmp 17), none⟩,
    ⟨some 19, Op.call { callee := Callee.builtin Builtin.len, args := #[Operand.tmp 18], argTypes := #[85] }, none⟩,
    ⟨some 20, Op.move (Operand.const (Value.int IntKind.i64 0)), none⟩])
  (.block 0 (.loop ir39_l0)))
  (.seq (.ops [⟨some 33, Op.move (Operand.tmp 3), none⟩,
    ⟨some 2, Op.assign (Operand.tmp 33), none⟩])
  .ret)))))
theorem ir39_eq : (Try.f39.body.map low, Try.f39.ntmps, Try.f39.results.toList) = (some ir39, 34, [.tmp 2]) := by kernel_rfl
def ir40_l0 : LC := (.seq (.seq (.ops [⟨some 7, Op.move (Operand.tmp 4), none⟩,
    ⟨some 8, Op.move (Operand.tmp 0), none⟩,
    ⟨some 9, Op.nilCheck (Operand.tmp 8), none⟩,
    ⟨some 10, Op.fieldAddr 83 (Operand.tmp 9) 0, none⟩,
    ⟨some 11, Op.load 80 (Operand.tmp 10), none⟩,
    ⟨some 12, Op.call { callee := Callee.builtin Builtin.len, args := #[Operand.tmp 11], argTypes := #[80] }, none⟩,
    ⟨some 13, Op.binOp BinOp.lss 3 (Operand.tmp 7) (Operand.tmp 12) 3, none⟩])
  (.cond (Operand.tmp 13)
  .skip
  (.exit 0)))
  (.seq (.block 1 (.ops [⟨some 16, Op.move (Operand.tmp 3), none⟩,
    ⟨some 17, Op.move (Operand.tmp 0), none⟩,
    ⟨some 18, Op.nilCheck (Operand.tmp 17), none⟩,
    ⟨some 19, Op.fieldAddr 83 (Operand.tmp 18) 0, none⟩,
    ⟨some 20, Op.load 80 (Operand.tmp 19), none⟩,
    ⟨some 21, Op.move (Operand.tmp 4), none⟩,
    ⟨some 22, Op.indexAddr 80 (Operand.tmp 20) (Operand.tmp 21), none⟩,
    ⟨some 23, Op.load 45 (Operand.tmp 22), none⟩,
    ⟨some 24, Op.call { callee := Callee.builtin Builtin.append, args := #[Operand.tmp 16, Operand.tmp 23], argTypes := #[45, 45] }, none⟩,
    ⟨some 3, Op.assign (Operand.tmp 24), none⟩]))
  (.ops [⟨some 14, Op.move (Operand.tmp 4), none⟩,
    ⟨some 15, Op.binOp BinOp.add 3 (Operand.tmp 14) (Operand.const (Value.int IntKind.i64 1)) 3, none⟩,
    ⟨some 4, Op.assign (Operand.tmp 15), none⟩])))
def ir40 : LC := (.seq (.ops [⟨some 2, Op.assign (Operand.const (Value.slice none 0 0)), none⟩])
  (.seq (.seq (.ops [⟨some 5, Op.move (Operand.tmp 0), none⟩,
    ⟨some 6, Op.binOp BinOp.eql 65 (Operand.tmp 5) (Operand.const (Value.pointer none)) 65, none⟩])
  (.cond (Operand.tmp 6)
  (.seq (.ops [⟨some 2, Op.assign (Operand.const (Value.slice none 0 0)), none⟩])
  .ret)
  .skip))
  (.seq (.ops [⟨some 3, Op.assign (Operand.const (Value.slice none 0 0)), none⟩])
  (.seq (.seq (.ops [⟨some 4, Op.assign (Operand.const (Value.int IntKind.i64 0)), none⟩])
  (.block 0 (.loop ir40_l0)))
  (.seq (.ops [⟨some 25, Op.move (Operand.tmp 3), none⟩,
    ⟨some 2, Op.assign (Operand.tmp 25), none⟩])
  .ret)))))
theorem ir40_eq : (Try.f40.body.map low, Try.f40.ntmps, Try.f40.results.toList) = (some ir40, 26, [.tmp 2]) := by kernel_rfl
def ir65 : LC := (.seq (.ops [⟨some 4, Op.assign (Operand.const (Value.bool false)), none⟩])
  (.seq (.ops [⟨some 5, Op.move (Operand.tmp 0), none⟩,
    ⟨some 6, Op.binOp BinOp.neq 27 (Operand.tmp 5) (Operand.const (Value.pointer none)) 27, none⟩,
    ⟨some 7, Op.move (Operand.tmp 6), none⟩,
    ⟨some 8, Op.move (Operand.tmp 1), some (7, true)⟩,
    ⟨some 9, Op.binOp BinOp.geq 3 (Operand.tmp 8) (Operand.const (Value.int IntKind.i64 0)) 3, some (7, true)⟩,
    ⟨some 10, Op.pick (Operand.tmp 7) (Operand.tmp 9) (Operand.const (Value.bool false)), none⟩,
    ⟨some 11, Op.move (Operand.tmp 10), none⟩,
    ⟨some 12, Op.move (Operand.tmp 1), some (11, true)⟩,
    ⟨some 13, Op.move (Operand.tmp 0), some (11, true)⟩,
    ⟨some 14, Op.nilCheck (Operand.tmp 13), some (11, true)⟩,
    ⟨some 15, Op.fieldAddr 68 (Operand.tmp 14) 1, some (11, true)⟩,
    ⟨some 16, Op.load 22 (Operand.tmp 15), some (11, true)⟩,
    ⟨some 17, Op.call { callee := Callee.builtin Builtin.len, args := #[Operand.tmp 16], argTypes := #[22] }, some (11, true)⟩,
    ⟨some 18, Op.binOp BinOp.lss 3 (Operand.tmp 12) (Operand.tmp 17) 3, some (11, true)⟩,
    ⟨some 19, Op.pick (Operand.tmp 11) (Operand.tmp 18) (Operand.const (Value.bool false)), none⟩,
    ⟨some 4, Op.assign (Operand.tmp 19), none⟩])
  .ret))
theorem ir65_eq : (Try.f65.body.map low, Try.f65.ntmps, Try.f65.results.toList) = (some ir65, 20, [.tmp 4]) := by kernel_rfl
def ir66_l0 : LC := (.seq (.seq (.ops [⟨some 7, Op.move (Operand.tmp 0), none⟩,
    ⟨some 8, Op.move (Operand.tmp 1), none⟩,
    ⟨some 9, Op.call { callee := Callee.value (Operand.func 65), args := #[Operand.tmp 7, Operand.tmp 8], argTypes := #[27, 3] }, none⟩,
    ⟨some 10, Op.move (Operand.tmp 9), none⟩,
    ⟨some 11, Op.move (Operand.tmp 6), some (10, true)⟩,
    ⟨some 12, Op.move (Operand.tmp 0), some (10, true)⟩,
    ⟨some 13, Op.nilCheck (Operand.tmp 12), some (10, true)⟩,
    ⟨some 14, Op.fieldAddr 68 (Operand.tmp 13) 2, some (10, true)⟩,
    ⟨some 15, Op.load 66 (Operand.tmp 14), some (10, true)⟩,
    ⟨some 16, Op.move (Operand.tmp 1), some (10, true)⟩,
    ⟨some 17, Op.indexAddr 66 (Operand.tmp 15) (Operand.tmp 16), some (10, true)⟩,
    ⟨some 18, Op.load 64 (Operand.tmp 17), some (10, true)⟩,
    ⟨some 19, Op.call { callee := Callee.builtin Builtin.len, args := #[Operand.tmp 18], argTypes := #[64] }, some (10, true)⟩,
    ⟨some 20, Op.binOp BinOp.lss 3 (Operand.tmp 11) (Operand.tmp 19) 3, some (10, true)⟩,
    ⟨some 21, Op.pick (Operand.tmp 10) (Operand.tmp 20) (Operand.const (Value.bool false)), none⟩])
  (.cond (Operand.tmp 21)
  .skip
  (.exit 0)))
  (.seq (.block 1 (.seq (.seq (.ops [⟨some 24, Op.move (Operand.tmp 0), none⟩,
    ⟨some 25, Op.nilCheck (Operand.tmp 24), none⟩,
    ⟨some 26, Op.fieldAddr 68 (Operand.tmp 25) 2, none⟩,
    ⟨some 27, Op.load 66 (Operand.tmp 26), none⟩,
    ⟨some 28, Op.move (Operand.tmp 1), none⟩,
    ⟨some 29, Op.indexAddr 66 (Operand.tmp 27) (Operand.tmp 28), none⟩,
    ⟨some 30, Op.load 64 (Operand.tmp 29), none⟩,
    ⟨some 31, Op.move (Operand.tmp 6), none⟩,
    ⟨some 32, Op.indexAddr 64 (Operand.tmp 30) (Operand.tmp 31), none⟩,
    ⟨some 33, Op.load 4 (Operand.tmp 32), none⟩,
    ⟨some 34, Op.unOp UnOp.not 4 (Operand.tmp 33), none⟩])
  (.cond (Operand.tmp 34)
  (.exit 1)
  .skip))
  (.seq (.draw [⟨some 35, Op.move (Operand.tmp 5), none⟩,
    ⟨some 36, Op.call { callee := Callee.builtin Builtin.len, args := #[Operand.tmp 35], argTypes := #[121] }, none⟩,
    ⟨some 37, Op.binOp BinOp.gtr 3 (Operand.tmp 36) (Operand.const (Value.int IntKind.i64 0)) 3, none⟩,
    ⟨some 38, Op.move (Operand.tmp 37), none⟩,
    ⟨some 39, Op.move (Operand.tmp 5), some (38, true)⟩,
    ⟨some 40, Op.move (Operand.tmp 5), some (38, true)⟩,
    ⟨some 41, Op.call { callee := Callee.builtin Builtin.len, args := #[Operand.tmp 40], argTypes := #[121] }, some (38, true)⟩,
    ⟨some 42, Op.binOp BinOp.sub 3 (Operand.tmp 41) (Operand.const (Value.int IntKind.i64 1)) 3, some (38, true)⟩,
    ⟨some 43, Op.indexAddr 121 (Operand.tmp 39) (Operand.tmp 42), some (38, true)⟩,
    ⟨some 44, Op.fieldAddr 118 (Operand.tmp 43) 0, some (38, true)⟩,
    ⟨some 45, Op.load 3 (Operand.tmp 44), some (38, true)⟩,
    ⟨some 46, Op.move (Operand.tmp 5), some (38, true)⟩,
    ⟨some 47, Op.move (Operand.tmp 5), some (38, true)⟩,
    ⟨some 48, Op.call { callee := Callee.builtin Builtin.len, args := #[Operand.tmp 47], argTypes := #[121] }, some (38, true)⟩,
    ⟨some 49, Op.binOp BinOp.sub 3 (Operand.tmp 48) (Operand.const (Value.int IntKind.i64 1)) 3, some (38, true)⟩,
    ⟨some 50, Op.indexAddr 121 (Operand.tmp 46) (Operand.tmp 49), some (38, true)⟩,
    ⟨some 51, Op.fieldAddr 118 (Operand.tmp 50) 1, some (38, true)⟩,
    ⟨some 52, Op.load 3 (Operand.tmp 51), some (38, true)⟩,
    ⟨some 53, Op.binOp BinOp.add 3 (Operand.tmp 45) (Operand.tmp 52) 3, some (38, true)⟩,
    ⟨some 54, Op.move (Operand.tmp 6), some (38, true)⟩,
    ⟨some 55, Op.binOp BinOp.eql 3 (Operand.tmp 53) (Operand.tmp 54) 3, some (38, true)⟩,
    ⟨some 56, Op.pick (Operand.tmp 38) (Operand.tmp 55) (Operand.const (Value.bool false)), none⟩] [])
  (.cond (Operand.tmp 56)
  (.ops [⟨some 57, Op.move (Operand.tmp 5), none⟩,
    ⟨some 58, Op.move (Operand.tmp 5), none⟩,
    ⟨some 59, Op.call { callee := Callee.builtin Builtin.len, args := #[Operand.tmp 58], argTypes := #[121] }, none⟩,
    ⟨some 60, Op.binOp BinOp.sub 3 (Operand.tmp 59) (Operand.const (Value.int IntKind.i64 1)) 3, none⟩,
    ⟨some 61, Op.indexAddr 121 (Operand.tmp 57) (Operand.tmp 60), none⟩,
    ⟨some 62, Op.fieldAddr 118 (Operand.tmp 61) 1, none⟩,
    ⟨some 63, Op.load 3 (Operand.tmp 62), none⟩,
    ⟨some 64, Op.binOp BinOp.add 3 (Operand.tmp 63) (Operand.const (Value.int IntKind.i64 1)) 3, none⟩,
    ⟨some 65, Op.indexAddr 121 (Operand.tmp 57) (Operand.tmp 60), none⟩,
    ⟨some 66, Op.fieldAddr 118 (Operand.tmp 65) 1, none⟩,
    ⟨none, Op.store 3 (Operand.tmp 66) (Operand.tmp 64), none⟩])
  (.ops [⟨some 67, Op.move (Operand.tmp 5), none⟩,
    ⟨some 68, Op.move (Operand.tmp 6), none⟩,
    ⟨some 69, Op.build 118 #[(0, Operand.tmp 68), (1, Operand.const (Value.int IntKind.i64 1))], none⟩,
    ⟨some 70, Op.buildSlice 121 1 #[(0, Operand.tmp 69)], none⟩,
    ⟨some 71, Op.call { callee := Callee.builtin Builtin.append, args := #[Operand.tmp 67, Operand.tmp 70], argTypes := #[121, 121] }, none⟩,
    ⟨some 5, Op.assign (Operand.tmp 71), none⟩])))))
  (.ops [⟨some 22, Op.move (Operand.tmp 6), none⟩,
    ⟨some 23, Op.binOp BinOp.add 3 (Operand.tmp 22) (Operand.const (Value.int IntKind.i64 1)) 3, none⟩,
    ⟨some 6, Op.assign (Operand.tmp 23), none⟩])))
def ir66 : LC := (.seq (.ops [⟨some 4, Op.assign (Operand.const (Value.slice none 0 0)), none⟩])
  (.seq (.ops [⟨some 5, Op.assign (Operand.const (Value.slice none 0 0)), none⟩])
  (.seq (.seq (.ops [⟨some 6, Op.assign (Operand.const (Value.int IntKind.i64 0)), none⟩])
  (.block 0 (.loop ir66_l0)))
  (.seq (.ops [⟨some 72, Op.move (Operand.tmp 5), none⟩,
    ⟨some 4, Op.assign (Operand.tmp 72), none⟩])
  .ret))))
theorem ir66_eq : (Try.f66.body.map low, Try.f66.ntmps, Try.f66.results.toList) = (some ir66, 73, [.tmp 4]) := by kernel_rfl


end Go.Proofs.Ythdkhbhicimpdaa
