/- The code of this seat struck bare (printed by program). -/
import Derived.Test.YtgkcbpagdfdpdaaProg
import Derived.Test.YtgkcbpagdfdpdaaV4
import Derived.KernelRfl
set_option linter.unusedVariables false
set_option linter.unusedSimpArgs false
set_option linter.unusedSimpArgs false
set_option maxRecDepth 100000
namespace Go.Proofs.Ytgkcbpagdfdpdaa
open Go Go.Vm
def ir4_l0 : LC := (.seq (.seq (.ops [⟨some 32, Op.move (Operand.tmp 7), none⟩,
    ⟨some 33, Op.move (Operand.tmp 3), none⟩,
    ⟨some 34, Op.call { callee := Callee.builtin Builtin.len, args := #[Operand.tmp 33], argTypes := #[33] }, none⟩,
    ⟨some 35, Op.binOp BinOp.lss 3 (Operand.tmp 32) (Operand.tmp 34) 3, none⟩])
  (.cond (Operand.tmp 35)
  .skip
  (.exit 0)))
  (.seq (.block 1 (.ops [⟨some 38, Op.move (Operand.tmp 3), none⟩,
    ⟨some 39, Op.move (Operand.tmp 7), none⟩,
    ⟨some 40, Op.indexAddr 33 (Operand.tmp 38) (Operand.tmp 39), none⟩,
    ⟨none, Op.store 5 (Operand.tmp 40) (Operand.const (Value.int IntKind.u8 102)), none⟩]))
  (.ops [⟨some 36, Op.move (Operand.tmp 7), none⟩,
    ⟨some 37, Op.binOp BinOp.add 3 (Operand.tmp 36) (Operand.const (Value.int IntKind.i64 1)) 3, none⟩,
    ⟨some 7, Op.assign (Operand.tmp 37), none⟩])))
def ir4 : LC := (.seq (.ops [⟨some 2, Op.assign (Operand.const (Value.bool false)), none⟩])
  (.seq (.seq (.ops [⟨some 8, Op.move (Operand.tmp 0), none⟩,
    ⟨some 9, Op.call { callee := Callee.builtin Builtin.len, args := #[Operand.tmp 8], argTypes := #[33] }, none⟩,
    ⟨some 10, Op.binOp BinOp.gtr 3 (Operand.tmp 9) (Operand.const (Value.int IntKind.i64 20000)) 3, none⟩])
  (.cond (Operand.tmp 10)
  (.seq (.ops [⟨some 11, Op.call { callee := Callee.value (Operand.func 8), args := #[], argTypes := #[] }, none⟩,
    ⟨some 2, Op.assign (Operand.tmp 11), none⟩])
  .ret)
  .skip))
  (.seq (.ops [⟨some 12, Op.move (Operand.tmp 0), none⟩,
    ⟨some 13, Op.call { callee := Callee.builtin Builtin.append, args := #[Operand.const (Value.slice none 0 0), Operand.tmp 12], argTypes := #[33, 33] }, none⟩,
    ⟨some 14, Op.buildSlice 33 1 #[(0, Operand.const (Value.int IntKind.u8 119))], none⟩,
    ⟨some 15, Op.call { callee := Callee.builtin Builtin.append, args := #[Operand.tmp 13, Operand.tmp 14], argTypes := #[33, 33] }, none⟩,
    ⟨some 3, Op.assign (Operand.tmp 15), none⟩])
  (.seq (.ops [⟨some 17, Op.move (Operand.tmp 3), none⟩,
    ⟨some 18, Op.move (Operand.tmp 0), none⟩,
    ⟨some 19, Op.call { callee := Callee.builtin Builtin.len, args := #[Operand.tmp 18], argTypes := #[33] }, none⟩,
    ⟨some 20, Op.slice 33 (Operand.tmp 17) none (some (Operand.tmp 19)) none, none⟩,
    ⟨some 21, Op.call { callee := Callee.value (Operand.func 19), args := #[Operand.tmp 20], argTypes := #[33] }, none⟩,
    ⟨some 16, Op.move (Operand.tmp 21), none⟩,
    ⟨some 22, Op.extract (Operand.tmp 16) 0, none⟩,
    ⟨some 23, Op.extract (Operand.tmp 16) 1, none⟩,
    ⟨some 4, Op.assign (Operand.tmp 22), none⟩,
    ⟨some 5, Op.assign (Operand.tmp 23), none⟩])
  (.seq (.ops [⟨some 24, Op.move (Operand.tmp 0), none⟩,
    ⟨some 25, Op.call { callee := Callee.value (Operand.func 20), args := #[Operand.tmp 24], argTypes := #[33] }, none⟩,
    ⟨some 6, Op.assign (Operand.tmp 25), none⟩])
  (.seq (.seq (.ops [⟨some 26, Op.move (Operand.tmp 3), none⟩,
    ⟨some 27, Op.convert 33 9 (Operand.tmp 26), none⟩,
    ⟨some 28, Op.move (Operand.tmp 0), none⟩,
    ⟨some 29, Op.convert 33 9 (Operand.tmp 28), none⟩,
    ⟨some 30, Op.binOp BinOp.add 9 (Operand.tmp 29) (Operand.const (Value.string { data := #[119] })) 9, none⟩,
    ⟨some 31, Op.binOp BinOp.neq 9 (Operand.tmp 27) (Operand.tmp 30) 9, none⟩])
  (.cond (Operand.tmp 31)
  (.seq (.ops [⟨some 2, Op.assign (Operand.const (Value.bool false)), none⟩])
  .ret)
  .skip))
  (.seq (.seq (.ops [⟨some 7, Op.assign (Operand.const (Value.int IntKind.i64 0)), none⟩])
  (.block 0 (.loop ir4_l0)))
  (.seq (.seq (.ops [⟨some 41, Op.move (Operand.tmp 6), none⟩,
    ⟨some 42, Op.binOp BinOp.eql 45 (Operand.tmp 41) (Operand.const (Value.pointer none)) 45, none⟩])
  (.cond (Operand.tmp 42)
  (.seq (.ops [⟨some 43, Op.move (Operand.tmp 4), none⟩,
    ⟨some 44, Op.binOp BinOp.eql 26 (Operand.tmp 43) (Operand.const (Value.pointer none)) 26, none⟩,
    ⟨some 45, Op.move (Operand.tmp 44), none⟩,
    ⟨some 46, Op.move (Operand.tmp 5), some (45, true)⟩,
    ⟨some 47, Op.call { callee := Callee.value (Operand.func 11), args := #[Operand.tmp 46], argTypes := #[27] }, some (45, true)⟩,
    ⟨some 48, Op.binOp BinOp.eql 3 (Operand.tmp 47) (Operand.const (Value.int IntKind.i64 2)) 3, some (45, true)⟩,
    ⟨some 49, Op.pick (Operand.tmp 45) (Operand.tmp 48) (Operand.const (Value.bool false)), none⟩,
    ⟨some 50, Op.move (Operand.tmp 49), none⟩,
    ⟨some 51, Op.call { callee := Callee.value (Operand.func 8), args := #[], argTypes := #[] }, some (50, true)⟩,
    ⟨some 52, Op.pick (Operand.tmp 50) (Operand.tmp 51) (Operand.const (Value.bool false)), none⟩,
    ⟨some 2, Op.assign (Operand.tmp 52), none⟩])
  .ret)
  .skip))
  (.seq (.ops [⟨some 53, Op.move (Operand.tmp 4), none⟩,
    ⟨some 54, Op.binOp BinOp.neq 26 (Operand.tmp 53) (Operand.const (Value.pointer none)) 26, none⟩,
    ⟨some 55, Op.move (Operand.tmp 54), none⟩,
    ⟨some 56, Op.move (Operand.tmp 5), some (55, true)⟩,
    ⟨some 57, Op.call { callee := Callee.value (Operand.func 11), args := #[Operand.tmp 56], argTypes := #[27] }, some (55, true)⟩,
    ⟨some 58, Op.binOp BinOp.eql 3 (Operand.tmp 57) (Operand.const (Value.int IntKind.i64 0)) 3, some (55, true)⟩,
    ⟨some 59, Op.pick (Operand.tmp 55) (Operand.tmp 58) (Operand.const (Value.bool false)), none⟩,
    ⟨some 60, Op.move (Operand.tmp 59), none⟩,
    ⟨some 61, Op.move (Operand.tmp 4), some (60, true)⟩,
    ⟨some 62, Op.move (Operand.tmp 6), some (60, true)⟩,
    ⟨some 63, Op.call { callee := Callee.value (Operand.func 21), args := #[Operand.tmp 61, Operand.tmp 62, Operand.const (Value.int IntKind.i64 0)], argTypes := #[26, 45, 3] }, some (60, true)⟩,
    ⟨some 64, Op.pick (Operand.tmp 60) (Operand.tmp 63) (Operand.const (Value.bool false)), none⟩,
    ⟨some 65, Op.move (Operand.tmp 64), none⟩,
    ⟨some 66, Op.call { callee := Callee.value (Operand.func 8), args := #[], argTypes := #[] }, some (65, true)⟩,
    ⟨some 67, Op.pick (Operand.tmp 65) (Operand.tmp 66) (Operand.const (Value.bool false)), none⟩,
    ⟨some 2, Op.assign (Operand.tmp 67), none⟩])
  .ret)))))))))
theorem ir4_eq : (Try.f4.body.map low, Try.f4.ntmps, Try.f4.results.toList) = (some ir4, 68, [.tmp 2]) := by kernel_rfl
def ir6_l0 : LC := (.seq (.seq (.ops [⟨some 52, Op.move (Operand.tmp 10), none⟩,
    ⟨some 53, Op.move (Operand.tmp 1), none⟩,
    ⟨some 54, Op.call { callee := Callee.builtin Builtin.len, args := #[Operand.tmp 53], argTypes := #[22] }, none⟩,
    ⟨some 55, Op.binOp BinOp.lss 3 (Operand.tmp 52) (Operand.tmp 54) 3, none⟩,
    ⟨some 56, Op.move (Operand.tmp 55), none⟩,
    ⟨some 57, Op.move (Operand.tmp 10), some (56, true)⟩,
    ⟨some 58, Op.binOp BinOp.lss 3 (Operand.tmp 57) (Operand.const (Value.int IntKind.i64 60)) 3, some (56, true)⟩,
    ⟨some 59, Op.pick (Operand.tmp 56) (Operand.tmp 58) (Operand.const (Value.bool false)), none⟩])
  (.cond (Operand.tmp 59)
  .skip
  (.exit 0)))
  (.seq (.block 1 (.seq (.ops [⟨some 11, Op.assign (Operand.const (Value.bool true)), none⟩])
  (.seq (.ops [⟨some 63, Op.move (Operand.tmp 7), none⟩,
    ⟨some 64, Op.move (Operand.tmp 9), none⟩,
    ⟨some 65, Op.move (Operand.tmp 1), none⟩,
    ⟨some 66, Op.move (Operand.tmp 10), none⟩,
    ⟨some 67, Op.indexAddr 22 (Operand.tmp 65) (Operand.tmp 66), none⟩,
    ⟨some 68, Op.load 36 (Operand.tmp 67), none⟩,
    ⟨some 69, Op.call { callee := Callee.value (Operand.func 25), args := #[Operand.tmp 63, Operand.tmp 64, Operand.tmp 68], argTypes := #[26, 45, 36] }, none⟩,
    ⟨some 62, Op.move (Operand.tmp 69), none⟩,
    ⟨some 70, Op.extract (Operand.tmp 62) 0, none⟩,
    ⟨some 71, Op.extract (Operand.tmp 62) 1, none⟩,
    ⟨some 72, Op.extract (Operand.tmp 62) 2, none⟩,
    ⟨some 7, Op.assign (Operand.tmp 70), none⟩,
    ⟨some 9, Op.assign (Operand.tmp 71), none⟩,
    ⟨some 11, Op.assign (Operand.tmp 72), none⟩])
  (.seq (.ops [⟨some 73, Op.move (Operand.tmp 11), none⟩,
    ⟨some 74, Op.unOp UnOp.not 4 (Operand.tmp 73), none⟩,
    ⟨some 75, Op.move (Operand.tmp 74), none⟩,
    ⟨some 76, Op.move (Operand.tmp 7), some (75, false)⟩,
    ⟨some 77, Op.move (Operand.tmp 9), some (75, false)⟩,
    ⟨some 78, Op.move (Operand.tmp 2), some (75, false)⟩,
    ⟨some 79, Op.call { callee := Callee.value (Operand.func 21), args := #[Operand.tmp 76, Operand.tmp 77, Operand.tmp 78], argTypes := #[26, 45, 3] }, some (75, false)⟩,
    ⟨some 80, Op.unOp UnOp.not 4 (Operand.tmp 79), some (75, false)⟩,
    ⟨some 81, Op.pick (Operand.tmp 75) (Operand.const (Value.bool true)) (Operand.tmp 80), none⟩])
  (.cond (Operand.tmp 81)
  (.seq (.ops [⟨some 6, Op.assign (Operand.const (Value.bool false)), none⟩])
  .ret)
  .skip)))))
  (.ops [⟨some 60, Op.move (Operand.tmp 10), none⟩,
    ⟨some 61, Op.binOp BinOp.add 3 (Operand.tmp 60) (Operand.const (Value.int IntKind.i64 1)) 3, none⟩,
    ⟨some 10, Op.assign (Operand.tmp 61), none⟩])))
def ir6 : LC := (.seq (.ops [⟨some 6, Op.assign (Operand.const (Value.bool false)), none⟩])
  (.seq (.ops [⟨some 13, Op.move (Operand.tmp 0), none⟩,
    ⟨some 14, Op.call { callee := Callee.value (Operand.func 10), args := #[Operand.tmp 13], argTypes := #[3] }, none⟩,
    ⟨some 12, Op.move (Operand.tmp 14), none⟩,
    ⟨some 15, Op.extract (Operand.tmp 12) 0, none⟩,
    ⟨some 16, Op.extract (Operand.tmp 12) 1, none⟩,
    ⟨some 7, Op.assign (Operand.tmp 15), none⟩,
    ⟨some 8, Op.assign (Operand.tmp 16), none⟩])
  (.seq (.ops [⟨some 17, Op.move (Operand.tmp 0), none⟩,
    ⟨some 18, Op.call { callee := Callee.value (Operand.func 24), args := #[Operand.tmp 17], argTypes := #[3] }, none⟩,
    ⟨some 9, Op.assign (Operand.tmp 18), none⟩])
  (.seq (.seq (.ops [⟨some 19, Op.move (Operand.tmp 9), none⟩,
    ⟨some 20, Op.binOp BinOp.eql 45 (Operand.tmp 19) (Operand.const (Value.pointer none)) 45, none⟩])
  (.cond (Operand.tmp 20)
  (.seq (.ops [⟨some 21, Op.move (Operand.tmp 7), none⟩,
    ⟨some 22, Op.binOp BinOp.eql 26 (Operand.tmp 21) (Operand.const (Value.pointer none)) 26, none⟩,
    ⟨some 23, Op.move (Operand.tmp 22), none⟩,
    ⟨some 24, Op.move (Operand.tmp 8), some (23, true)⟩,
    ⟨some 25, Op.call { callee := Callee.value (Operand.func 11), args := #[Operand.tmp 24], argTypes := #[27] }, some (23, true)⟩,
    ⟨some 26, Op.binOp BinOp.eql 3 (Operand.tmp 25) (Operand.const (Value.int IntKind.i64 2)) 3, some (23, true)⟩,
    ⟨some 27, Op.pick (Operand.tmp 23) (Operand.tmp 26) (Operand.const (Value.bool false)), none⟩,
    ⟨some 28, Op.move (Operand.tmp 27), none⟩,
    ⟨some 29, Op.call { callee := Callee.value (Operand.func 8), args := #[], argTypes := #[] }, some (28, true)⟩,
    ⟨some 30, Op.pick (Operand.tmp 28) (Operand.tmp 29) (Operand.const (Value.bool false)), none⟩,
    ⟨some 6, Op.assign (Operand.tmp 30), none⟩])
  .ret)
  .skip))
  (.seq (.seq (.ops [⟨some 31, Op.move (Operand.tmp 0), none⟩,
    ⟨some 32, Op.binOp BinOp.gtr 3 (Operand.tmp 31) (Operand.const (Value.int IntKind.i64 64)) 3, none⟩,
    ⟨some 33, Op.move (Operand.tmp 32), none⟩,
    ⟨some 34, Op.move (Operand.tmp 1), some (33, false)⟩,
    ⟨some 35, Op.call { callee := Callee.value (Operand.func 9), args := #[Operand.tmp 34], argTypes := #[22] }, some (33, false)⟩,
    ⟨some 36, Op.pick (Operand.tmp 33) (Operand.const (Value.bool true)) (Operand.tmp 35), none⟩])
  (.cond (Operand.tmp 36)
  (.seq (.ops [⟨some 37, Op.call { callee := Callee.value (Operand.func 8), args := #[], argTypes := #[] }, none⟩,
    ⟨some 6, Op.assign (Operand.tmp 37), none⟩])
  .ret)
  .skip))
  (.seq (.seq (.ops [⟨some 38, Op.move (Operand.tmp 7), none⟩,
    ⟨some 39, Op.binOp BinOp.eql 26 (Operand.tmp 38) (Operand.const (Value.pointer none)) 26, none⟩,
    ⟨some 40, Op.move (Operand.tmp 39), none⟩,
    ⟨some 41, Op.move (Operand.tmp 8), some (40, false)⟩,
    ⟨some 42, Op.call { callee := Callee.value (Operand.func 11), args := #[Operand.tmp 41], argTypes := #[27] }, some (40, false)⟩,
    ⟨some 43, Op.binOp BinOp.neq 3 (Operand.tmp 42) (Operand.const (Value.int IntKind.i64 0)) 3, some (40, false)⟩,
    ⟨some 44, Op.pick (Operand.tmp 40) (Operand.const (Value.bool true)) (Operand.tmp 43), none⟩,
    ⟨some 45, Op.move (Operand.tmp 44), none⟩,
    ⟨some 46, Op.move (Operand.tmp 7), some (45, false)⟩,
    ⟨some 47, Op.move (Operand.tmp 9), some (45, false)⟩,
    ⟨some 48, Op.move (Operand.tmp 2), some (45, false)⟩,
    ⟨some 49, Op.call { callee := Callee.value (Operand.func 21), args := #[Operand.tmp 46, Operand.tmp 47, Operand.tmp 48], argTypes := #[26, 45, 3] }, some (45, false)⟩,
    ⟨some 50, Op.unOp UnOp.not 4 (Operand.tmp 49), some (45, false)⟩,
    ⟨some 51, Op.pick (Operand.tmp 45) (Operand.const (Value.bool true)) (Operand.tmp 50), none⟩])
  (.cond (Operand.tmp 51)
  (.seq (.ops [⟨some 6, Op.assign (Operand.const (Value.bool false)), none⟩])
  .ret)
  .skip))
  (.seq (.seq (.ops [⟨some 10, Op.assign (Operand.const (Value.int IntKind.i64 0)), none⟩])
  (.block 0 (.loop ir6_l0)))
  (.seq (.ops [⟨some 82, Op.call { callee := Callee.value (Operand.func 8), args := #[], argTypes := #[] }, none⟩,
    ⟨some 6, Op.assign (Operand.tmp 82), none⟩])
  .ret))))))))
theorem ir6_eq : (Try.f6.body.map low, Try.f6.ntmps, Try.f6.results.toList) = (some ir6, 83, [.tmp 6]) := by kernel_rfl
def ir7_l0 : LC := (.seq (.seq (.ops [⟨some 51, Op.move (Operand.tmp 14), none⟩,
    ⟨some 52, Op.move (Operand.tmp 1), none⟩,
    ⟨some 53, Op.call { callee := Callee.builtin Builtin.len, args := #[Operand.tmp 52], argTypes := #[22] }, none⟩,
    ⟨some 54, Op.binOp BinOp.lss 3 (Operand.tmp 51) (Operand.tmp 53) 3, none⟩,
    ⟨some 55, Op.move (Operand.tmp 54), none⟩,
    ⟨some 56, Op.move (Operand.tmp 14), some (55, true)⟩,
    ⟨some 57, Op.binOp BinOp.lss 3 (Operand.tmp 56) (Operand.const (Value.int IntKind.i64 12)) 3, some (55, true)⟩,
    ⟨some 58, Op.pick (Operand.tmp 55) (Operand.tmp 57) (Operand.const (Value.bool false)), none⟩,
    ⟨some 59, Op.move (Operand.tmp 58), none⟩,
    ⟨some 60, Op.move (Operand.tmp 11), some (59, true)⟩,
    ⟨some 61, Op.binOp BinOp.neq 45 (Operand.tmp 60) (Operand.const (Value.pointer none)) 45, some (59, true)⟩,
    ⟨some 62, Op.pick (Operand.tmp 59) (Operand.tmp 61) (Operand.const (Value.bool false)), none⟩,
    ⟨some 63, Op.move (Operand.tmp 62), none⟩,
    ⟨some 64, Op.move (Operand.tmp 13), some (63, true)⟩,
    ⟨some 65, Op.pick (Operand.tmp 63) (Operand.tmp 64) (Operand.const (Value.bool false)), none⟩])
  (.cond (Operand.tmp 65)
  .skip
  (.exit 0)))
  (.seq (.block 1 (.ops [⟨some 69, Op.move (Operand.tmp 7), none⟩,
    ⟨some 70, Op.move (Operand.tmp 11), none⟩,
    ⟨some 71, Op.move (Operand.tmp 1), none⟩,
    ⟨some 72, Op.move (Operand.tmp 14), none⟩,
    ⟨some 73, Op.indexAddr 22 (Operand.tmp 71) (Operand.tmp 72), none⟩,
    ⟨some 74, Op.load 36 (Operand.tmp 73), none⟩,
    ⟨some 75, Op.call { callee := Callee.value (Operand.func 25), args := #[Operand.tmp 69, Operand.tmp 70, Operand.tmp 74], argTypes := #[26, 45, 36] }, none⟩,
    ⟨some 68, Op.move (Operand.tmp 75), none⟩,
    ⟨some 76, Op.extract (Operand.tmp 68) 0, none⟩,
    ⟨some 77, Op.extract (Operand.tmp 68) 1, none⟩,
    ⟨some 78, Op.extract (Operand.tmp 68) 2, none⟩,
    ⟨some 7, Op.assign (Operand.tmp 76), none⟩,
    ⟨some 11, Op.assign (Operand.tmp 77), none⟩,
    ⟨some 13, Op.assign (Operand.tmp 78), none⟩]))
  (.ops [⟨some 66, Op.move (Operand.tmp 14), none⟩,
    ⟨some 67, Op.binOp BinOp.add 3 (Operand.tmp 66) (Operand.const (Value.int IntKind.i64 1)) 3, none⟩,
    ⟨some 14, Op.assign (Operand.tmp 67), none⟩])))
def ir7_l1 : LC := (.seq (.seq (.ops [⟨some 79, Op.move (Operand.tmp 15), none⟩,
    ⟨some 80, Op.move (Operand.tmp 2), none⟩,
    ⟨some 81, Op.call { callee := Callee.builtin Builtin.len, args := #[Operand.tmp 80], argTypes := #[22] }, none⟩,
    ⟨some 82, Op.binOp BinOp.lss 3 (Operand.tmp 79) (Operand.tmp 81) 3, none⟩,
    ⟨some 83, Op.move (Operand.tmp 82), none⟩,
    ⟨some 84, Op.move (Operand.tmp 15), some (83, true)⟩,
    ⟨some 85, Op.binOp BinOp.lss 3 (Operand.tmp 84) (Operand.const (Value.int IntKind.i64 12)) 3, some (83, true)⟩,
    ⟨some 86, Op.pick (Operand.tmp 83) (Operand.tmp 85) (Operand.const (Value.bool false)), none⟩,
    ⟨some 87, Op.move (Operand.tmp 86), none⟩,
    ⟨some 88, Op.move (Operand.tmp 12), some (87, true)⟩,
    ⟨some 89, Op.binOp BinOp.neq 45 (Operand.tmp 88) (Operand.const (Value.pointer none)) 45, some (87, true)⟩,
    ⟨some 90, Op.pick (Operand.tmp 87) (Operand.tmp 89) (Operand.const (Value.bool false)), none⟩,
    ⟨some 91, Op.move (Operand.tmp 90), none⟩,
    ⟨some 92, Op.move (Operand.tmp 13), some (91, true)⟩,
    ⟨some 93, Op.pick (Operand.tmp 91) (Operand.tmp 92) (Operand.const (Value.bool false)), none⟩])
  (.cond (Operand.tmp 93)
  .skip
  (.exit 2)))
  (.seq (.block 3 (.ops [⟨some 97, Op.move (Operand.tmp 9), none⟩,
    ⟨some 98, Op.move (Operand.tmp 12), none⟩,
    ⟨some 99, Op.move (Operand.tmp 2), none⟩,
    ⟨some 100, Op.move (Operand.tmp 15), none⟩,
    ⟨some 101, Op.indexAddr 22 (Operand.tmp 99) (Operand.tmp 100), none⟩,
    ⟨some 102, Op.load 36 (Operand.tmp 101), none⟩,
    ⟨some 103, Op.call { callee := Callee.value (Operand.func 25), args := #[Operand.tmp 97, Operand.tmp 98, Operand.tmp 102], argTypes := #[26, 45, 36] }, none⟩,
    ⟨some 96, Op.move (Operand.tmp 103), none⟩,
    ⟨some 104, Op.extract (Operand.tmp 96) 0, none⟩,
    ⟨some 105, Op.extract (Operand.tmp 96) 1, none⟩,
    ⟨some 106, Op.extract (Operand.tmp 96) 2, none⟩,
    ⟨some 9, Op.assign (Operand.tmp 104), none⟩,
    ⟨some 12, Op.assign (Operand.tmp 105), none⟩,
    ⟨some 13, Op.assign (Operand.tmp 106), none⟩]))
  (.ops [⟨some 94, Op.move (Operand.tmp 15), none⟩,
    ⟨some 95, Op.binOp BinOp.add 3 (Operand.tmp 94) (Operand.const (Value.int IntKind.i64 1)) 3, none⟩,
    ⟨some 15, Op.assign (Operand.tmp 95), none⟩])))
def ir7 : LC := (.seq (.ops [⟨some 3, Op.box 59 (Operand.tmp 0), none⟩,
    ⟨some 6, Op.assign (Operand.const (Value.bool false)), none⟩])
  (.seq (.seq (.ops [⟨some 16, Op.move (Operand.tmp 1), none⟩,
    ⟨some 17, Op.call { callee := Callee.value (Operand.func 9), args := #[Operand.tmp 16], argTypes := #[22] }, none⟩,
    ⟨some 18, Op.move (Operand.tmp 17), none⟩,
    ⟨some 19, Op.move (Operand.tmp 2), some (18, false)⟩,
    ⟨some 20, Op.call { callee := Callee.value (Operand.func 9), args := #[Operand.tmp 19], argTypes := #[22] }, some (18, false)⟩,
    ⟨some 21, Op.pick (Operand.tmp 18) (Operand.const (Value.bool true)) (Operand.tmp 20), none⟩,
    ⟨some 22, Op.move (Operand.tmp 21), none⟩,
    ⟨some 23, Op.indexAddr 59 (Operand.tmp 3) (Operand.const (Value.int IntKind.i64 0)), some (22, false)⟩,
    ⟨some 24, Op.load 3 (Operand.tmp 23), some (22, false)⟩,
    ⟨some 25, Op.binOp BinOp.gtr 3 (Operand.tmp 24) (Operand.const (Value.int IntKind.i64 16)) 3, some (22, false)⟩,
    ⟨some 26, Op.pick (Operand.tmp 22) (Operand.const (Value.bool true)) (Operand.tmp 25), none⟩,
    ⟨some 27, Op.move (Operand.tmp 26), none⟩,
    ⟨some 28, Op.indexAddr 59 (Operand.tmp 3) (Operand.const (Value.int IntKind.i64 1)), some (27, false)⟩,
    ⟨some 29, Op.load 3 (Operand.tmp 28), some (27, false)⟩,
    ⟨some 30, Op.binOp BinOp.gtr 3 (Operand.tmp 29) (Operand.const (Value.int IntKind.i64 16)) 3, some (27, false)⟩,
    ⟨some 31, Op.pick (Operand.tmp 27) (Operand.const (Value.bool true)) (Operand.tmp 30), none⟩])
  (.cond (Operand.tmp 31)
  (.seq (.ops [⟨some 32, Op.call { callee := Callee.value (Operand.func 8), args := #[], argTypes := #[] }, none⟩,
    ⟨some 6, Op.assign (Operand.tmp 32), none⟩])
  .ret)
  .skip))
  (.seq (.ops [⟨some 34, Op.indexAddr 59 (Operand.tmp 3) (Operand.const (Value.int IntKind.i64 0)), none⟩,
    ⟨some 35, Op.load 3 (Operand.tmp 34), none⟩,
    ⟨some 36, Op.call { callee := Callee.value (Operand.func 10), args := #[Operand.tmp 35], argTypes := #[3] }, none⟩,
    ⟨some 33, Op.move (Operand.tmp 36), none⟩,
    ⟨some 37, Op.extract (Operand.tmp 33) 0, none⟩,
    ⟨some 38, Op.extract (Operand.tmp 33) 1, none⟩,
    ⟨some 7, Op.assign (Operand.tmp 37), none⟩,
    ⟨some 8, Op.assign (Operand.tmp 38), none⟩])
  (.seq (.ops [⟨some 40, Op.indexAddr 59 (Operand.tmp 3) (Operand.const (Value.int IntKind.i64 1)), none⟩,
    ⟨some 41, Op.load 3 (Operand.tmp 40), none⟩,
    ⟨some 42, Op.call { callee := Callee.value (Operand.func 10), args := #[Operand.tmp 41], argTypes := #[3] }, none⟩,
    ⟨some 39, Op.move (Operand.tmp 42), none⟩,
    ⟨some 43, Op.extract (Operand.tmp 39) 0, none⟩,
    ⟨some 44, Op.extract (Operand.tmp 39) 1, none⟩,
    ⟨some 9, Op.assign (Operand.tmp 43), none⟩,
    ⟨some 10, Op.assign (Operand.tmp 44), none⟩])
  (.seq (.draw [⟨some 45, Op.indexAddr 59 (Operand.tmp 3) (Operand.const (Value.int IntKind.i64 0)), none⟩,
    ⟨some 46, Op.load 3 (Operand.tmp 45), none⟩,
    ⟨some 47, Op.call { callee := Callee.value (Operand.func 24), args := #[Operand.tmp 46], argTypes := #[3] }, none⟩,
    ⟨some 48, Op.indexAddr 59 (Operand.tmp 3) (Operand.const (Value.int IntKind.i64 1)), none⟩,
    ⟨some 49, Op.load 3 (Operand.tmp 48), none⟩,
    ⟨some 50, Op.call { callee := Callee.value (Operand.func 24), args := #[Operand.tmp 49], argTypes := #[3] }, none⟩,
    ⟨some 11, Op.assign (Operand.tmp 47), none⟩,
    ⟨some 12, Op.assign (Operand.tmp 50), none⟩] [(2, 3), (2, 4)])
  (.seq (.ops [⟨some 13, Op.assign (Operand.const (Value.bool true)), none⟩])
  (.seq (.seq (.ops [⟨some 14, Op.assign (Operand.const (Value.int IntKind.i64 0)), none⟩])
  (.block 0 (.loop ir7_l0)))
  (.seq (.seq (.ops [⟨some 15, Op.assign (Operand.const (Value.int IntKind.i64 0)), none⟩])
  (.block 2 (.loop ir7_l1)))
  (.seq (.ops [⟨some 107, Op.move (Operand.tmp 13), none⟩,
    ⟨some 108, Op.move (Operand.tmp 107), none⟩,
    ⟨some 109, Op.move (Operand.tmp 7), some (108, true)⟩,
    ⟨some 110, Op.move (Operand.tmp 9), some (108, true)⟩,
    ⟨some 111, Op.call { callee := Callee.value (Operand.func 16), args := #[Operand.tmp 109, Operand.tmp 110], argTypes := #[26, 26] }, some (108, true)⟩,
    ⟨some 112, Op.move (Operand.tmp 11), some (108, true)⟩,
    ⟨some 113, Op.move (Operand.tmp 12), some (108, true)⟩,
    ⟨some 114, Op.call { callee := Callee.value (Operand.func 26), args := #[Operand.tmp 112, Operand.tmp 113], argTypes := #[45, 45] }, some (108, true)⟩,
    ⟨some 115, Op.binOp BinOp.eql 4 (Operand.tmp 111) (Operand.tmp 114) 4, some (108, true)⟩,
    ⟨some 116, Op.pick (Operand.tmp 108) (Operand.tmp 115) (Operand.const (Value.bool false)), none⟩,
    ⟨some 117, Op.move (Operand.tmp 116), none⟩,
    ⟨some 118, Op.move (Operand.tmp 7), some (117, true)⟩,
    ⟨some 119, Op.move (Operand.tmp 7), some (117, true)⟩,
    ⟨some 120, Op.call { callee := Callee.value (Operand.func 16), args := #[Operand.tmp 118, Operand.tmp 119], argTypes := #[26, 26] }, some (117, true)⟩,
    ⟨some 121, Op.pick (Operand.tmp 117) (Operand.tmp 120) (Operand.const (Value.bool false)), none⟩,
    ⟨some 122, Op.move (Operand.tmp 121), none⟩,
    ⟨some 123, Op.call { callee := Callee.value (Operand.func 8), args := #[], argTypes := #[] }, some (122, true)⟩,
    ⟨some 124, Op.pick (Operand.tmp 122) (Operand.tmp 123) (Operand.const (Value.bool false)), none⟩,
    ⟨some 6, Op.assign (Operand.tmp 124), none⟩])
  .ret)))))))))
theorem ir7_eq : (Try.f7.body.map low, Try.f7.ntmps, Try.f7.results.toList) = (some ir7, 125, [.tmp 6]) := by kernel_rfl
def ir19_l0 : LC := (.seq (.ops [⟨some 27, Op.binOp BinOp.lss 3 (Operand.tmp 26) (Operand.tmp 25) 3, none⟩])
  (.seq (.cond (Operand.tmp 27)
  .skip
  (.exit 0))
  (.seq (.block 1 (.seq (.ops [⟨some 28, Op.move (Operand.tmp 26), none⟩,
    ⟨some 6, Op.assign (Operand.tmp 28), none⟩])
  (.draw [⟨some 29, Op.move (Operand.tmp 4), none⟩,
    ⟨some 30, Op.nilCheck (Operand.tmp 29), none⟩,
    ⟨some 31, Op.fieldAddr 54 (Operand.tmp 30) 0, none⟩,
    ⟨some 32, Op.load 51 (Operand.tmp 31), none⟩,
    ⟨some 33, Op.move (Operand.tmp 6), none⟩,
    ⟨some 34, Op.indexAddr 51 (Operand.tmp 32) (Operand.tmp 33), none⟩,
    ⟨some 35, Op.slice 67 (Operand.tmp 34) none none none, none⟩,
    ⟨some 36, Op.move (Operand.tmp 0), none⟩,
    ⟨some 37, Op.move (Operand.tmp 6), none⟩,
    ⟨some 38, Op.binOp BinOp.mul 3 (Operand.tmp 37) (Operand.const (Value.int IntKind.i64 128)) 3, none⟩,
    ⟨some 39, Op.slice 33 (Operand.tmp 36) (some (Operand.tmp 38)) none none, none⟩,
    ⟨some 40, Op.call { callee := Callee.builtin Builtin.copy, args := #[Operand.tmp 35, Operand.tmp 39], argTypes := #[33, 33] }, none⟩] [])))
  (.ops [⟨some 41, Op.binOp BinOp.add 3 (Operand.tmp 26) (Operand.const (Value.int IntKind.i64 1)) 3, none⟩,
    ⟨some 26, Op.move (Operand.tmp 41), none⟩]))))
def ir19 : LC := (.seq (.ops [⟨some 2, Op.assign (Operand.const (Value.pointer none)), none⟩,
    ⟨some 3, Op.assign (Operand.const (Value.int IntKind.i64 0)), none⟩])
  (.seq (.seq (.ops [⟨some 7, Op.move (Operand.tmp 0), none⟩,
    ⟨some 8, Op.call { callee := Callee.builtin Builtin.len, args := #[Operand.tmp 7], argTypes := #[33] }, none⟩,
    ⟨some 9, Op.binOp BinOp.rem 3 (Operand.tmp 8) (Operand.const (Value.int IntKind.i64 128)) 3, none⟩,
    ⟨some 10, Op.binOp BinOp.neq 3 (Operand.tmp 9) (Operand.const (Value.int IntKind.i64 0)) 3, none⟩])
  (.cond (Operand.tmp 10)
  (.seq (.ops [⟨some 2, Op.assign (Operand.const (Value.pointer none)), none⟩,
    ⟨some 3, Op.assign (Operand.const (Value.int IntKind.i64 2)), none⟩])
  .ret)
  .skip))
  (.seq (.ops [⟨some 12, Op.move (Operand.tmp 0), none⟩,
    ⟨some 13, Op.call { callee := Callee.builtin Builtin.len, args := #[Operand.tmp 12], argTypes := #[33] }, none⟩,
    ⟨some 14, Op.binOp BinOp.quo 3 (Operand.tmp 13) (Operand.const (Value.int IntKind.i64 128)) 3, none⟩,
    ⟨some 15, Op.call { callee := Callee.value (Operand.func 10), args := #[Operand.tmp 14], argTypes := #[3] }, none⟩,
    ⟨some 11, Op.move (Operand.tmp 15), none⟩,
    ⟨some 16, Op.extract (Operand.tmp 11) 0, none⟩,
    ⟨some 17, Op.extract (Operand.tmp 11) 1, none⟩,
    ⟨some 4, Op.assign (Operand.tmp 16), none⟩,
    ⟨some 5, Op.assign (Operand.tmp 17), none⟩])
  (.seq (.seq (.ops [⟨some 18, Op.move (Operand.tmp 5), none⟩,
    ⟨some 19, Op.binOp BinOp.neq 27 (Operand.tmp 18) (Operand.const (Value.int IntKind.i64 0)) 27, none⟩])
  (.cond (Operand.tmp 19)
  (.seq (.ops [⟨some 20, Op.move (Operand.tmp 5), none⟩,
    ⟨some 2, Op.assign (Operand.const (Value.pointer none)), none⟩,
    ⟨some 3, Op.assign (Operand.tmp 20), none⟩])
  .ret)
  .skip))
  (.seq (.seq (.ops [⟨some 21, Op.move (Operand.tmp 4), none⟩,
    ⟨some 22, Op.nilCheck (Operand.tmp 21), none⟩,
    ⟨some 23, Op.fieldAddr 54 (Operand.tmp 22) 0, none⟩,
    ⟨some 24, Op.load 51 (Operand.tmp 23), none⟩,
    ⟨some 25, Op.call { callee := Callee.builtin Builtin.len, args := #[Operand.tmp 24], argTypes := #[51] }, none⟩,
    ⟨some 26, Op.move (Operand.const (Value.int IntKind.i64 0)), none⟩])
  (.block 0 (.loop ir19_l0)))
  (.seq (.ops [⟨some 42, Op.move (Operand.tmp 4), none⟩,
    ⟨some 2, Op.assign (Operand.tmp 42), none⟩,
    ⟨some 3, Op.assign (Operand.const (Value.int IntKind.i64 0)), none⟩])
  .ret))))))
theorem ir19_eq : (Try.f19.body.map low, Try.f19.ntmps, Try.f19.results.toList) = (some ir19, 43, [.tmp 2, .tmp 3]) := by kernel_rfl
def ir20_l0 : LC := (.seq (.seq (.ops [⟨some 15, Op.move (Operand.tmp 4), none⟩,
    ⟨some 16, Op.move (Operand.tmp 3), none⟩,
    ⟨some 17, Op.nilCheck (Operand.tmp 16), none⟩,
    ⟨some 18, Op.fieldAddr 78 (Operand.tmp 17) 0, none⟩,
    ⟨some 19, Op.load 75 (Operand.tmp 18), none⟩,
    ⟨some 20, Op.call { callee := Callee.builtin Builtin.len, args := #[Operand.tmp 19], argTypes := #[75] }, none⟩,
    ⟨some 21, Op.binOp BinOp.lss 3 (Operand.tmp 15) (Operand.tmp 20) 3, none⟩])
  (.cond (Operand.tmp 21)
  .skip
  (.exit 0)))
  (.seq (.block 1 (.draw [⟨some 24, Op.move (Operand.tmp 3), none⟩,
    ⟨some 25, Op.nilCheck (Operand.tmp 24), none⟩,
    ⟨some 26, Op.fieldAddr 78 (Operand.tmp 25) 0, none⟩,
    ⟨some 27, Op.load 75 (Operand.tmp 26), none⟩,
    ⟨some 28, Op.move (Operand.tmp 4), none⟩,
    ⟨some 29, Op.indexAddr 75 (Operand.tmp 27) (Operand.tmp 28), none⟩,
    ⟨some 30, Op.load 33 (Operand.tmp 29), none⟩,
    ⟨some 31, Op.move (Operand.tmp 0), none⟩,
    ⟨some 32, Op.move (Operand.tmp 4), none⟩,
    ⟨some 33, Op.binOp BinOp.mul 3 (Operand.tmp 32) (Operand.const (Value.int IntKind.i64 128)) 3, none⟩,
    ⟨some 34, Op.slice 33 (Operand.tmp 31) (some (Operand.tmp 33)) none none, none⟩,
    ⟨some 35, Op.call { callee := Callee.builtin Builtin.copy, args := #[Operand.tmp 30, Operand.tmp 34], argTypes := #[33, 33] }, none⟩] []))
  (.ops [⟨some 22, Op.move (Operand.tmp 4), none⟩,
    ⟨some 23, Op.binOp BinOp.add 3 (Operand.tmp 22) (Operand.const (Value.int IntKind.i64 1)) 3, none⟩,
    ⟨some 4, Op.assign (Operand.tmp 23), none⟩])))
def ir20 : LC := (.seq (.ops [⟨some 2, Op.assign (Operand.const (Value.pointer none)), none⟩])
  (.seq (.seq (.ops [⟨some 5, Op.move (Operand.tmp 0), none⟩,
    ⟨some 6, Op.call { callee := Callee.builtin Builtin.len, args := #[Operand.tmp 5], argTypes := #[33] }, none⟩,
    ⟨some 7, Op.binOp BinOp.rem 3 (Operand.tmp 6) (Operand.const (Value.int IntKind.i64 128)) 3, none⟩,
    ⟨some 8, Op.binOp BinOp.neq 3 (Operand.tmp 7) (Operand.const (Value.int IntKind.i64 0)) 3, none⟩])
  (.cond (Operand.tmp 8)
  (.seq (.ops [⟨some 2, Op.assign (Operand.const (Value.pointer none)), none⟩])
  .ret)
  .skip))
  (.seq (.ops [⟨some 9, Op.move (Operand.tmp 0), none⟩,
    ⟨some 10, Op.call { callee := Callee.builtin Builtin.len, args := #[Operand.tmp 9], argTypes := #[33] }, none⟩,
    ⟨some 11, Op.binOp BinOp.quo 3 (Operand.tmp 10) (Operand.const (Value.int IntKind.i64 128)) 3, none⟩,
    ⟨some 12, Op.call { callee := Callee.value (Operand.func 24), args := #[Operand.tmp 11], argTypes := #[3] }, none⟩,
    ⟨some 3, Op.assign (Operand.tmp 12), none⟩])
  (.seq (.seq (.ops [⟨some 13, Op.move (Operand.tmp 3), none⟩,
    ⟨some 14, Op.binOp BinOp.eql 45 (Operand.tmp 13) (Operand.const (Value.pointer none)) 45, none⟩])
  (.cond (Operand.tmp 14)
  (.seq (.ops [⟨some 2, Op.assign (Operand.const (Value.pointer none)), none⟩])
  .ret)
  .skip))
  (.seq (.seq (.ops [⟨some 4, Op.assign (Operand.const (Value.int IntKind.i64 0)), none⟩])
  (.block 0 (.loop ir20_l0)))
  (.seq (.ops [⟨some 36, Op.move (Operand.tmp 3), none⟩,
    ⟨some 2, Op.assign (Operand.tmp 36), none⟩])
  .ret))))))
theorem ir20_eq : (Try.f20.body.map low, Try.f20.ntmps, Try.f20.results.toList) = (some ir20, 37, [.tmp 2]) := by kernel_rfl
noncomputable def rc21 (i : Nat) : Code × Code := (((Try.f21.body.map rangesOf).getD [])[i]?).getD (.skip, .skip)
noncomputable def ir21_l0 : LC := (.seq (.seq (.ops [⟨some 46, Op.move (Operand.tmp 8), none⟩,
    ⟨some 47, Op.load 45 (Operand.tmp 4), none⟩,
    ⟨some 48, Op.nilCheck (Operand.tmp 47), none⟩,
    ⟨some 49, Op.fieldAddr 78 (Operand.tmp 48) 0, none⟩,
    ⟨some 50, Op.load 75 (Operand.tmp 49), none⟩,
    ⟨some 51, Op.call { callee := Callee.builtin Builtin.len, args := #[Operand.tmp 50], argTypes := #[75] }, none⟩,
    ⟨some 52, Op.binOp BinOp.leq 3 (Operand.tmp 46) (Operand.tmp 51) 3, none⟩])
  (.cond (Operand.tmp 52)
  .skip
  (.exit 0)))
  (.seq (.block 1 (.seq (.ops [⟨some 56, Op.move (Operand.tmp 0), none⟩,
    ⟨some 57, Op.move (Operand.tmp 8), none⟩,
    ⟨some 58, Op.call { callee := Callee.value (Operand.func 35), args := #[Operand.tmp 56, Operand.tmp 57], argTypes := #[26, 3] }, none⟩,
    ⟨some 55, Op.move (Operand.tmp 58), none⟩,
    ⟨some 59, Op.extract (Operand.tmp 55) 0, none⟩,
    ⟨some 60, Op.extract (Operand.tmp 55) 1, none⟩,
    ⟨some 9, Op.assign (Operand.tmp 59), none⟩,
    ⟨some 10, Op.assign (Operand.tmp 60), none⟩])
  (.seq (.ops [⟨some 62, Op.move (Operand.tmp 0), none⟩,
    ⟨some 63, Op.move (Operand.tmp 8), none⟩,
    ⟨some 64, Op.call { callee := Callee.value (Operand.func 38), args := #[Operand.tmp 62, Operand.tmp 63], argTypes := #[26, 3] }, none⟩,
    ⟨some 61, Op.move (Operand.tmp 64), none⟩,
    ⟨some 65, Op.extract (Operand.tmp 61) 0, none⟩,
    ⟨some 66, Op.extract (Operand.tmp 61) 1, none⟩,
    ⟨some 11, Op.assign (Operand.tmp 65), none⟩,
    ⟨some 12, Op.assign (Operand.tmp 66), none⟩])
  (.seq (.ops [⟨some 68, Op.load 45 (Operand.tmp 4), none⟩,
    ⟨some 69, Op.move (Operand.tmp 8), none⟩,
    ⟨some 70, Op.call { callee := Callee.value (Operand.func 39), args := #[Operand.tmp 68, Operand.tmp 69], argTypes := #[45, 3] }, none⟩,
    ⟨some 67, Op.move (Operand.tmp 70), none⟩,
    ⟨some 71, Op.extract (Operand.tmp 67) 0, none⟩,
    ⟨some 72, Op.extract (Operand.tmp 67) 1, none⟩,
    ⟨some 13, Op.assign (Operand.tmp 71), none⟩,
    ⟨some 14, Op.assign (Operand.tmp 72), none⟩])
  (.seq (.seq (.ops [⟨some 73, Op.move (Operand.tmp 9), none⟩,
    ⟨some 74, Op.convert 33 9 (Operand.tmp 73), none⟩,
    ⟨some 75, Op.move (Operand.tmp 13), none⟩,
    ⟨some 76, Op.convert 33 9 (Operand.tmp 75), none⟩,
    ⟨some 77, Op.binOp BinOp.neq 9 (Operand.tmp 74) (Operand.tmp 76) 9, none⟩,
    ⟨some 78, Op.move (Operand.tmp 77), none⟩,
    ⟨some 79, Op.move (Operand.tmp 10), some (78, false)⟩,
    ⟨some 80, Op.call { callee := Callee.value (Operand.func 11), args := #[Operand.tmp 79], argTypes := #[27] }, some (78, false)⟩,
    ⟨some 81, Op.move (Operand.tmp 14), some (78, false)⟩,
    ⟨some 82, Op.binOp BinOp.neq 3 (Operand.tmp 80) (Operand.tmp 81) 3, some (78, false)⟩,
    ⟨some 83, Op.pick (Operand.tmp 78) (Operand.const (Value.bool true)) (Operand.tmp 82), none⟩,
    ⟨some 84, Op.move (Operand.tmp 83), none⟩,
    ⟨some 85, Op.move (Operand.tmp 12), some (84, false)⟩,
    ⟨some 86, Op.call { callee := Callee.value (Operand.func 11), args := #[Operand.tmp 85], argTypes := #[27] }, some (84, false)⟩,
    ⟨some 87, Op.move (Operand.tmp 14), some (84, false)⟩,
    ⟨some 88, Op.binOp BinOp.neq 3 (Operand.tmp 86) (Operand.tmp 87) 3, some (84, false)⟩,
    ⟨some 89, Op.pick (Operand.tmp 84) (Operand.const (Value.bool true)) (Operand.tmp 88), none⟩])
  (.cond (Operand.tmp 89)
  (.seq (.ops [⟨none, Op.store 4 (Operand.tmp 6) (Operand.const (Value.bool false)), none⟩])
  .ret)
  .skip))
  (.seq (.seq (.ops [⟨some 90, Op.move (Operand.tmp 14), none⟩,
    ⟨some 91, Op.binOp BinOp.neq 3 (Operand.tmp 90) (Operand.const (Value.int IntKind.i64 0)) 3, none⟩])
  (.cond (Operand.tmp 91)
  (.seq (.seq (.ops [⟨some 92, Op.move (Operand.tmp 11), none⟩,
    ⟨some 93, Op.call { callee := Callee.builtin Builtin.len, args := #[Operand.tmp 92], argTypes := #[33] }, none⟩,
    ⟨some 94, Op.binOp BinOp.neq 3 (Operand.tmp 93) (Operand.const (Value.int IntKind.i64 0)) 3, none⟩,
    ⟨some 95, Op.move (Operand.tmp 94), none⟩,
    ⟨some 96, Op.move (Operand.tmp 0), some (95, false)⟩,
    ⟨some 97, Op.move (Operand.tmp 8), some (95, false)⟩,
    ⟨some 98, Op.call { callee := Callee.value (Operand.func 27), args := #[Operand.tmp 96, Operand.tmp 97], argTypes := #[26, 3] }, some (95, false)⟩,
    ⟨some 99, Op.binOp BinOp.neq 3 (Operand.tmp 98) (Operand.const (Value.int IntKind.i64 0)) 3, some (95, false)⟩,
    ⟨some 100, Op.pick (Operand.tmp 95) (Operand.const (Value.bool true)) (Operand.tmp 99), none⟩])
  (.cond (Operand.tmp 100)
  (.seq (.ops [⟨none, Op.store 4 (Operand.tmp 6) (Operand.const (Value.bool false)), none⟩])
  .ret)
  .skip))
  (.exit 1))
  .skip))
  (.seq (.seq (.draw [⟨some 101, Op.move (Operand.tmp 11), none⟩,
    ⟨some 102, Op.convert 33 9 (Operand.tmp 101), none⟩,
    ⟨some 103, Op.load 45 (Operand.tmp 4), none⟩,
    ⟨some 104, Op.nilCheck (Operand.tmp 103), none⟩,
    ⟨some 105, Op.fieldAddr 78 (Operand.tmp 104) 0, none⟩,
    ⟨some 106, Op.load 75 (Operand.tmp 105), none⟩,
    ⟨some 107, Op.move (Operand.tmp 8), none⟩,
    ⟨some 108, Op.indexAddr 75 (Operand.tmp 106) (Operand.tmp 107), none⟩,
    ⟨some 109, Op.load 33 (Operand.tmp 108), none⟩,
    ⟨some 110, Op.convert 33 9 (Operand.tmp 109), none⟩,
    ⟨some 111, Op.binOp BinOp.neq 9 (Operand.tmp 102) (Operand.tmp 110) 9, none⟩,
    ⟨some 112, Op.move (Operand.tmp 111), none⟩,
    ⟨some 113, Op.move (Operand.tmp 0), some (112, false)⟩,
    ⟨some 114, Op.move (Operand.tmp 8), some (112, false)⟩,
    ⟨some 115, Op.call { callee := Callee.value (Operand.func 27), args := #[Operand.tmp 113, Operand.tmp 114], argTypes := #[26, 3] }, some (112, false)⟩,
    ⟨some 116, Op.load 45 (Operand.tmp 4), some (112, false)⟩,
    ⟨some 117, Op.nilCheck (Operand.tmp 116), some (112, false)⟩,
    ⟨some 118, Op.fieldAddr 78 (Operand.tmp 117) 1, some (112, false)⟩,
    ⟨some 119, Op.load 76 (Operand.tmp 118), some (112, false)⟩,
    ⟨some 120, Op.move (Operand.tmp 8), some (112, false)⟩,
    ⟨some 121, Op.indexAddr 76 (Operand.tmp 119) (Operand.tmp 120), some (112, false)⟩,
    ⟨some 122, Op.load 75 (Operand.tmp 121), some (112, false)⟩,
    ⟨some 123, Op.call { callee := Callee.builtin Builtin.len, args := #[Operand.tmp 122], argTypes := #[75] }, some (112, false)⟩,
    ⟨some 124, Op.binOp BinOp.neq 3 (Operand.tmp 115) (Operand.tmp 123) 3, some (112, false)⟩,
    ⟨some 125, Op.pick (Operand.tmp 112) (Operand.const (Value.bool true)) (Operand.tmp 124), none⟩] [(14, 15), (14, 16), (14, 17), (14, 18), (14, 19), (14, 20), (14, 21), (14, 22)])
  (.cond (Operand.tmp 125)
  (.seq (.ops [⟨none, Op.store 4 (Operand.tmp 6) (Operand.const (Value.bool false)), none⟩])
  .ret)
  .skip))
  (.seq (.seq (.ops [⟨some 126, Op.load 45 (Operand.tmp 4), none⟩,
    ⟨some 127, Op.nilCheck (Operand.tmp 126), none⟩,
    ⟨some 128, Op.fieldAddr 78 (Operand.tmp 127) 1, none⟩,
    ⟨some 129, Op.load 76 (Operand.tmp 128), none⟩,
    ⟨some 130, Op.move (Operand.tmp 8), none⟩,
    ⟨some 131, Op.indexAddr 76 (Operand.tmp 129) (Operand.tmp 130), none⟩,
    ⟨some 132, Op.load 75 (Operand.tmp 131), none⟩,
    ⟨some 133, Op.call { callee := Callee.builtin Builtin.len, args := #[Operand.tmp 132], argTypes := #[75] }, none⟩,
    ⟨some 134, Op.binOp BinOp.gtr 3 (Operand.tmp 133) (Operand.const (Value.int IntKind.i64 0)) 3, none⟩])
  (.cond (Operand.tmp 134)
  (.ops [⟨some 135, Op.load 80 (Operand.tmp 7), none⟩,
    ⟨some 136, Op.move (Operand.tmp 8), none⟩,
    ⟨some 137, Op.buildSlice 80 1 #[(0, Operand.tmp 136)], none⟩,
    ⟨some 138, Op.call { callee := Callee.builtin Builtin.append, args := #[Operand.tmp 135, Operand.tmp 137], argTypes := #[80, 80] }, none⟩,
    ⟨none, Op.store 80 (Operand.tmp 7) (Operand.tmp 138), none⟩])
  .skip))
  (.seq (.ops [⟨some 139, Op.move (Operand.tmp 9), none⟩,
    ⟨some 140, Op.move (Operand.tmp 9), none⟩,
    ⟨some 141, Op.indexAddr 33 (Operand.tmp 140) (Operand.const (Value.int IntKind.i64 0)), none⟩,
    ⟨some 142, Op.load 5 (Operand.tmp 141), none⟩,
    ⟨some 143, Op.binOp BinOp.add 5 (Operand.tmp 142) (Operand.const (Value.int IntKind.u8 1)) 5, none⟩,
    ⟨some 144, Op.indexAddr 33 (Operand.tmp 139) (Operand.const (Value.int IntKind.i64 0)), none⟩,
    ⟨none, Op.store 5 (Operand.tmp 144) (Operand.tmp 143), none⟩])
  (.ops [⟨some 145, Op.move (Operand.tmp 11), none⟩,
    ⟨some 146, Op.move (Operand.tmp 11), none⟩,
    ⟨some 147, Op.indexAddr 33 (Operand.tmp 146) (Operand.const (Value.int IntKind.i64 0)), none⟩,
    ⟨some 148, Op.load 5 (Operand.tmp 147), none⟩,
    ⟨some 149, Op.binOp BinOp.add 5 (Operand.tmp 148) (Operand.const (Value.int IntKind.u8 1)) 5, none⟩,
    ⟨some 150, Op.indexAddr 33 (Operand.tmp 145) (Operand.const (Value.int IntKind.i64 0)), none⟩,
    ⟨none, Op.store 5 (Operand.tmp 150) (Operand.tmp 149), none⟩]))))))))))
  (.ops [⟨some 53, Op.move (Operand.tmp 8), none⟩,
    ⟨some 54, Op.binOp BinOp.add 3 (Operand.tmp 53) (Operand.const (Value.int IntKind.i64 1)) 3, none⟩,
    ⟨some 8, Op.assign (Operand.tmp 54), none⟩])))
noncomputable def ir21_l1 : LC := (.seq (.seq (.ops [⟨some 155, Op.load 3 (Operand.tmp 16), none⟩,
    ⟨some 156, Op.binOp BinOp.lss 3 (Operand.tmp 155) (Operand.const (Value.int IntKind.i64 2)) 3, none⟩])
  (.cond (Operand.tmp 156)
  .skip
  (.exit 2)))
  (.seq (.block 3 (.seq (.ops [⟨some 17, Op.alloc 3, none⟩,
    ⟨none, Op.store 3 (Operand.tmp 17) (Operand.const (Value.int IntKind.i64 0)), none⟩])
  (.seq (.seq (.ops [⟨some 159, Op.move (Operand.tmp 15), none⟩])
  (.block 4 (.range (Operand.tmp 159) #[160, 161] (rc21 0).1 (rc21 0).2)))
  (.seq (.ops [⟨some 195, Op.load 3 (Operand.tmp 16), none⟩,
    ⟨some 196, Op.binOp BinOp.eql 3 (Operand.tmp 195) (Operand.const (Value.int IntKind.i64 1)) 3, none⟩,
    ⟨some 197, Op.move (Operand.tmp 196), none⟩,
    ⟨some 198, Op.load 3 (Operand.tmp 17), some (197, true)⟩,
    ⟨some 199, Op.load 80 (Operand.tmp 7), some (197, true)⟩,
    ⟨some 200, Op.call { callee := Callee.builtin Builtin.len, args := #[Operand.tmp 199], argTypes := #[80] }, some (197, true)⟩,
    ⟨some 201, Op.binOp BinOp.neq 3 (Operand.tmp 198) (Operand.tmp 200) 3, some (197, true)⟩,
    ⟨some 202, Op.pick (Operand.tmp 197) (Operand.tmp 201) (Operand.const (Value.bool false)), none⟩,
    ⟨some 203, Op.move (Operand.tmp 202), none⟩,
    ⟨some 204, Op.load 3 (Operand.tmp 16), some (203, false)⟩,
    ⟨some 205, Op.binOp BinOp.eql 3 (Operand.tmp 204) (Operand.const (Value.int IntKind.i64 0)) 3, some (203, false)⟩,
    ⟨some 206, Op.move (Operand.tmp 205), some (203, false)⟩,
    ⟨some 207, Op.load 3 (Operand.tmp 17), some (206, true)⟩,
    ⟨some 208, Op.load 80 (Operand.tmp 7), some (206, true)⟩,
    ⟨some 209, Op.call { callee := Callee.builtin Builtin.len, args := #[Operand.tmp 208], argTypes := #[80] }, some (206, true)⟩,
    ⟨some 210, Op.binOp BinOp.neq 3 (Operand.tmp 207) (Operand.tmp 209) 3, some (206, true)⟩,
    ⟨some 211, Op.pick (Operand.tmp 206) (Operand.tmp 210) (Operand.const (Value.bool false)), some (203, false)⟩,
    ⟨some 212, Op.move (Operand.tmp 211), some (203, false)⟩,
    ⟨some 213, Op.load 3 (Operand.tmp 17), some (212, true)⟩,
    ⟨some 214, Op.load 3 (Operand.tmp 5), some (212, true)⟩,
    ⟨some 215, Op.binOp BinOp.neq 3 (Operand.tmp 213) (Operand.tmp 214) 3, some (212, true)⟩,
    ⟨some 216, Op.pick (Operand.tmp 212) (Operand.tmp 215) (Operand.const (Value.bool false)), some (203, false)⟩,
    ⟨some 217, Op.pick (Operand.tmp 203) (Operand.const (Value.bool true)) (Operand.tmp 216), none⟩])
  (.cond (Operand.tmp 217)
  (.seq (.ops [⟨none, Op.store 4 (Operand.tmp 6) (Operand.const (Value.bool false)), none⟩])
  .ret)
  .skip)))))
  (.seq (.seq (.ops [⟨some 218, Op.load 3 (Operand.tmp 16), none⟩])
  (.ops [⟨some 16, Op.alloc 3, none⟩,
    ⟨none, Op.store 3 (Operand.tmp 16) (Operand.tmp 218), none⟩]))
  (.ops [⟨some 157, Op.load 3 (Operand.tmp 16), none⟩,
    ⟨some 158, Op.binOp BinOp.add 3 (Operand.tmp 157) (Operand.const (Value.int IntKind.i64 1)) 3, none⟩,
    ⟨none, Op.store 3 (Operand.tmp 16) (Operand.tmp 158), none⟩]))))
noncomputable def ir21_a0 : LC := (.seq (.ops [⟨some 18, Op.assign (Operand.tmp 160), none⟩])
  (.ops [⟨some 19, Op.assign (Operand.tmp 161), none⟩]))
noncomputable def ir21_b0 : LC := (.block 5 (.seq (.seq (.ops [⟨some 162, Op.load 3 (Operand.tmp 17), none⟩,
    ⟨some 163, Op.load 80 (Operand.tmp 7), none⟩,
    ⟨some 164, Op.call { callee := Callee.builtin Builtin.len, args := #[Operand.tmp 163], argTypes := #[80] }, none⟩,
    ⟨some 165, Op.binOp BinOp.geq 3 (Operand.tmp 162) (Operand.tmp 164) 3, none⟩,
    ⟨some 166, Op.move (Operand.tmp 165), none⟩,
    ⟨some 167, Op.move (Operand.tmp 18), some (166, false)⟩,
    ⟨some 168, Op.load 80 (Operand.tmp 7), some (166, false)⟩,
    ⟨some 169, Op.load 3 (Operand.tmp 17), some (166, false)⟩,
    ⟨some 170, Op.indexAddr 80 (Operand.tmp 168) (Operand.tmp 169), some (166, false)⟩,
    ⟨some 171, Op.load 3 (Operand.tmp 170), some (166, false)⟩,
    ⟨some 172, Op.binOp BinOp.neq 3 (Operand.tmp 167) (Operand.tmp 171) 3, some (166, false)⟩,
    ⟨some 173, Op.pick (Operand.tmp 166) (Operand.const (Value.bool true)) (Operand.tmp 172), none⟩,
    ⟨some 174, Op.move (Operand.tmp 173), none⟩,
    ⟨some 175, Op.move (Operand.tmp 19), some (174, false)⟩,
    ⟨some 176, Op.load 45 (Operand.tmp 4), some (174, false)⟩,
    ⟨some 177, Op.nilCheck (Operand.tmp 176), some (174, false)⟩,
    ⟨some 178, Op.fieldAddr 78 (Operand.tmp 177) 1, some (174, false)⟩,
    ⟨some 179, Op.load 76 (Operand.tmp 178), some (174, false)⟩,
    ⟨some 180, Op.move (Operand.tmp 18), some (174, false)⟩,
    ⟨some 181, Op.indexAddr 76 (Operand.tmp 179) (Operand.tmp 180), some (174, false)⟩,
    ⟨some 182, Op.load 75 (Operand.tmp 181), some (174, false)⟩,
    ⟨some 183, Op.call { callee := Callee.builtin Builtin.len, args := #[Operand.tmp 182], argTypes := #[75] }, some (174, false)⟩,
    ⟨some 184, Op.binOp BinOp.neq 3 (Operand.tmp 175) (Operand.tmp 183) 3, some (174, false)⟩,
    ⟨some 185, Op.pick (Operand.tmp 174) (Operand.const (Value.bool true)) (Operand.tmp 184), none⟩])
  (.cond (Operand.tmp 185)
  (.seq (.ops [⟨none, Op.store 4 (Operand.tmp 6) (Operand.const (Value.bool false)), none⟩])
  .ret)
  .skip))
  (.seq (.ops [⟨some 186, Op.load 3 (Operand.tmp 17), none⟩,
    ⟨some 187, Op.binOp BinOp.add 3 (Operand.tmp 186) (Operand.const (Value.int IntKind.i64 1)) 3, none⟩,
    ⟨none, Op.store 3 (Operand.tmp 17) (Operand.tmp 187), none⟩])
  (.seq (.ops [⟨some 188, Op.load 3 (Operand.tmp 16), none⟩,
    ⟨some 189, Op.binOp BinOp.eql 3 (Operand.tmp 188) (Operand.const (Value.int IntKind.i64 0)) 3, none⟩,
    ⟨some 190, Op.move (Operand.tmp 189), none⟩,
    ⟨some 191, Op.load 3 (Operand.tmp 17), some (190, true)⟩,
    ⟨some 192, Op.load 3 (Operand.tmp 5), some (190, true)⟩,
    ⟨some 193, Op.binOp BinOp.eql 3 (Operand.tmp 191) (Operand.tmp 192) 3, some (190, true)⟩,
    ⟨some 194, Op.pick (Operand.tmp 190) (Operand.tmp 193) (Operand.const (Value.bool false)), none⟩])
  (.cond (Operand.tmp 194)
  (.exit 4)
  .skip)))))
theorem ir21_a0_eq : low (rc21 0).1 = ir21_a0 := by kernel_rfl
theorem ir21_b0_eq : low (rc21 0).2 = ir21_b0 := by kernel_rfl
noncomputable def ir21 : LC := (.seq (.ops [⟨some 4, Op.box 45 (Operand.tmp 1), none⟩,
    ⟨some 5, Op.box 3 (Operand.tmp 2), none⟩,
    ⟨some 6, Op.alloc 4, none⟩])
  (.seq (.seq (.draw [⟨some 20, Op.move (Operand.tmp 0), none⟩,
    ⟨some 21, Op.call { callee := Callee.value (Operand.func 22), args := #[Operand.tmp 20], argTypes := #[26] }, none⟩,
    ⟨some 22, Op.load 45 (Operand.tmp 4), none⟩,
    ⟨some 23, Op.nilCheck (Operand.tmp 22), none⟩,
    ⟨some 24, Op.fieldAddr 78 (Operand.tmp 23) 0, none⟩,
    ⟨some 25, Op.load 75 (Operand.tmp 24), none⟩,
    ⟨some 26, Op.call { callee := Callee.builtin Builtin.len, args := #[Operand.tmp 25], argTypes := #[75] }, none⟩,
    ⟨some 27, Op.binOp BinOp.neq 3 (Operand.tmp 21) (Operand.tmp 26) 3, none⟩,
    ⟨some 28, Op.move (Operand.tmp 27), none⟩,
    ⟨some 29, Op.move (Operand.tmp 0), some (28, false)⟩,
    ⟨some 30, Op.call { callee := Callee.value (Operand.func 18), args := #[Operand.tmp 29], argTypes := #[26] }, some (28, false)⟩,
    ⟨some 31, Op.convert 33 9 (Operand.tmp 30), some (28, false)⟩,
    ⟨some 32, Op.load 45 (Operand.tmp 4), some (28, false)⟩,
    ⟨some 33, Op.call { callee := Callee.value (Operand.func 36), args := #[Operand.tmp 32], argTypes := #[45] }, some (28, false)⟩,
    ⟨some 34, Op.convert 33 9 (Operand.tmp 33), some (28, false)⟩,
    ⟨some 35, Op.binOp BinOp.neq 9 (Operand.tmp 31) (Operand.tmp 34) 9, some (28, false)⟩,
    ⟨some 36, Op.pick (Operand.tmp 28) (Operand.const (Value.bool true)) (Operand.tmp 35), none⟩,
    ⟨some 37, Op.move (Operand.tmp 36), none⟩,
    ⟨some 38, Op.move (Operand.tmp 0), some (37, false)⟩,
    ⟨some 39, Op.call { callee := Callee.value (Operand.func 37), args := #[Operand.tmp 38], argTypes := #[26] }, some (37, false)⟩,
    ⟨some 40, Op.load 45 (Operand.tmp 4), some (37, false)⟩,
    ⟨some 41, Op.nilCheck (Operand.tmp 40), some (37, false)⟩,
    ⟨some 42, Op.fieldAddr 78 (Operand.tmp 41) 2, some (37, false)⟩,
    ⟨some 43, Op.load 2 (Operand.tmp 42), some (37, false)⟩,
    ⟨some 44, Op.binOp BinOp.neq 2 (Operand.tmp 39) (Operand.tmp 43) 2, some (37, false)⟩,
    ⟨some 45, Op.pick (Operand.tmp 37) (Operand.const (Value.bool true)) (Operand.tmp 44), none⟩] [(1, 2), (1, 3), (1, 4), (1, 5), (1, 6), (10, 12), (11, 13), (19, 20), (19, 21), (19, 22), (19, 23)])
  (.cond (Operand.tmp 45)
  (.seq (.ops [⟨none, Op.store 4 (Operand.tmp 6) (Operand.const (Value.bool false)), none⟩])
  .ret)
  .skip))
  (.seq (.ops [⟨some 7, Op.alloc 80, none⟩])
  (.seq (.seq (.ops [⟨some 8, Op.assign (Operand.const (Value.int IntKind.i64 (-1))), none⟩])
  (.block 0 (.loop ir21_l0)))
  (.seq (.ops [⟨some 151, Op.move (Operand.tmp 0), none⟩,
    ⟨some 152, Op.call { callee := Callee.value (Operand.func 40), args := #[Operand.tmp 151], argTypes := #[26] }, none⟩,
    ⟨some 15, Op.assign (Operand.tmp 152), none⟩])
  (.seq (.seq (.ops [⟨some 153, Op.move (Operand.tmp 15), none⟩,
    ⟨some 154, Op.binOp BinOp.eql 84 (Operand.tmp 153) (Operand.const Value.nilFunc) 84, none⟩])
  (.cond (Operand.tmp 154)
  (.seq (.ops [⟨none, Op.store 4 (Operand.tmp 6) (Operand.const (Value.bool false)), none⟩])
  .ret)
  .skip))
  (.seq (.seq (.ops [⟨some 16, Op.alloc 3, none⟩,
    ⟨none, Op.store 3 (Operand.tmp 16) (Operand.const (Value.int IntKind.i64 0)), none⟩])
  (.block 2 (.loop ir21_l1)))
  (.seq (.ops [⟨none, Op.store 4 (Operand.tmp 6) (Operand.const (Value.bool true)), none⟩])
  .ret))))))))
theorem ir21_eq : (Try.f21.body.map low, Try.f21.ntmps, Try.f21.results.toList) = (some ir21, 219, [.cell 6 4]) := by kernel_rfl
def ir22 : LC := (.seq (.ops [⟨some 2, Op.assign (Operand.const (Value.int IntKind.i64 0)), none⟩])
  (.seq (.seq (.ops [⟨some 3, Op.move (Operand.tmp 0), none⟩,
    ⟨some 4, Op.call { callee := Callee.value (Operand.func 29), args := #[Operand.tmp 3], argTypes := #[26] }, none⟩,
    ⟨some 5, Op.unOp UnOp.not 4 (Operand.tmp 4), none⟩])
  (.cond (Operand.tmp 5)
  (.seq (.ops [⟨some 2, Op.assign (Operand.const (Value.int IntKind.i64 0)), none⟩])
  .ret)
  .skip))
  (.seq (.ops [⟨some 6, Op.move (Operand.tmp 0), none⟩,
    ⟨some 7, Op.nilCheck (Operand.tmp 6), none⟩,
    ⟨some 8, Op.fieldAddr 54 (Operand.tmp 7) 0, none⟩,
    ⟨some 9, Op.load 51 (Operand.tmp 8), none⟩,
    ⟨some 10, Op.call { callee := Callee.builtin Builtin.len, args := #[Operand.tmp 9], argTypes := #[51] }, none⟩,
    ⟨some 2, Op.assign (Operand.tmp 10), none⟩])
  .ret)))
theorem ir22_eq : (Try.f22.body.map low, Try.f22.ntmps, Try.f22.results.toList) = (some ir22, 11, [.tmp 2]) := by kernel_rfl
def ir24_l0 : LC := (.seq (.seq (.ops [⟨some 15, Op.move (Operand.tmp 4), none⟩,
    ⟨some 16, Op.move (Operand.tmp 0), none⟩,
    ⟨some 17, Op.binOp BinOp.lss 3 (Operand.tmp 15) (Operand.tmp 16) 3, none⟩])
  (.cond (Operand.tmp 17)
  .skip
  (.exit 0)))
  (.seq (.block 1 (.draw [⟨some 20, Op.move (Operand.tmp 3), none⟩,
    ⟨some 21, Op.move (Operand.tmp 3), none⟩,
    ⟨some 22, Op.nilCheck (Operand.tmp 21), none⟩,
    ⟨some 23, Op.fieldAddr 78 (Operand.tmp 22) 0, none⟩,
    ⟨some 24, Op.load 75 (Operand.tmp 23), none⟩,
    ⟨some 25, Op.makeSlice 33 (Operand.const (Value.int IntKind.i64 128)) (Operand.const (Value.int IntKind.i64 128)), none⟩,
    ⟨some 26, Op.buildSlice 75 1 #[(0, Operand.tmp 25)], none⟩,
    ⟨some 27, Op.call { callee := Callee.builtin Builtin.append, args := #[Operand.tmp 24, Operand.tmp 26], argTypes := #[75, 75] }, none⟩,
    ⟨some 28, Op.nilCheck (Operand.tmp 20), none⟩,
    ⟨some 29, Op.fieldAddr 78 (Operand.tmp 28) 0, none⟩,
    ⟨none, Op.store 75 (Operand.tmp 29) (Operand.tmp 27), none⟩] [(0, 5), (1, 5), (2, 5), (3, 5), (4, 5), (0, 6), (1, 6), (2, 6), (3, 6), (4, 6), (0, 7)]))
  (.ops [⟨some 18, Op.move (Operand.tmp 4), none⟩,
    ⟨some 19, Op.binOp BinOp.add 3 (Operand.tmp 18) (Operand.const (Value.int IntKind.i64 1)) 3, none⟩,
    ⟨some 4, Op.assign (Operand.tmp 19), none⟩])))
def ir24 : LC := (.seq (.ops [⟨some 2, Op.assign (Operand.const (Value.pointer none)), none⟩])
  (.seq (.seq (.ops [⟨some 5, Op.move (Operand.tmp 0), none⟩,
    ⟨some 6, Op.binOp BinOp.lss 3 (Operand.tmp 5) (Operand.const (Value.int IntKind.i64 1)) 3, none⟩,
    ⟨some 7, Op.move (Operand.tmp 6), none⟩,
    ⟨some 8, Op.move (Operand.tmp 0), some (7, false)⟩,
    ⟨some 9, Op.binOp BinOp.gtr 3 (Operand.tmp 8) (Operand.const (Value.int IntKind.i64 4096)) 3, some (7, false)⟩,
    ⟨some 10, Op.pick (Operand.tmp 7) (Operand.const (Value.bool true)) (Operand.tmp 9), none⟩])
  (.cond (Operand.tmp 10)
  (.seq (.ops [⟨some 2, Op.assign (Operand.const (Value.pointer none)), none⟩])
  .ret)
  .skip))
  (.seq (.ops [⟨some 11, Op.move (Operand.tmp 0), none⟩,
    ⟨some 12, Op.makeSlice 76 (Operand.tmp 11) (Operand.tmp 11), none⟩,
    ⟨some 13, Op.build 78 #[(1, Operand.tmp 12)], none⟩,
    ⟨some 14, Op.box 78 (Operand.tmp 13), none⟩,
    ⟨some 3, Op.assign (Operand.tmp 14), none⟩])
  (.seq (.seq (.ops [⟨some 4, Op.assign (Operand.const (Value.int IntKind.i64 0)), none⟩])
  (.block 0 (.loop ir24_l0)))
  (.seq (.ops [⟨some 30, Op.move (Operand.tmp 3), none⟩,
    ⟨some 2, Op.assign (Operand.tmp 30), none⟩])
  .ret)))))
theorem ir24_eq : (Try.f24.body.map low, Try.f24.ntmps, Try.f24.results.toList) = (some ir24, 31, [.tmp 2]) := by kernel_rfl
def ir25_l0 : LC := (.seq (.seq (.ops [⟨some 47, Op.move (Operand.tmp 12), none⟩,
    ⟨some 48, Op.move (Operand.tmp 9), none⟩,
    ⟨some 49, Op.call { callee := Callee.builtin Builtin.len, args := #[Operand.tmp 48], argTypes := #[33] }, none⟩,
    ⟨some 50, Op.binOp BinOp.lss 3 (Operand.tmp 47) (Operand.tmp 49) 3, none⟩])
  (.cond (Operand.tmp 50)
  .skip
  (.exit 1)))
  (.seq (.block 2 (.ops [⟨some 53, Op.move (Operand.tmp 9), none⟩,
    ⟨some 54, Op.move (Operand.tmp 12), none⟩,
    ⟨some 55, Op.indexAddr 33 (Operand.tmp 53) (Operand.tmp 54), none⟩,
    ⟨none, Op.store 5 (Operand.tmp 55) (Operand.const (Value.int IntKind.u8 102)), none⟩]))
  (.ops [⟨some 51, Op.move (Operand.tmp 12), none⟩,
    ⟨some 52, Op.binOp BinOp.add 3 (Operand.tmp 51) (Operand.const (Value.int IntKind.i64 1)) 3, none⟩,
    ⟨some 12, Op.assign (Operand.tmp 52), none⟩])))
def ir25 : LC := (.seq (.ops [⟨some 5, Op.box 36 (Operand.tmp 2), none⟩,
    ⟨some 6, Op.assign (Operand.const (Value.pointer none)), none⟩,
    ⟨some 7, Op.assign (Operand.const (Value.pointer none)), none⟩,
    ⟨some 8, Op.assign (Operand.const (Value.bool false)), none⟩])
  (.seq (.seq (.ops [⟨some 22, Op.fieldAddr 36 (Operand.tmp 5) 0, none⟩,
    ⟨some 23, Op.load 3 (Operand.tmp 22), none⟩])
  (.block 0 (.seq (.ops [⟨some 25, Op.binOp BinOp.eql 3 (Operand.tmp 23) (Operand.const (Value.int IntKind.i64 1)) 3, none⟩,
    ⟨some 24, Op.assign (Operand.tmp 25), none⟩])
  (.cond (Operand.tmp 24)
  (.seq (.ops [⟨some 26, Op.fieldAddr 36 (Operand.tmp 5) 3, none⟩,
    ⟨some 27, Op.load 33 (Operand.tmp 26), none⟩,
    ⟨some 28, Op.call { callee := Callee.builtin Builtin.append, args := #[Operand.const (Value.slice none 0 0), Operand.tmp 27], argTypes := #[33, 33] }, none⟩,
    ⟨some 29, Op.buildSlice 33 1 #[(0, Operand.const (Value.int IntKind.u8 119))], none⟩,
    ⟨some 30, Op.call { callee := Callee.builtin Builtin.append, args := #[Operand.tmp 28, Operand.tmp 29], argTypes := #[33, 33] }, none⟩,
    ⟨some 9, Op.assign (Operand.tmp 30), none⟩])
  (.seq (.draw [⟨some 31, Op.move (Operand.tmp 0), none⟩,
    ⟨some 32, Op.fieldAddr 36 (Operand.tmp 5) 1, none⟩,
    ⟨some 33, Op.load 3 (Operand.tmp 32), none⟩,
    ⟨some 34, Op.move (Operand.tmp 9), none⟩,
    ⟨some 35, Op.fieldAddr 36 (Operand.tmp 5) 3, none⟩,
    ⟨some 36, Op.load 33 (Operand.tmp 35), none⟩,
    ⟨some 37, Op.call { callee := Callee.builtin Builtin.len, args := #[Operand.tmp 36], argTypes := #[33] }, none⟩,
    ⟨some 38, Op.slice 33 (Operand.tmp 34) none (some (Operand.tmp 37)) none, none⟩,
    ⟨some 39, Op.call { callee := Callee.value (Operand.func 13), args := #[Operand.tmp 31, Operand.tmp 33, Operand.tmp 38], argTypes := #[26, 3, 33] }, none⟩,
    ⟨some 10, Op.assign (Operand.tmp 39), none⟩] [])
  (.seq (.ops [⟨some 40, Op.move (Operand.tmp 9), none⟩,
    ⟨some 41, Op.convert 33 9 (Operand.tmp 40), none⟩,
    ⟨some 42, Op.fieldAddr 36 (Operand.tmp 5) 3, none⟩,
    ⟨some 43, Op.load 33 (Operand.tmp 42), none⟩,
    ⟨some 44, Op.convert 33 9 (Operand.tmp 43), none⟩,
    ⟨some 45, Op.binOp BinOp.add 9 (Operand.tmp 44) (Operand.const (Value.string { data := #[119] })) 9, none⟩,
    ⟨some 46, Op.binOp BinOp.eql 9 (Operand.tmp 41) (Operand.tmp 45) 9, none⟩,
    ⟨some 11, Op.assign (Operand.tmp 46), none⟩])
  (.seq (.seq (.ops [⟨some 12, Op.assign (Operand.const (Value.int IntKind.i64 0)), none⟩])
  (.block 1 (.loop ir25_l0)))
  (.seq (.draw [⟨some 56, Op.move (Operand.tmp 0), none⟩,
    ⟨some 57, Op.move (Operand.tmp 1), none⟩,
    ⟨some 58, Op.move (Operand.tmp 11), none⟩,
    ⟨some 59, Op.move (Operand.tmp 58), none⟩,
    ⟨some 60, Op.move (Operand.tmp 10), some (59, true)⟩,
    ⟨some 61, Op.call { callee := Callee.value (Operand.func 11), args := #[Operand.tmp 60], argTypes := #[27] }, some (59, true)⟩,
    ⟨some 62, Op.move (Operand.tmp 1), some (59, true)⟩,
    ⟨some 63, Op.fieldAddr 36 (Operand.tmp 5) 1, some (59, true)⟩,
    ⟨some 64, Op.load 3 (Operand.tmp 63), some (59, true)⟩,
    ⟨some 65, Op.fieldAddr 36 (Operand.tmp 5) 3, some (59, true)⟩,
    ⟨some 66, Op.load 33 (Operand.tmp 65), some (59, true)⟩,
    ⟨some 67, Op.call { callee := Callee.value (Operand.func 42), args := #[Operand.tmp 62, Operand.tmp 64, Operand.tmp 66], argTypes := #[45, 3, 33] }, some (59, true)⟩,
    ⟨some 68, Op.binOp BinOp.eql 3 (Operand.tmp 61) (Operand.tmp 67) 3, some (59, true)⟩,
    ⟨some 69, Op.pick (Operand.tmp 59) (Operand.tmp 68) (Operand.const (Value.bool false)), none⟩,
    ⟨some 6, Op.assign (Operand.tmp 56), none⟩,
    ⟨some 7, Op.assign (Operand.tmp 57), none⟩,
    ⟨some 8, Op.assign (Operand.tmp 69), none⟩] [(0, 5), (1, 5), (5, 6), (5, 7), (5, 8), (5, 9), (5, 10), (0, 11), (1, 11)])
  .ret)))))
  (.seq (.ops [⟨some 71, Op.binOp BinOp.eql 3 (Operand.tmp 23) (Operand.const (Value.int IntKind.i64 2)) 3, none⟩,
    ⟨some 70, Op.assign (Operand.tmp 71), none⟩])
  (.cond (Operand.tmp 70)
  (.seq (.draw [⟨some 72, Op.move (Operand.tmp 0), none⟩,
    ⟨some 73, Op.move (Operand.tmp 1), none⟩,
    ⟨some 74, Op.move (Operand.tmp 0), none⟩,
    ⟨some 75, Op.fieldAddr 36 (Operand.tmp 5) 1, none⟩,
    ⟨some 76, Op.load 3 (Operand.tmp 75), none⟩,
    ⟨some 77, Op.fieldAddr 36 (Operand.tmp 5) 2, none⟩,
    ⟨some 78, Op.load 3 (Operand.tmp 77), none⟩,
    ⟨some 79, Op.call { callee := Callee.value (Operand.func 14), args := #[Operand.tmp 74, Operand.tmp 76, Operand.tmp 78], argTypes := #[26, 3, 3] }, none⟩,
    ⟨some 80, Op.call { callee := Callee.value (Operand.func 11), args := #[Operand.tmp 79], argTypes := #[27] }, none⟩,
    ⟨some 81, Op.move (Operand.tmp 1), none⟩,
    ⟨some 82, Op.fieldAddr 36 (Operand.tmp 5) 1, none⟩,
    ⟨some 83, Op.load 3 (Operand.tmp 82), none⟩,
    ⟨some 84, Op.fieldAddr 36 (Operand.tmp 5) 2, none⟩,
    ⟨some 85, Op.load 3 (Operand.tmp 84), none⟩,
    ⟨some 86, Op.call { callee := Callee.value (Operand.func 43), args := #[Operand.tmp 81, Operand.tmp 83, Operand.tmp 85], argTypes := #[45, 3, 3] }, none⟩,
    ⟨some 87, Op.binOp BinOp.eql 3 (Operand.tmp 80) (Operand.tmp 86) 3, none⟩,
    ⟨some 6, Op.assign (Operand.tmp 72), none⟩,
    ⟨some 7, Op.assign (Operand.tmp 73), none⟩,
    ⟨some 8, Op.assign (Operand.tmp 87), none⟩] [(0, 7), (1, 7), (0, 8), (1, 8), (7, 9), (8, 9), (7, 10), (8, 10), (7, 11), (8, 11), (7, 12), (8, 12), (7, 13), (8, 13), (0, 14), (1, 14)])
  .ret)
  (.seq (.ops [⟨some 89, Op.binOp BinOp.eql 3 (Operand.tmp 23) (Operand.const (Value.int IntKind.i64 3)) 3, none⟩,
    ⟨some 88, Op.assign (Operand.tmp 89), none⟩])
  (.cond (Operand.tmp 88)
  (.seq (.ops [⟨some 91, Op.move (Operand.tmp 0), none⟩,
    ⟨some 92, Op.fieldAddr 36 (Operand.tmp 5) 4, none⟩,
    ⟨some 93, Op.load 23 (Operand.tmp 92), none⟩,
    ⟨some 94, Op.call { callee := Callee.value (Operand.func 15), args := #[Operand.tmp 91, Operand.tmp 93], argTypes := #[26, 23] }, none⟩,
    ⟨some 90, Op.move (Operand.tmp 94), none⟩,
    ⟨some 95, Op.extract (Operand.tmp 90) 0, none⟩,
    ⟨some 96, Op.extract (Operand.tmp 90) 1, none⟩,
    ⟨some 13, Op.assign (Operand.tmp 95), none⟩,
    ⟨some 14, Op.assign (Operand.tmp 96), none⟩])
  (.seq (.ops [⟨some 98, Op.move (Operand.tmp 1), none⟩,
    ⟨some 99, Op.fieldAddr 36 (Operand.tmp 5) 4, none⟩,
    ⟨some 100, Op.load 23 (Operand.tmp 99), none⟩,
    ⟨some 101, Op.call { callee := Callee.value (Operand.func 44), args := #[Operand.tmp 98, Operand.tmp 100], argTypes := #[45, 23] }, none⟩,
    ⟨some 97, Op.move (Operand.tmp 101), none⟩,
    ⟨some 102, Op.extract (Operand.tmp 97) 0, none⟩,
    ⟨some 103, Op.extract (Operand.tmp 97) 1, none⟩,
    ⟨some 15, Op.assign (Operand.tmp 102), none⟩,
    ⟨some 16, Op.assign (Operand.tmp 103), none⟩])
  (.seq (.seq (.ops [⟨some 104, Op.move (Operand.tmp 14), none⟩,
    ⟨some 105, Op.call { callee := Callee.value (Operand.func 11), args := #[Operand.tmp 104], argTypes := #[27] }, none⟩,
    ⟨some 106, Op.move (Operand.tmp 16), none⟩,
    ⟨some 107, Op.binOp BinOp.neq 3 (Operand.tmp 105) (Operand.tmp 106) 3, none⟩,
    ⟨some 108, Op.move (Operand.tmp 107), none⟩,
    ⟨some 109, Op.move (Operand.tmp 13), some (108, false)⟩,
    ⟨some 110, Op.binOp BinOp.eql 26 (Operand.tmp 109) (Operand.const (Value.pointer none)) 26, some (108, false)⟩,
    ⟨some 111, Op.move (Operand.tmp 15), some (108, false)⟩,
    ⟨some 112, Op.binOp BinOp.eql 45 (Operand.tmp 111) (Operand.const (Value.pointer none)) 45, some (108, false)⟩,
    ⟨some 113, Op.binOp BinOp.neq 4 (Operand.tmp 110) (Operand.tmp 112) 4, some (108, false)⟩,
    ⟨some 114, Op.pick (Operand.tmp 108) (Operand.const (Value.bool true)) (Operand.tmp 113), none⟩,
    ⟨some 115, Op.move (Operand.tmp 114), none⟩,
    ⟨some 116, Op.move (Operand.tmp 0), some (115, false)⟩,
    ⟨some 117, Op.move (Operand.tmp 1), some (115, false)⟩,
    ⟨some 118, Op.call { callee := Callee.value (Operand.func 21), args := #[Operand.tmp 116, Operand.tmp 117, Operand.const (Value.int IntKind.i64 0)], argTypes := #[26, 45, 3] }, some (115, false)⟩,
    ⟨some 119, Op.unOp UnOp.not 4 (Operand.tmp 118), some (115, false)⟩,
    ⟨some 120, Op.pick (Operand.tmp 115) (Operand.const (Value.bool true)) (Operand.tmp 119), none⟩])
  (.cond (Operand.tmp 120)
  (.seq (.ops [⟨some 121, Op.move (Operand.tmp 0), none⟩,
    ⟨some 122, Op.move (Operand.tmp 1), none⟩,
    ⟨some 6, Op.assign (Operand.tmp 121), none⟩,
    ⟨some 7, Op.assign (Operand.tmp 122), none⟩,
    ⟨some 8, Op.assign (Operand.const (Value.bool false)), none⟩])
  .ret)
  .skip))
  (.seq (.seq (.ops [⟨some 123, Op.move (Operand.tmp 15), none⟩,
    ⟨some 124, Op.binOp BinOp.eql 45 (Operand.tmp 123) (Operand.const (Value.pointer none)) 45, none⟩])
  (.cond (Operand.tmp 124)
  (.seq (.ops [⟨some 125, Op.move (Operand.tmp 0), none⟩,
    ⟨some 126, Op.move (Operand.tmp 1), none⟩,
    ⟨some 6, Op.assign (Operand.tmp 125), none⟩,
    ⟨some 7, Op.assign (Operand.tmp 126), none⟩,
    ⟨some 8, Op.assign (Operand.const (Value.bool true)), none⟩])
  .ret)
  .skip))
  (.seq (.ops [⟨some 127, Op.move (Operand.tmp 0), none⟩,
    ⟨some 128, Op.call { callee := Callee.value (Operand.func 12), args := #[Operand.const (Value.int IntKind.u8 9)], argTypes := #[5] }, none⟩,
    ⟨some 129, Op.call { callee := Callee.value (Operand.func 13), args := #[Operand.tmp 127, Operand.const (Value.int IntKind.i64 0), Operand.tmp 128], argTypes := #[26, 3, 33] }, none⟩])
  (.seq (.ops [⟨some 130, Op.move (Operand.tmp 13), none⟩,
    ⟨some 131, Op.move (Operand.tmp 15), none⟩,
    ⟨some 6, Op.assign (Operand.tmp 130), none⟩,
    ⟨some 7, Op.assign (Operand.tmp 131), none⟩,
    ⟨some 8, Op.assign (Operand.const (Value.bool true)), none⟩])
  .ret))))))
  (.seq (.ops [⟨some 133, Op.binOp BinOp.eql 3 (Operand.tmp 23) (Operand.const (Value.int IntKind.i64 4)) 3, none⟩,
    ⟨some 132, Op.assign (Operand.tmp 133), none⟩])
  (.cond (Operand.tmp 132)
  (.seq (.ops [⟨some 134, Op.move (Operand.tmp 0), none⟩,
    ⟨some 135, Op.call { callee := Callee.value (Operand.func 41), args := #[Operand.tmp 134], argTypes := #[26] }, none⟩,
    ⟨some 17, Op.assign (Operand.tmp 135), none⟩])
  (.seq (.seq (.ops [⟨some 136, Op.move (Operand.tmp 17), none⟩,
    ⟨some 137, Op.binOp BinOp.eql 26 (Operand.tmp 136) (Operand.const (Value.pointer none)) 26, none⟩,
    ⟨some 138, Op.move (Operand.tmp 137), none⟩,
    ⟨some 139, Op.move (Operand.tmp 17), some (138, false)⟩,
    ⟨some 140, Op.move (Operand.tmp 0), some (138, false)⟩,
    ⟨some 141, Op.call { callee := Callee.value (Operand.func 16), args := #[Operand.tmp 139, Operand.tmp 140], argTypes := #[26, 26] }, some (138, false)⟩,
    ⟨some 142, Op.unOp UnOp.not 4 (Operand.tmp 141), some (138, false)⟩,
    ⟨some 143, Op.pick (Operand.tmp 138) (Operand.const (Value.bool true)) (Operand.tmp 142), none⟩])
  (.cond (Operand.tmp 143)
  (.seq (.ops [⟨some 144, Op.move (Operand.tmp 0), none⟩,
    ⟨some 145, Op.move (Operand.tmp 1), none⟩,
    ⟨some 6, Op.assign (Operand.tmp 144), none⟩,
    ⟨some 7, Op.assign (Operand.tmp 145), none⟩,
    ⟨some 8, Op.assign (Operand.const (Value.bool false)), none⟩])
  .ret)
  .skip))
  (.seq (.ops [⟨some 146, Op.move (Operand.tmp 0), none⟩,
    ⟨some 147, Op.call { callee := Callee.value (Operand.func 12), args := #[Operand.const (Value.int IntKind.u8 9)], argTypes := #[5] }, none⟩,
    ⟨some 148, Op.call { callee := Callee.value (Operand.func 13), args := #[Operand.tmp 146, Operand.const (Value.int IntKind.i64 0), Operand.tmp 147], argTypes := #[26, 3, 33] }, none⟩])
  (.seq (.ops [⟨some 149, Op.move (Operand.tmp 17), none⟩,
    ⟨some 150, Op.move (Operand.tmp 1), none⟩,
    ⟨some 6, Op.assign (Operand.tmp 149), none⟩,
    ⟨some 7, Op.assign (Operand.tmp 150), none⟩,
    ⟨some 8, Op.assign (Operand.const (Value.bool true)), none⟩])
  .ret))))
  (.seq (.ops [⟨some 152, Op.binOp BinOp.eql 3 (Operand.tmp 23) (Operand.const (Value.int IntKind.i64 5)) 3, none⟩,
    ⟨some 151, Op.assign (Operand.tmp 152), none⟩])
  (.cond (Operand.tmp 151)
  (.seq (.ops [⟨some 153, Op.move (Operand.tmp 0), none⟩,
    ⟨some 154, Op.call { callee := Callee.value (Operand.func 18), args := #[Operand.tmp 153], argTypes := #[26] }, none⟩,
    ⟨some 18, Op.assign (Operand.tmp 154), none⟩])
  (.seq (.ops [⟨some 156, Op.move (Operand.tmp 18), none⟩,
    ⟨some 157, Op.call { callee := Callee.value (Operand.func 19), args := #[Operand.tmp 156], argTypes := #[33] }, none⟩,
    ⟨some 155, Op.move (Operand.tmp 157), none⟩,
    ⟨some 158, Op.extract (Operand.tmp 155) 0, none⟩,
    ⟨some 159, Op.extract (Operand.tmp 155) 1, none⟩,
    ⟨some 19, Op.assign (Operand.tmp 158), none⟩,
    ⟨some 20, Op.assign (Operand.tmp 159), none⟩])
  (.seq (.seq (.ops [⟨some 160, Op.move (Operand.tmp 19), none⟩,
    ⟨some 161, Op.binOp BinOp.eql 26 (Operand.tmp 160) (Operand.const (Value.pointer none)) 26, none⟩,
    ⟨some 162, Op.move (Operand.tmp 161), none⟩,
    ⟨some 163, Op.move (Operand.tmp 20), some (162, false)⟩,
    ⟨some 164, Op.call { callee := Callee.value (Operand.func 11), args := #[Operand.tmp 163], argTypes := #[27] }, some (162, false)⟩,
    ⟨some 165, Op.binOp BinOp.neq 3 (Operand.tmp 164) (Operand.const (Value.int IntKind.i64 0)) 3, some (162, false)⟩,
    ⟨some 166, Op.pick (Operand.tmp 162) (Operand.const (Value.bool true)) (Operand.tmp 165), none⟩])
  (.cond (Operand.tmp 166)
  (.seq (.ops [⟨some 167, Op.move (Operand.tmp 0), none⟩,
    ⟨some 168, Op.move (Operand.tmp 1), none⟩,
    ⟨some 6, Op.assign (Operand.tmp 167), none⟩,
    ⟨some 7, Op.assign (Operand.tmp 168), none⟩,
    ⟨some 8, Op.assign (Operand.const (Value.bool false)), none⟩])
  .ret)
  .skip))
  (.seq (.ops [⟨some 169, Op.move (Operand.tmp 18), none⟩,
    ⟨some 170, Op.move (Operand.tmp 18), none⟩,
    ⟨some 171, Op.indexAddr 33 (Operand.tmp 170) (Operand.const (Value.int IntKind.i64 0)), none⟩,
    ⟨some 172, Op.load 5 (Operand.tmp 171), none⟩,
    ⟨some 173, Op.binOp BinOp.add 5 (Operand.tmp 172) (Operand.const (Value.int IntKind.u8 1)) 5, none⟩,
    ⟨some 174, Op.indexAddr 33 (Operand.tmp 169) (Operand.const (Value.int IntKind.i64 0)), none⟩,
    ⟨none, Op.store 5 (Operand.tmp 174) (Operand.tmp 173), none⟩])
  (.seq (.ops [⟨some 175, Op.move (Operand.tmp 1), none⟩,
    ⟨some 176, Op.call { callee := Callee.value (Operand.func 36), args := #[Operand.tmp 175], argTypes := #[45] }, none⟩,
    ⟨some 177, Op.call { callee := Callee.value (Operand.func 20), args := #[Operand.tmp 176], argTypes := #[33] }, none⟩,
    ⟨some 21, Op.assign (Operand.tmp 177), none⟩])
  (.seq (.ops [⟨some 178, Op.move (Operand.tmp 19), none⟩,
    ⟨some 179, Op.move (Operand.tmp 21), none⟩,
    ⟨some 6, Op.assign (Operand.tmp 178), none⟩,
    ⟨some 7, Op.assign (Operand.tmp 179), none⟩,
    ⟨some 8, Op.assign (Operand.const (Value.bool true)), none⟩])
  .ret))))))
  .skip))))))))))))
  (.seq (.ops [⟨some 180, Op.move (Operand.tmp 0), none⟩,
    ⟨some 181, Op.move (Operand.tmp 1), none⟩,
    ⟨some 6, Op.assign (Operand.tmp 180), none⟩,
    ⟨some 7, Op.assign (Operand.tmp 181), none⟩,
    ⟨some 8, Op.assign (Operand.const (Value.bool true)), none⟩])
  .ret)))
theorem ir25_eq : (Try.f25.body.map low, Try.f25.ntmps, Try.f25.results.toList) = (some ir25, 182, [.tmp 6, .tmp 7, .tmp 8]) := by kernel_rfl
def ir26_l0 : LC := (.seq (.seq (.ops [⟨some 65, Op.move (Operand.tmp 6), none⟩,
    ⟨some 66, Op.move (Operand.tmp 0), none⟩,
    ⟨some 67, Op.nilCheck (Operand.tmp 66), none⟩,
    ⟨some 68, Op.fieldAddr 78 (Operand.tmp 67) 1, none⟩,
    ⟨some 69, Op.load 76 (Operand.tmp 68), none⟩,
    ⟨some 70, Op.move (Operand.tmp 5), none⟩,
    ⟨some 71, Op.indexAddr 76 (Operand.tmp 69) (Operand.tmp 70), none⟩,
    ⟨some 72, Op.load 75 (Operand.tmp 71), none⟩,
    ⟨some 73, Op.call { callee := Callee.builtin Builtin.len, args := #[Operand.tmp 72], argTypes := #[75] }, none⟩,
    ⟨some 74, Op.binOp BinOp.lss 3 (Operand.tmp 65) (Operand.tmp 73) 3, none⟩])
  (.cond (Operand.tmp 74)
  .skip
  (.exit 2)))
  (.seq (.block 3 (.seq (.draw [⟨some 77, Op.move (Operand.tmp 0), none⟩,
    ⟨some 78, Op.nilCheck (Operand.tmp 77), none⟩,
    ⟨some 79, Op.fieldAddr 78 (Operand.tmp 78) 1, none⟩,
    ⟨some 80, Op.load 76 (Operand.tmp 79), none⟩,
    ⟨some 81, Op.move (Operand.tmp 5), none⟩,
    ⟨some 82, Op.indexAddr 76 (Operand.tmp 80) (Operand.tmp 81), none⟩,
    ⟨some 83, Op.load 75 (Operand.tmp 82), none⟩,
    ⟨some 84, Op.move (Operand.tmp 6), none⟩,
    ⟨some 85, Op.indexAddr 75 (Operand.tmp 83) (Operand.tmp 84), none⟩,
    ⟨some 86, Op.load 33 (Operand.tmp 85), none⟩,
    ⟨some 87, Op.convert 33 9 (Operand.tmp 86), none⟩,
    ⟨some 88, Op.move (Operand.tmp 1), none⟩,
    ⟨some 89, Op.nilCheck (Operand.tmp 88), none⟩,
    ⟨some 90, Op.fieldAddr 78 (Operand.tmp 89) 1, none⟩,
    ⟨some 91, Op.load 76 (Operand.tmp 90), none⟩,
    ⟨some 92, Op.move (Operand.tmp 5), none⟩,
    ⟨some 93, Op.indexAddr 76 (Operand.tmp 91) (Operand.tmp 92), none⟩,
    ⟨some 94, Op.load 75 (Operand.tmp 93), none⟩,
    ⟨some 95, Op.move (Operand.tmp 6), none⟩,
    ⟨some 96, Op.indexAddr 75 (Operand.tmp 94) (Operand.tmp 95), none⟩,
    ⟨some 97, Op.load 33 (Operand.tmp 96), none⟩,
    ⟨some 98, Op.convert 33 9 (Operand.tmp 97), none⟩,
    ⟨some 99, Op.binOp BinOp.neq 9 (Operand.tmp 87) (Operand.tmp 98) 9, none⟩] [])
  (.cond (Operand.tmp 99)
  (.seq (.ops [⟨some 4, Op.assign (Operand.const (Value.bool false)), none⟩])
  .ret)
  .skip)))
  (.ops [⟨some 75, Op.move (Operand.tmp 6), none⟩,
    ⟨some 76, Op.binOp BinOp.add 3 (Operand.tmp 75) (Operand.const (Value.int IntKind.i64 1)) 3, none⟩,
    ⟨some 6, Op.assign (Operand.tmp 76), none⟩])))
def ir26_l1 : LC := (.seq (.seq (.ops [⟨some 39, Op.move (Operand.tmp 5), none⟩,
    ⟨some 40, Op.move (Operand.tmp 0), none⟩,
    ⟨some 41, Op.nilCheck (Operand.tmp 40), none⟩,
    ⟨some 42, Op.fieldAddr 78 (Operand.tmp 41) 1, none⟩,
    ⟨some 43, Op.load 76 (Operand.tmp 42), none⟩,
    ⟨some 44, Op.call { callee := Callee.builtin Builtin.len, args := #[Operand.tmp 43], argTypes := #[76] }, none⟩,
    ⟨some 45, Op.binOp BinOp.lss 3 (Operand.tmp 39) (Operand.tmp 44) 3, none⟩])
  (.cond (Operand.tmp 45)
  .skip
  (.exit 0)))
  (.seq (.block 1 (.seq (.seq (.draw [⟨some 48, Op.move (Operand.tmp 0), none⟩,
    ⟨some 49, Op.nilCheck (Operand.tmp 48), none⟩,
    ⟨some 50, Op.fieldAddr 78 (Operand.tmp 49) 1, none⟩,
    ⟨some 51, Op.load 76 (Operand.tmp 50), none⟩,
    ⟨some 52, Op.move (Operand.tmp 5), none⟩,
    ⟨some 53, Op.indexAddr 76 (Operand.tmp 51) (Operand.tmp 52), none⟩,
    ⟨some 54, Op.load 75 (Operand.tmp 53), none⟩,
    ⟨some 55, Op.call { callee := Callee.builtin Builtin.len, args := #[Operand.tmp 54], argTypes := #[75] }, none⟩,
    ⟨some 56, Op.move (Operand.tmp 1), none⟩,
    ⟨some 57, Op.nilCheck (Operand.tmp 56), none⟩,
    ⟨some 58, Op.fieldAddr 78 (Operand.tmp 57) 1, none⟩,
    ⟨some 59, Op.load 76 (Operand.tmp 58), none⟩,
    ⟨some 60, Op.move (Operand.tmp 5), none⟩,
    ⟨some 61, Op.indexAddr 76 (Operand.tmp 59) (Operand.tmp 60), none⟩,
    ⟨some 62, Op.load 75 (Operand.tmp 61), none⟩,
    ⟨some 63, Op.call { callee := Callee.builtin Builtin.len, args := #[Operand.tmp 62], argTypes := #[75] }, none⟩,
    ⟨some 64, Op.binOp BinOp.neq 3 (Operand.tmp 55) (Operand.tmp 63) 3, none⟩] [])
  (.cond (Operand.tmp 64)
  (.seq (.ops [⟨some 4, Op.assign (Operand.const (Value.bool false)), none⟩])
  .ret)
  .skip))
  (.seq (.ops [⟨some 6, Op.assign (Operand.const (Value.int IntKind.i64 0)), none⟩])
  (.block 2 (.loop ir26_l0)))))
  (.ops [⟨some 46, Op.move (Operand.tmp 5), none⟩,
    ⟨some 47, Op.binOp BinOp.add 3 (Operand.tmp 46) (Operand.const (Value.int IntKind.i64 1)) 3, none⟩,
    ⟨some 5, Op.assign (Operand.tmp 47), none⟩])))
def ir26 : LC := (.seq (.ops [⟨some 4, Op.assign (Operand.const (Value.bool false)), none⟩])
  (.seq (.seq (.ops [⟨some 7, Op.move (Operand.tmp 0), none⟩,
    ⟨some 8, Op.binOp BinOp.eql 45 (Operand.tmp 7) (Operand.const (Value.pointer none)) 45, none⟩,
    ⟨some 9, Op.move (Operand.tmp 8), none⟩,
    ⟨some 10, Op.move (Operand.tmp 1), some (9, false)⟩,
    ⟨some 11, Op.binOp BinOp.eql 45 (Operand.tmp 10) (Operand.const (Value.pointer none)) 45, some (9, false)⟩,
    ⟨some 12, Op.pick (Operand.tmp 9) (Operand.const (Value.bool true)) (Operand.tmp 11), none⟩])
  (.cond (Operand.tmp 12)
  (.seq (.ops [⟨some 13, Op.move (Operand.tmp 0), none⟩,
    ⟨some 14, Op.binOp BinOp.eql 45 (Operand.tmp 13) (Operand.const (Value.pointer none)) 45, none⟩,
    ⟨some 15, Op.move (Operand.tmp 14), none⟩,
    ⟨some 16, Op.move (Operand.tmp 1), some (15, true)⟩,
    ⟨some 17, Op.binOp BinOp.eql 45 (Operand.tmp 16) (Operand.const (Value.pointer none)) 45, some (15, true)⟩,
    ⟨some 18, Op.pick (Operand.tmp 15) (Operand.tmp 17) (Operand.const (Value.bool false)), none⟩,
    ⟨some 4, Op.assign (Operand.tmp 18), none⟩])
  .ret)
  .skip))
  (.seq (.seq (.draw [⟨some 19, Op.move (Operand.tmp 0), none⟩,
    ⟨some 20, Op.call { callee := Callee.value (Operand.func 36), args := #[Operand.tmp 19], argTypes := #[45] }, none⟩,
    ⟨some 21, Op.convert 33 9 (Operand.tmp 20), none⟩,
    ⟨some 22, Op.move (Operand.tmp 1), none⟩,
    ⟨some 23, Op.call { callee := Callee.value (Operand.func 36), args := #[Operand.tmp 22], argTypes := #[45] }, none⟩,
    ⟨some 24, Op.convert 33 9 (Operand.tmp 23), none⟩,
    ⟨some 25, Op.binOp BinOp.neq 9 (Operand.tmp 21) (Operand.tmp 24) 9, none⟩,
    ⟨some 26, Op.move (Operand.tmp 25), none⟩,
    ⟨some 27, Op.move (Operand.tmp 0), some (26, false)⟩,
    ⟨some 28, Op.nilCheck (Operand.tmp 27), some (26, false)⟩,
    ⟨some 29, Op.fieldAddr 78 (Operand.tmp 28) 0, some (26, false)⟩,
    ⟨some 30, Op.load 75 (Operand.tmp 29), some (26, false)⟩,
    ⟨some 31, Op.call { callee := Callee.builtin Builtin.len, args := #[Operand.tmp 30], argTypes := #[75] }, some (26, false)⟩,
    ⟨some 32, Op.move (Operand.tmp 1), some (26, false)⟩,
    ⟨some 33, Op.nilCheck (Operand.tmp 32), some (26, false)⟩,
    ⟨some 34, Op.fieldAddr 78 (Operand.tmp 33) 0, some (26, false)⟩,
    ⟨some 35, Op.load 75 (Operand.tmp 34), some (26, false)⟩,
    ⟨some 36, Op.call { callee := Callee.builtin Builtin.len, args := #[Operand.tmp 35], argTypes := #[75] }, some (26, false)⟩,
    ⟨some 37, Op.binOp BinOp.neq 3 (Operand.tmp 31) (Operand.tmp 36) 3, some (26, false)⟩,
    ⟨some 38, Op.pick (Operand.tmp 26) (Operand.const (Value.bool true)) (Operand.tmp 37), none⟩] [(1, 3), (2, 4)])
  (.cond (Operand.tmp 38)
  (.seq (.ops [⟨some 4, Op.assign (Operand.const (Value.bool false)), none⟩])
  .ret)
  .skip))
  (.seq (.seq (.ops [⟨some 5, Op.assign (Operand.const (Value.int IntKind.i64 0)), none⟩])
  (.block 0 (.loop ir26_l1)))
  (.seq (.ops [⟨some 4, Op.assign (Operand.const (Value.bool true)), none⟩])
  .ret)))))
theorem ir26_eq : (Try.f26.body.map low, Try.f26.ntmps, Try.f26.results.toList) = (some ir26, 100, [.tmp 4]) := by kernel_rfl
def ir36_l0 : LC := (.seq (.seq (.ops [⟨some 7, Op.move (Operand.tmp 4), none⟩,
    ⟨some 8, Op.move (Operand.tmp 0), none⟩,
    ⟨some 9, Op.nilCheck (Operand.tmp 8), none⟩,
    ⟨some 10, Op.fieldAddr 78 (Operand.tmp 9) 0, none⟩,
    ⟨some 11, Op.load 75 (Operand.tmp 10), none⟩,
    ⟨some 12, Op.call { callee := Callee.builtin Builtin.len, args := #[Operand.tmp 11], argTypes := #[75] }, none⟩,
    ⟨some 13, Op.binOp BinOp.lss 3 (Operand.tmp 7) (Operand.tmp 12) 3, none⟩])
  (.cond (Operand.tmp 13)
  .skip
  (.exit 0)))
  (.seq (.block 1 (.ops [⟨some 16, Op.move (Operand.tmp 3), none⟩,
    ⟨some 17, Op.move (Operand.tmp 0), none⟩,
    ⟨some 18, Op.nilCheck (Operand.tmp 17), none⟩,
    ⟨some 19, Op.fieldAddr 78 (Operand.tmp 18) 0, none⟩,
    ⟨some 20, Op.load 75 (Operand.tmp 19), none⟩,
    ⟨some 21, Op.move (Operand.tmp 4), none⟩,
    ⟨some 22, Op.indexAddr 75 (Operand.tmp 20) (Operand.tmp 21), none⟩,
    ⟨some 23, Op.load 33 (Operand.tmp 22), none⟩,
    ⟨some 24, Op.call { callee := Callee.builtin Builtin.append, args := #[Operand.tmp 16, Operand.tmp 23], argTypes := #[33, 33] }, none⟩,
    ⟨some 3, Op.assign (Operand.tmp 24), none⟩]))
  (.ops [⟨some 14, Op.move (Operand.tmp 4), none⟩,
    ⟨some 15, Op.binOp BinOp.add 3 (Operand.tmp 14) (Operand.const (Value.int IntKind.i64 1)) 3, none⟩,
    ⟨some 4, Op.assign (Operand.tmp 15), none⟩])))
def ir36 : LC := (.seq (.ops [⟨some 2, Op.assign (Operand.const (Value.slice none 0 0)), none⟩])
  (.seq (.seq (.ops [⟨some 5, Op.move (Operand.tmp 0), none⟩,
    ⟨some 6, Op.binOp BinOp.eql 45 (Operand.tmp 5) (Operand.const (Value.pointer none)) 45, none⟩])
  (.cond (Operand.tmp 6)
  (.seq (.ops [⟨some 2, Op.assign (Operand.const (Value.slice none 0 0)), none⟩])
  .ret)
  .skip))
  (.seq (.ops [⟨some 3, Op.assign (Operand.const (Value.slice none 0 0)), none⟩])
  (.seq (.seq (.ops [⟨some 4, Op.assign (Operand.const (Value.int IntKind.i64 0)), none⟩])
  (.block 0 (.loop ir36_l0)))
  (.seq (.ops [⟨some 25, Op.move (Operand.tmp 3), none⟩,
    ⟨some 2, Op.assign (Operand.tmp 25), none⟩])
  .ret)))))
theorem ir36_eq : (Try.f36.body.map low, Try.f36.ntmps, Try.f36.results.toList) = (some ir36, 26, [.tmp 2]) := by kernel_rfl
def ir37 : LC := (.seq (.ops [⟨some 2, Op.assign (Operand.const (Value.int IntKind.i64 0)), none⟩])
  (.seq (.seq (.ops [⟨some 3, Op.move (Operand.tmp 0), none⟩,
    ⟨some 4, Op.call { callee := Callee.value (Operand.func 29), args := #[Operand.tmp 3], argTypes := #[26] }, none⟩,
    ⟨some 5, Op.unOp UnOp.not 4 (Operand.tmp 4), none⟩])
  (.cond (Operand.tmp 5)
  (.seq (.ops [⟨some 2, Op.assign (Operand.const (Value.int IntKind.i64 0)), none⟩])
  .ret)
  .skip))
  (.seq (.ops [⟨some 6, Op.move (Operand.tmp 0), none⟩,
    ⟨some 7, Op.nilCheck (Operand.tmp 6), none⟩,
    ⟨some 8, Op.fieldAddr 54 (Operand.tmp 7) 2, none⟩,
    ⟨some 9, Op.load 2 (Operand.tmp 8), none⟩,
    ⟨some 2, Op.assign (Operand.tmp 9), none⟩])
  .ret)))
theorem ir37_eq : (Try.f37.body.map low, Try.f37.ntmps, Try.f37.results.toList) = (some ir37, 10, [.tmp 2]) := by kernel_rfl
def ir39 : LC := (.seq (.ops [⟨some 4, Op.assign (Operand.const (Value.slice none 0 0)), none⟩,
    ⟨some 5, Op.assign (Operand.const (Value.int IntKind.i64 0)), none⟩])
  (.seq (.seq (.ops [⟨some 6, Op.move (Operand.tmp 0), none⟩,
    ⟨some 7, Op.binOp BinOp.eql 45 (Operand.tmp 6) (Operand.const (Value.pointer none)) 45, none⟩])
  (.cond (Operand.tmp 7)
  (.seq (.ops [⟨some 4, Op.assign (Operand.const (Value.slice none 0 0)), none⟩,
    ⟨some 5, Op.assign (Operand.const (Value.int IntKind.i64 1)), none⟩])
  .ret)
  .skip))
  (.seq (.seq (.ops [⟨some 8, Op.move (Operand.tmp 0), none⟩,
    ⟨some 9, Op.move (Operand.tmp 1), none⟩,
    ⟨some 10, Op.call { callee := Callee.value (Operand.func 45), args := #[Operand.tmp 8, Operand.tmp 9], argTypes := #[45, 3] }, none⟩,
    ⟨some 11, Op.unOp UnOp.not 4 (Operand.tmp 10), none⟩])
  (.cond (Operand.tmp 11)
  (.seq (.ops [⟨some 4, Op.assign (Operand.const (Value.slice none 0 0)), none⟩,
    ⟨some 5, Op.assign (Operand.const (Value.int IntKind.i64 2)), none⟩])
  .ret)
  .skip))
  (.seq (.ops [⟨some 12, Op.move (Operand.tmp 0), none⟩,
    ⟨some 13, Op.move (Operand.tmp 1), none⟩,
    ⟨some 14, Op.call { callee := Callee.value (Operand.func 46), args := #[Operand.tmp 12, Operand.tmp 13], argTypes := #[45, 3] }, none⟩,
    ⟨some 4, Op.assign (Operand.tmp 14), none⟩,
    ⟨some 5, Op.assign (Operand.const (Value.int IntKind.i64 0)), none⟩])
  .ret))))
theorem ir39_eq : (Try.f39.body.map low, Try.f39.ntmps, Try.f39.results.toList) = (some ir39, 15, [.tmp 4, .tmp 5]) := by kernel_rfl
def ir40 : LC := (.seq (.ops [⟨some 1, Op.box 26 (Operand.tmp 0), none⟩,
    ⟨some 2, Op.assign (Operand.const Value.nilFunc), none⟩])
  (.seq (.ops [⟨some 3, Op.makeFunc (Fn.func 47) #[] #[Operand.tmp 1], none⟩,
    ⟨some 2, Op.assign (Operand.tmp 3), none⟩])
  .ret))
theorem ir40_eq : (Try.f40.body.map low, Try.f40.ntmps, Try.f40.results.toList) = (some ir40, 4, [.tmp 2]) := by kernel_rfl
noncomputable def rc41 (i : Nat) : Code × Code := (((Try.f41.body.map rangesOf).getD [])[i]?).getD (.skip, .skip)
noncomputable def ir41_a0 : LC := (.seq (.ops [⟨some 4, Op.assign (Operand.tmp 26), none⟩])
  (.ops [⟨some 5, Op.assign (Operand.tmp 27), none⟩]))
noncomputable def ir41_b0 : LC := (.block 1 (.draw [⟨some 28, Op.load 26 (Operand.tmp 3), none⟩,
    ⟨some 29, Op.nilCheck (Operand.tmp 28), none⟩,
    ⟨some 30, Op.fieldAddr 54 (Operand.tmp 29) 1, none⟩,
    ⟨some 31, Op.load 52 (Operand.tmp 30), none⟩,
    ⟨some 32, Op.move (Operand.tmp 4), none⟩,
    ⟨some 33, Op.move (Operand.tmp 5), none⟩,
    ⟨some 34, Op.call { callee := Callee.value (Operand.func 31), args := #[Operand.tmp 33], argTypes := #[51] }, none⟩,
    ⟨none, Op.mapUpdate 52 (Operand.tmp 31) (Operand.tmp 32) (Operand.tmp 34), none⟩] [(0, 6), (1, 6), (2, 6), (3, 6), (4, 6)]))
theorem ir41_a0_eq : low (rc41 0).1 = ir41_a0 := by kernel_rfl
theorem ir41_b0_eq : low (rc41 0).2 = ir41_b0 := by kernel_rfl
noncomputable def ir41 : LC := (.seq (.ops [⟨some 2, Op.assign (Operand.const (Value.pointer none)), none⟩])
  (.seq (.seq (.ops [⟨some 6, Op.move (Operand.tmp 0), none⟩,
    ⟨some 7, Op.call { callee := Callee.value (Operand.func 29), args := #[Operand.tmp 6], argTypes := #[26] }, none⟩,
    ⟨some 8, Op.unOp UnOp.not 4 (Operand.tmp 7), none⟩])
  (.cond (Operand.tmp 8)
  (.seq (.ops [⟨some 2, Op.assign (Operand.const (Value.pointer none)), none⟩])
  .ret)
  .skip))
  (.seq (.draw [⟨some 9, Op.move (Operand.tmp 0), none⟩,
    ⟨some 10, Op.nilCheck (Operand.tmp 9), none⟩,
    ⟨some 11, Op.fieldAddr 54 (Operand.tmp 10) 0, none⟩,
    ⟨some 12, Op.load 51 (Operand.tmp 11), none⟩,
    ⟨some 13, Op.call { callee := Callee.value (Operand.func 31), args := #[Operand.tmp 12], argTypes := #[51] }, none⟩,
    ⟨some 14, Op.makeMap 52 none, none⟩,
    ⟨some 15, Op.move (Operand.tmp 0), none⟩,
    ⟨some 16, Op.nilCheck (Operand.tmp 15), none⟩,
    ⟨some 17, Op.fieldAddr 54 (Operand.tmp 16) 2, none⟩,
    ⟨some 18, Op.load 2 (Operand.tmp 17), none⟩,
    ⟨some 19, Op.build 54 #[(0, Operand.tmp 13), (1, Operand.tmp 14), (2, Operand.tmp 18)], none⟩,
    ⟨some 20, Op.box 54 (Operand.tmp 19), none⟩,
    ⟨some 3, Op.alloc 26, none⟩,
    ⟨none, Op.store 26 (Operand.tmp 3) (Operand.tmp 20), none⟩] [(0, 5), (1, 5), (2, 5), (3, 5), (4, 5), (4, 6), (5, 6), (4, 7), (5, 7), (4, 8), (5, 8), (4, 9), (5, 9), (0, 12), (1, 12), (2, 12), (3, 12), (4, 12), (5, 12), (6, 12), (7, 12), (8, 12), (9, 12), (10, 12), (11, 12)])
  (.seq (.seq (.ops [⟨some 21, Op.move (Operand.tmp 0), none⟩,
    ⟨some 22, Op.nilCheck (Operand.tmp 21), none⟩,
    ⟨some 23, Op.fieldAddr 54 (Operand.tmp 22) 1, none⟩,
    ⟨some 24, Op.load 52 (Operand.tmp 23), none⟩,
    ⟨some 25, Op.call { callee := Callee.value (Operand.func 50), args := #[Operand.tmp 24], argTypes := #[52] }, none⟩])
  (.block 0 (.range (Operand.tmp 25) #[26, 27] (rc41 0).1 (rc41 0).2)))
  (.seq (.ops [⟨some 35, Op.load 26 (Operand.tmp 3), none⟩,
    ⟨some 2, Op.assign (Operand.tmp 35), none⟩])
  .ret)))))
theorem ir41_eq : (Try.f41.body.map low, Try.f41.ntmps, Try.f41.results.toList) = (some ir41, 36, [.tmp 2]) := by kernel_rfl
def ir42 : LC := (.seq (.ops [⟨some 6, Op.assign (Operand.const (Value.int IntKind.i64 0)), none⟩])
  (.seq (.seq (.ops [⟨some 7, Op.move (Operand.tmp 0), none⟩,
    ⟨some 8, Op.binOp BinOp.eql 45 (Operand.tmp 7) (Operand.const (Value.pointer none)) 45, none⟩])
  (.cond (Operand.tmp 8)
  (.seq (.ops [⟨some 6, Op.assign (Operand.const (Value.int IntKind.i64 1)), none⟩])
  .ret)
  .skip))
  (.seq (.seq (.ops [⟨some 9, Op.move (Operand.tmp 0), none⟩,
    ⟨some 10, Op.move (Operand.tmp 1), none⟩,
    ⟨some 11, Op.call { callee := Callee.value (Operand.func 45), args := #[Operand.tmp 9, Operand.tmp 10], argTypes := #[45, 3] }, none⟩,
    ⟨some 12, Op.unOp UnOp.not 4 (Operand.tmp 11), none⟩,
    ⟨some 13, Op.move (Operand.tmp 12), none⟩,
    ⟨some 14, Op.move (Operand.tmp 2), some (13, false)⟩,
    ⟨some 15, Op.call { callee := Callee.builtin Builtin.len, args := #[Operand.tmp 14], argTypes := #[33] }, some (13, false)⟩,
    ⟨some 16, Op.binOp BinOp.neq 3 (Operand.tmp 15) (Operand.const (Value.int IntKind.i64 128)) 3, some (13, false)⟩,
    ⟨some 17, Op.pick (Operand.tmp 13) (Operand.const (Value.bool true)) (Operand.tmp 16), none⟩])
  (.cond (Operand.tmp 17)
  (.seq (.ops [⟨some 6, Op.assign (Operand.const (Value.int IntKind.i64 2)), none⟩])
  .ret)
  .skip))
  (.seq (.draw [⟨some 18, Op.move (Operand.tmp 0), none⟩,
    ⟨some 19, Op.nilCheck (Operand.tmp 18), none⟩,
    ⟨some 20, Op.fieldAddr 78 (Operand.tmp 19) 1, none⟩,
    ⟨some 21, Op.load 76 (Operand.tmp 20), none⟩,
    ⟨some 22, Op.move (Operand.tmp 1), none⟩,
    ⟨some 23, Op.move (Operand.tmp 0), none⟩,
    ⟨some 24, Op.nilCheck (Operand.tmp 23), none⟩,
    ⟨some 25, Op.fieldAddr 78 (Operand.tmp 24) 1, none⟩,
    ⟨some 26, Op.load 76 (Operand.tmp 25), none⟩,
    ⟨some 27, Op.move (Operand.tmp 1), none⟩,
    ⟨some 28, Op.indexAddr 76 (Operand.tmp 26) (Operand.tmp 27), none⟩,
    ⟨some 29, Op.load 75 (Operand.tmp 28), none⟩,
    ⟨some 30, Op.call { callee := Callee.builtin Builtin.append, args := #[Operand.const (Value.slice none 0 0), Operand.tmp 29], argTypes := #[75, 75] }, none⟩,
    ⟨some 31, Op.move (Operand.tmp 2), none⟩,
    ⟨some 32, Op.call { callee := Callee.builtin Builtin.append, args := #[Operand.const (Value.slice none 0 0), Operand.tmp 31], argTypes := #[33, 33] }, none⟩,
    ⟨some 33, Op.buildSlice 75 1 #[(0, Operand.tmp 32)], none⟩,
    ⟨some 34, Op.call { callee := Callee.builtin Builtin.append, args := #[Operand.tmp 30, Operand.tmp 33], argTypes := #[75, 75] }, none⟩,
    ⟨some 35, Op.indexAddr 76 (Operand.tmp 21) (Operand.tmp 22), none⟩,
    ⟨none, Op.store 75 (Operand.tmp 35) (Operand.tmp 34), none⟩] [(0, 12), (1, 12), (2, 12), (3, 12), (4, 12), (12, 13), (0, 14), (1, 14), (2, 14), (3, 14), (4, 14), (0, 15), (1, 15), (2, 15), (3, 15), (4, 15), (0, 16), (1, 16), (2, 16), (3, 16), (4, 16)])
  (.seq (.ops [⟨some 36, Op.move (Operand.tmp 0), none⟩,
    ⟨some 37, Op.nilCheck (Operand.tmp 36), none⟩,
    ⟨some 38, Op.fieldAddr 78 (Operand.tmp 37) 2, none⟩,
    ⟨some 39, Op.load 2 (Operand.tmp 38), none⟩,
    ⟨some 40, Op.binOp BinOp.add 2 (Operand.tmp 39) (Operand.const (Value.int IntKind.i64 1)) 2, none⟩,
    ⟨some 41, Op.nilCheck (Operand.tmp 36), none⟩,
    ⟨some 42, Op.fieldAddr 78 (Operand.tmp 41) 2, none⟩,
    ⟨none, Op.store 2 (Operand.tmp 42) (Operand.tmp 40), none⟩])
  (.seq (.ops [⟨some 6, Op.assign (Operand.const (Value.int IntKind.i64 0)), none⟩])
  .ret))))))
theorem ir42_eq : (Try.f42.body.map low, Try.f42.ntmps, Try.f42.results.toList) = (some ir42, 43, [.tmp 6]) := by kernel_rfl
def ir43_l0 : LC := (.seq (.seq (.ops [⟨some 37, Op.move (Operand.tmp 7), none⟩,
    ⟨some 38, Op.move (Operand.tmp 1), none⟩,
    ⟨some 39, Op.move (Operand.tmp 2), none⟩,
    ⟨some 40, Op.binOp BinOp.add 3 (Operand.tmp 38) (Operand.tmp 39) 3, none⟩,
    ⟨some 41, Op.binOp BinOp.lss 3 (Operand.tmp 37) (Operand.tmp 40) 3, none⟩])
  (.cond (Operand.tmp 41)
  .skip
  (.exit 0)))
  (.seq (.block 1 (.seq (.draw [⟨some 44, Op.move (Operand.tmp 0), none⟩,
    ⟨some 45, Op.nilCheck (Operand.tmp 44), none⟩,
    ⟨some 46, Op.fieldAddr 78 (Operand.tmp 45) 0, none⟩,
    ⟨some 47, Op.load 75 (Operand.tmp 46), none⟩,
    ⟨some 48, Op.move (Operand.tmp 7), none⟩,
    ⟨some 49, Op.move (Operand.tmp 0), none⟩,
    ⟨some 50, Op.move (Operand.tmp 7), none⟩,
    ⟨some 51, Op.call { callee := Callee.value (Operand.func 46), args := #[Operand.tmp 49, Operand.tmp 50], argTypes := #[45, 3] }, none⟩,
    ⟨some 52, Op.call { callee := Callee.builtin Builtin.append, args := #[Operand.const (Value.slice none 0 0), Operand.tmp 51], argTypes := #[33, 33] }, none⟩,
    ⟨some 53, Op.indexAddr 75 (Operand.tmp 47) (Operand.tmp 48), none⟩,
    ⟨none, Op.store 33 (Operand.tmp 53) (Operand.tmp 52), none⟩] [(0, 7), (1, 7), (2, 7), (3, 7), (4, 7), (0, 8), (1, 8), (2, 8), (3, 8), (4, 8)])
  (.ops [⟨some 54, Op.move (Operand.tmp 0), none⟩,
    ⟨some 55, Op.nilCheck (Operand.tmp 54), none⟩,
    ⟨some 56, Op.fieldAddr 78 (Operand.tmp 55) 1, none⟩,
    ⟨some 57, Op.load 76 (Operand.tmp 56), none⟩,
    ⟨some 58, Op.move (Operand.tmp 7), none⟩,
    ⟨some 59, Op.indexAddr 76 (Operand.tmp 57) (Operand.tmp 58), none⟩,
    ⟨none, Op.store 75 (Operand.tmp 59) (Operand.const (Value.slice none 0 0)), none⟩])))
  (.ops [⟨some 42, Op.move (Operand.tmp 7), none⟩,
    ⟨some 43, Op.binOp BinOp.add 3 (Operand.tmp 42) (Operand.const (Value.int IntKind.i64 1)) 3, none⟩,
    ⟨some 7, Op.assign (Operand.tmp 43), none⟩])))
def ir43 : LC := (.seq (.ops [⟨some 6, Op.assign (Operand.const (Value.int IntKind.i64 0)), none⟩])
  (.seq (.seq (.ops [⟨some 8, Op.move (Operand.tmp 0), none⟩,
    ⟨some 9, Op.binOp BinOp.eql 45 (Operand.tmp 8) (Operand.const (Value.pointer none)) 45, none⟩])
  (.cond (Operand.tmp 9)
  (.seq (.ops [⟨some 6, Op.assign (Operand.const (Value.int IntKind.i64 1)), none⟩])
  .ret)
  .skip))
  (.seq (.seq (.ops [⟨some 10, Op.move (Operand.tmp 2), none⟩,
    ⟨some 11, Op.binOp BinOp.lss 3 (Operand.tmp 10) (Operand.const (Value.int IntKind.i64 0)) 3, none⟩,
    ⟨some 12, Op.move (Operand.tmp 11), none⟩,
    ⟨some 13, Op.move (Operand.tmp 1), some (12, false)⟩,
    ⟨some 14, Op.binOp BinOp.lss 3 (Operand.tmp 13) (Operand.const (Value.int IntKind.i64 0)) 3, some (12, false)⟩,
    ⟨some 15, Op.pick (Operand.tmp 12) (Operand.const (Value.bool true)) (Operand.tmp 14), none⟩,
    ⟨some 16, Op.move (Operand.tmp 15), none⟩,
    ⟨some 17, Op.move (Operand.tmp 1), some (16, false)⟩,
    ⟨some 18, Op.move (Operand.tmp 0), some (16, false)⟩,
    ⟨some 19, Op.nilCheck (Operand.tmp 18), some (16, false)⟩,
    ⟨some 20, Op.fieldAddr 78 (Operand.tmp 19) 0, some (16, false)⟩,
    ⟨some 21, Op.load 75 (Operand.tmp 20), some (16, false)⟩,
    ⟨some 22, Op.call { callee := Callee.builtin Builtin.len, args := #[Operand.tmp 21], argTypes := #[75] }, some (16, false)⟩,
    ⟨some 23, Op.binOp BinOp.gtr 3 (Operand.tmp 17) (Operand.tmp 22) 3, some (16, false)⟩,
    ⟨some 24, Op.pick (Operand.tmp 16) (Operand.const (Value.bool true)) (Operand.tmp 23), none⟩,
    ⟨some 25, Op.move (Operand.tmp 24), none⟩,
    ⟨some 26, Op.move (Operand.tmp 2), some (25, false)⟩,
    ⟨some 27, Op.move (Operand.tmp 0), some (25, false)⟩,
    ⟨some 28, Op.nilCheck (Operand.tmp 27), some (25, false)⟩,
    ⟨some 29, Op.fieldAddr 78 (Operand.tmp 28) 0, some (25, false)⟩,
    ⟨some 30, Op.load 75 (Operand.tmp 29), some (25, false)⟩,
    ⟨some 31, Op.call { callee := Callee.builtin Builtin.len, args := #[Operand.tmp 30], argTypes := #[75] }, some (25, false)⟩,
    ⟨some 32, Op.move (Operand.tmp 1), some (25, false)⟩,
    ⟨some 33, Op.binOp BinOp.sub 3 (Operand.tmp 31) (Operand.tmp 32) 3, some (25, false)⟩,
    ⟨some 34, Op.binOp BinOp.gtr 3 (Operand.tmp 26) (Operand.tmp 33) 3, some (25, false)⟩,
    ⟨some 35, Op.pick (Operand.tmp 25) (Operand.const (Value.bool true)) (Operand.tmp 34), none⟩])
  (.cond (Operand.tmp 35)
  (.seq (.ops [⟨some 6, Op.assign (Operand.const (Value.int IntKind.i64 2)), none⟩])
  .ret)
  .skip))
  (.seq (.seq (.ops [⟨some 36, Op.move (Operand.tmp 1), none⟩,
    ⟨some 7, Op.assign (Operand.tmp 36), none⟩])
  (.block 0 (.loop ir43_l0)))
  (.seq (.ops [⟨some 6, Op.assign (Operand.const (Value.int IntKind.i64 0)), none⟩])
  .ret)))))
theorem ir43_eq : (Try.f43.body.map low, Try.f43.ntmps, Try.f43.results.toList) = (some ir43, 60, [.tmp 6]) := by kernel_rfl
def ir44_l0 : LC := (.seq (.seq (.ops [⟨some 48, Op.move (Operand.tmp 9), none⟩,
    ⟨some 49, Op.move (Operand.tmp 7), none⟩,
    ⟨some 50, Op.binOp BinOp.lss 3 (Operand.tmp 48) (Operand.tmp 49) 3, none⟩])
  (.cond (Operand.tmp 50)
  .skip
  (.exit 2)))
  (.seq (.block 3 (.seq (.draw [⟨some 53, Op.move (Operand.tmp 1), none⟩,
    ⟨some 54, Op.move (Operand.tmp 9), none⟩,
    ⟨some 55, Op.indexAddr 23 (Operand.tmp 53) (Operand.tmp 54), none⟩,
    ⟨some 56, Op.fieldAddr 63 (Operand.tmp 55) 0, none⟩,
    ⟨some 57, Op.load 3 (Operand.tmp 56), none⟩,
    ⟨some 58, Op.fieldAddr 63 (Operand.tmp 8) 0, none⟩,
    ⟨some 59, Op.load 3 (Operand.tmp 58), none⟩,
    ⟨some 60, Op.binOp BinOp.eql 3 (Operand.tmp 57) (Operand.tmp 59) 3, none⟩] [])
  (.cond (Operand.tmp 60)
  (.seq (.ops [⟨some 4, Op.assign (Operand.const (Value.pointer none)), none⟩,
    ⟨some 5, Op.assign (Operand.const (Value.int IntKind.i64 2)), none⟩])
  .ret)
  .skip)))
  (.ops [⟨some 51, Op.move (Operand.tmp 9), none⟩,
    ⟨some 52, Op.binOp BinOp.add 3 (Operand.tmp 51) (Operand.const (Value.int IntKind.i64 1)) 3, none⟩,
    ⟨some 9, Op.assign (Operand.tmp 52), none⟩])))
def ir44_l1 : LC := (.seq (.seq (.ops [⟨some 14, Op.move (Operand.tmp 7), none⟩,
    ⟨some 15, Op.move (Operand.tmp 1), none⟩,
    ⟨some 16, Op.call { callee := Callee.builtin Builtin.len, args := #[Operand.tmp 15], argTypes := #[23] }, none⟩,
    ⟨some 17, Op.binOp BinOp.lss 3 (Operand.tmp 14) (Operand.tmp 16) 3, none⟩])
  (.cond (Operand.tmp 17)
  .skip
  (.exit 0)))
  (.seq (.block 1 (.seq (.ops [⟨some 20, Op.move (Operand.tmp 1), none⟩,
    ⟨some 21, Op.move (Operand.tmp 7), none⟩,
    ⟨some 22, Op.indexAddr 23 (Operand.tmp 20) (Operand.tmp 21), none⟩,
    ⟨some 23, Op.load 63 (Operand.tmp 22), none⟩,
    ⟨some 8, Op.alloc 63, none⟩,
    ⟨none, Op.store 63 (Operand.tmp 8) (Operand.tmp 23), none⟩])
  (.seq (.seq (.draw [⟨some 24, Op.move (Operand.tmp 0), none⟩,
    ⟨some 25, Op.fieldAddr 63 (Operand.tmp 8) 0, none⟩,
    ⟨some 26, Op.load 3 (Operand.tmp 25), none⟩,
    ⟨some 27, Op.call { callee := Callee.value (Operand.func 45), args := #[Operand.tmp 24, Operand.tmp 26], argTypes := #[45, 3] }, none⟩,
    ⟨some 28, Op.unOp UnOp.not 4 (Operand.tmp 27), none⟩,
    ⟨some 29, Op.move (Operand.tmp 28), none⟩,
    ⟨some 30, Op.fieldAddr 63 (Operand.tmp 8) 1, some (29, false)⟩,
    ⟨some 31, Op.load 3 (Operand.tmp 30), some (29, false)⟩,
    ⟨some 32, Op.binOp BinOp.lss 3 (Operand.tmp 31) (Operand.const (Value.int IntKind.i64 0)) 3, some (29, false)⟩,
    ⟨some 33, Op.pick (Operand.tmp 29) (Operand.const (Value.bool true)) (Operand.tmp 32), none⟩,
    ⟨some 34, Op.move (Operand.tmp 33), none⟩,
    ⟨some 35, Op.fieldAddr 63 (Operand.tmp 8) 1, some (34, false)⟩,
    ⟨some 36, Op.load 3 (Operand.tmp 35), some (34, false)⟩,
    ⟨some 37, Op.move (Operand.tmp 0), some (34, false)⟩,
    ⟨some 38, Op.nilCheck (Operand.tmp 37), some (34, false)⟩,
    ⟨some 39, Op.fieldAddr 78 (Operand.tmp 38) 1, some (34, false)⟩,
    ⟨some 40, Op.load 76 (Operand.tmp 39), some (34, false)⟩,
    ⟨some 41, Op.fieldAddr 63 (Operand.tmp 8) 0, some (34, false)⟩,
    ⟨some 42, Op.load 3 (Operand.tmp 41), some (34, false)⟩,
    ⟨some 43, Op.indexAddr 76 (Operand.tmp 40) (Operand.tmp 42), some (34, false)⟩,
    ⟨some 44, Op.load 75 (Operand.tmp 43), some (34, false)⟩,
    ⟨some 45, Op.call { callee := Callee.builtin Builtin.len, args := #[Operand.tmp 44], argTypes := #[75] }, some (34, false)⟩,
    ⟨some 46, Op.binOp BinOp.gtr 3 (Operand.tmp 36) (Operand.tmp 45) 3, some (34, false)⟩,
    ⟨some 47, Op.pick (Operand.tmp 34) (Operand.const (Value.bool true)) (Operand.tmp 46), none⟩] [])
  (.cond (Operand.tmp 47)
  (.seq (.ops [⟨some 4, Op.assign (Operand.const (Value.pointer none)), none⟩,
    ⟨some 5, Op.assign (Operand.const (Value.int IntKind.i64 2)), none⟩])
  .ret)
  .skip))
  (.seq (.seq (.ops [⟨some 9, Op.assign (Operand.const (Value.int IntKind.i64 0)), none⟩])
  (.block 2 (.loop ir44_l0)))
  (.seq (.ops [⟨some 61, Op.fieldAddr 63 (Operand.tmp 8) 1, none⟩,
    ⟨some 62, Op.load 3 (Operand.tmp 61), none⟩,
    ⟨some 63, Op.binOp BinOp.gtr 3 (Operand.tmp 62) (Operand.const (Value.int IntKind.i64 0)) 3, none⟩])
  (.cond (Operand.tmp 63)
  (.draw [⟨some 64, Op.move (Operand.tmp 6), none⟩,
    ⟨some 65, Op.nilCheck (Operand.tmp 64), none⟩,
    ⟨some 66, Op.fieldAddr 78 (Operand.tmp 65) 0, none⟩,
    ⟨some 67, Op.load 75 (Operand.tmp 66), none⟩,
    ⟨some 68, Op.fieldAddr 63 (Operand.tmp 8) 0, none⟩,
    ⟨some 69, Op.load 3 (Operand.tmp 68), none⟩,
    ⟨some 70, Op.move (Operand.tmp 0), none⟩,
    ⟨some 71, Op.nilCheck (Operand.tmp 70), none⟩,
    ⟨some 72, Op.fieldAddr 78 (Operand.tmp 71) 1, none⟩,
    ⟨some 73, Op.load 76 (Operand.tmp 72), none⟩,
    ⟨some 74, Op.fieldAddr 63 (Operand.tmp 8) 0, none⟩,
    ⟨some 75, Op.load 3 (Operand.tmp 74), none⟩,
    ⟨some 76, Op.indexAddr 76 (Operand.tmp 73) (Operand.tmp 75), none⟩,
    ⟨some 77, Op.load 75 (Operand.tmp 76), none⟩,
    ⟨some 78, Op.fieldAddr 63 (Operand.tmp 8) 1, none⟩,
    ⟨some 79, Op.load 3 (Operand.tmp 78), none⟩,
    ⟨some 80, Op.binOp BinOp.sub 3 (Operand.tmp 79) (Operand.const (Value.int IntKind.i64 1)) 3, none⟩,
    ⟨some 81, Op.indexAddr 75 (Operand.tmp 77) (Operand.tmp 80), none⟩,
    ⟨some 82, Op.load 33 (Operand.tmp 81), none⟩,
    ⟨some 83, Op.indexAddr 75 (Operand.tmp 67) (Operand.tmp 69), none⟩,
    ⟨none, Op.store 33 (Operand.tmp 83) (Operand.tmp 82), none⟩] [])
  .skip))))))
  (.ops [⟨some 18, Op.move (Operand.tmp 7), none⟩,
    ⟨some 19, Op.binOp BinOp.add 3 (Operand.tmp 18) (Operand.const (Value.int IntKind.i64 1)) 3, none⟩,
    ⟨some 7, Op.assign (Operand.tmp 19), none⟩])))
def ir44 : LC := (.seq (.ops [⟨some 4, Op.assign (Operand.const (Value.pointer none)), none⟩,
    ⟨some 5, Op.assign (Operand.const (Value.int IntKind.i64 0)), none⟩])
  (.seq (.seq (.ops [⟨some 10, Op.move (Operand.tmp 0), none⟩,
    ⟨some 11, Op.binOp BinOp.eql 45 (Operand.tmp 10) (Operand.const (Value.pointer none)) 45, none⟩])
  (.cond (Operand.tmp 11)
  (.seq (.ops [⟨some 4, Op.assign (Operand.const (Value.pointer none)), none⟩,
    ⟨some 5, Op.assign (Operand.const (Value.int IntKind.i64 1)), none⟩])
  .ret)
  .skip))
  (.seq (.ops [⟨some 12, Op.move (Operand.tmp 0), none⟩,
    ⟨some 13, Op.call { callee := Callee.value (Operand.func 51), args := #[Operand.tmp 12], argTypes := #[45] }, none⟩,
    ⟨some 6, Op.assign (Operand.tmp 13), none⟩])
  (.seq (.seq (.ops [⟨some 7, Op.assign (Operand.const (Value.int IntKind.i64 0)), none⟩])
  (.block 0 (.loop ir44_l1)))
  (.seq (.ops [⟨some 84, Op.move (Operand.tmp 6), none⟩,
    ⟨some 85, Op.move (Operand.tmp 6), none⟩,
    ⟨some 86, Op.nilCheck (Operand.tmp 85), none⟩,
    ⟨some 87, Op.fieldAddr 78 (Operand.tmp 86) 0, none⟩,
    ⟨some 88, Op.load 75 (Operand.tmp 87), none⟩,
    ⟨some 89, Op.call { callee := Callee.builtin Builtin.len, args := #[Operand.tmp 88], argTypes := #[75] }, none⟩,
    ⟨some 90, Op.makeSlice 76 (Operand.tmp 89) (Operand.tmp 89), none⟩,
    ⟨some 91, Op.nilCheck (Operand.tmp 84), none⟩,
    ⟨some 92, Op.fieldAddr 78 (Operand.tmp 91) 1, none⟩,
    ⟨none, Op.store 76 (Operand.tmp 92) (Operand.tmp 90), none⟩])
  (.seq (.ops [⟨some 93, Op.move (Operand.tmp 6), none⟩,
    ⟨some 4, Op.assign (Operand.tmp 93), none⟩,
    ⟨some 5, Op.assign (Operand.const (Value.int IntKind.i64 0)), none⟩])
  .ret))))))
theorem ir44_eq : (Try.f44.body.map low, Try.f44.ntmps, Try.f44.results.toList) = (some ir44, 94, [.tmp 4, .tmp 5]) := by kernel_rfl
def ir45 : LC := (.seq (.ops [⟨some 4, Op.assign (Operand.const (Value.bool false)), none⟩])
  (.seq (.ops [⟨some 5, Op.move (Operand.tmp 1), none⟩,
    ⟨some 6, Op.binOp BinOp.geq 3 (Operand.tmp 5) (Operand.const (Value.int IntKind.i64 0)) 3, none⟩,
    ⟨some 7, Op.move (Operand.tmp 6), none⟩,
    ⟨some 8, Op.move (Operand.tmp 1), some (7, true)⟩,
    ⟨some 9, Op.move (Operand.tmp 0), some (7, true)⟩,
    ⟨some 10, Op.nilCheck (Operand.tmp 9), some (7, true)⟩,
    ⟨some 11, Op.fieldAddr 78 (Operand.tmp 10) 0, some (7, true)⟩,
    ⟨some 12, Op.load 75 (Operand.tmp 11), some (7, true)⟩,
    ⟨some 13, Op.call { callee := Callee.builtin Builtin.len, args := #[Operand.tmp 12], argTypes := #[75] }, some (7, true)⟩,
    ⟨some 14, Op.binOp BinOp.lss 3 (Operand.tmp 8) (Operand.tmp 13) 3, some (7, true)⟩,
    ⟨some 15, Op.pick (Operand.tmp 7) (Operand.tmp 14) (Operand.const (Value.bool false)), none⟩,
    ⟨some 4, Op.assign (Operand.tmp 15), none⟩])
  .ret))
theorem ir45_eq : (Try.f45.body.map low, Try.f45.ntmps, Try.f45.results.toList) = (some ir45, 16, [.tmp 4]) := by kernel_rfl
def ir46 : LC := (.seq (.ops [⟨some 4, Op.assign (Operand.const (Value.slice none 0 0)), none⟩])
  (.seq (.ops [⟨some 6, Op.move (Operand.tmp 0), none⟩,
    ⟨some 7, Op.nilCheck (Operand.tmp 6), none⟩,
    ⟨some 8, Op.fieldAddr 78 (Operand.tmp 7) 1, none⟩,
    ⟨some 9, Op.load 76 (Operand.tmp 8), none⟩,
    ⟨some 10, Op.move (Operand.tmp 1), none⟩,
    ⟨some 11, Op.indexAddr 76 (Operand.tmp 9) (Operand.tmp 10), none⟩,
    ⟨some 12, Op.load 75 (Operand.tmp 11), none⟩,
    ⟨some 13, Op.call { callee := Callee.builtin Builtin.len, args := #[Operand.tmp 12], argTypes := #[75] }, none⟩,
    ⟨some 5, Op.assign (Operand.tmp 13), none⟩])
  (.seq (.seq (.ops [⟨some 14, Op.move (Operand.tmp 5), none⟩,
    ⟨some 15, Op.binOp BinOp.gtr 3 (Operand.tmp 14) (Operand.const (Value.int IntKind.i64 0)) 3, none⟩])
  (.cond (Operand.tmp 15)
  (.seq (.ops [⟨some 16, Op.move (Operand.tmp 0), none⟩,
    ⟨some 17, Op.nilCheck (Operand.tmp 16), none⟩,
    ⟨some 18, Op.fieldAddr 78 (Operand.tmp 17) 1, none⟩,
    ⟨some 19, Op.load 76 (Operand.tmp 18), none⟩,
    ⟨some 20, Op.move (Operand.tmp 1), none⟩,
    ⟨some 21, Op.indexAddr 76 (Operand.tmp 19) (Operand.tmp 20), none⟩,
    ⟨some 22, Op.load 75 (Operand.tmp 21), none⟩,
    ⟨some 23, Op.move (Operand.tmp 5), none⟩,
    ⟨some 24, Op.binOp BinOp.sub 3 (Operand.tmp 23) (Operand.const (Value.int IntKind.i64 1)) 3, none⟩,
    ⟨some 25, Op.indexAddr 75 (Operand.tmp 22) (Operand.tmp 24), none⟩,
    ⟨some 26, Op.load 33 (Operand.tmp 25), none⟩,
    ⟨some 4, Op.assign (Operand.tmp 26), none⟩])
  .ret)
  .skip))
  (.seq (.ops [⟨some 27, Op.move (Operand.tmp 0), none⟩,
    ⟨some 28, Op.nilCheck (Operand.tmp 27), none⟩,
    ⟨some 29, Op.fieldAddr 78 (Operand.tmp 28) 0, none⟩,
    ⟨some 30, Op.load 75 (Operand.tmp 29), none⟩,
    ⟨some 31, Op.move (Operand.tmp 1), none⟩,
    ⟨some 32, Op.indexAddr 75 (Operand.tmp 30) (Operand.tmp 31), none⟩,
    ⟨some 33, Op.load 33 (Operand.tmp 32), none⟩,
    ⟨some 4, Op.assign (Operand.tmp 33), none⟩])
  .ret))))
theorem ir46_eq : (Try.f46.body.map low, Try.f46.ntmps, Try.f46.results.toList) = (some ir46, 34, [.tmp 4]) := by kernel_rfl
def ir47_l0 : LC := (.seq (.ops [⟨some 16, Op.binOp BinOp.lss 3 (Operand.tmp 15) (Operand.tmp 14) 3, none⟩])
  (.seq (.cond (Operand.tmp 16)
  .skip
  (.exit 0))
  (.seq (.block 1 (.seq (.ops [⟨some 17, Op.indexAddr 80 (Operand.tmp 13) (Operand.tmp 15), none⟩,
    ⟨some 18, Op.load 3 (Operand.tmp 17), none⟩,
    ⟨some 4, Op.assign (Operand.tmp 18), none⟩])
  (.seq (.ops [⟨some 19, Op.move (Operand.tmp 0), none⟩,
    ⟨some 20, Op.move (Operand.tmp 4), none⟩,
    ⟨some 21, Op.load 26 (Operand.tmp 1), none⟩,
    ⟨some 22, Op.nilCheck (Operand.tmp 21), none⟩,
    ⟨some 23, Op.fieldAddr 54 (Operand.tmp 22) 1, none⟩,
    ⟨some 24, Op.load 52 (Operand.tmp 23), none⟩,
    ⟨some 25, Op.move (Operand.tmp 4), none⟩,
    ⟨some 26, Op.lookup 52 (Operand.tmp 24) (Operand.tmp 25) false, none⟩,
    ⟨some 27, Op.call { callee := Callee.builtin Builtin.len, args := #[Operand.tmp 26], argTypes := #[51] }, none⟩,
    ⟨some 28, Op.call { callee := Callee.value (Operand.tmp 19), args := #[Operand.tmp 20, Operand.tmp 27], argTypes := #[3, 3] }, none⟩,
    ⟨some 29, Op.unOp UnOp.not 4 (Operand.tmp 28), none⟩])
  (.cond (Operand.tmp 29)
  .ret
  .skip))))
  (.ops [⟨some 30, Op.binOp BinOp.add 3 (Operand.tmp 15) (Operand.const (Value.int IntKind.i64 1)) 3, none⟩,
    ⟨some 15, Op.move (Operand.tmp 30), none⟩]))))
def ir47 : LC := (.seq (.seq (.ops [⟨some 5, Op.load 26 (Operand.tmp 1), none⟩,
    ⟨some 6, Op.call { callee := Callee.value (Operand.func 29), args := #[Operand.tmp 5], argTypes := #[26] }, none⟩,
    ⟨some 7, Op.unOp UnOp.not 4 (Operand.tmp 6), none⟩])
  (.cond (Operand.tmp 7)
  .ret
  .skip))
  (.seq (.ops [⟨some 8, Op.load 26 (Operand.tmp 1), none⟩,
    ⟨some 9, Op.nilCheck (Operand.tmp 8), none⟩,
    ⟨some 10, Op.fieldAddr 54 (Operand.tmp 9) 1, none⟩,
    ⟨some 11, Op.load 52 (Operand.tmp 10), none⟩,
    ⟨some 12, Op.call { callee := Callee.value (Operand.func 49), args := #[Operand.tmp 11], argTypes := #[52] }, none⟩,
    ⟨some 13, Op.call { callee := Callee.value (Operand.func 48), args := #[Operand.tmp 12], argTypes := #[97] }, none⟩,
    ⟨some 14, Op.call { callee := Callee.builtin Builtin.len, args := #[Operand.tmp 13], argTypes := #[80] }, none⟩,
    ⟨some 15, Op.move (Operand.const (Value.int IntKind.i64 0)), none⟩])
  (.block 0 (.loop ir47_l0))))
theorem ir47_eq : (Try.f47.body.map low, Try.f47.ntmps, Try.f47.results.toList) = (some ir47, 31, []) := by kernel_rfl
def ir48 : LC := (.seq (.ops [⟨some 2, Op.assign (Operand.const (Value.slice none 0 0)), none⟩])
  (.seq (.ops [⟨some 4, Op.move (Operand.tmp 0), none⟩,
    ⟨some 5, Op.call { callee := Callee.value (Operand.func 52), args := #[Operand.tmp 4], argTypes := #[97] }, none⟩,
    ⟨some 3, Op.assign (Operand.tmp 5), none⟩])
  (.seq (.ops [⟨some 6, Op.move (Operand.tmp 3), none⟩,
    ⟨some 7, Op.call { callee := Callee.value (Operand.func 53), args := #[Operand.tmp 6], argTypes := #[80] }, none⟩])
  (.seq (.ops [⟨some 8, Op.move (Operand.tmp 3), none⟩,
    ⟨some 2, Op.assign (Operand.tmp 8), none⟩])
  .ret))))
theorem ir48_eq : (Try.f48.body.map low, Try.f48.ntmps, Try.f48.results.toList) = (some ir48, 9, [.tmp 2]) := by kernel_rfl
def ir49 : LC := (.seq (.ops [⟨some 1, Op.box 52 (Operand.tmp 0), none⟩,
    ⟨some 2, Op.assign (Operand.const Value.nilFunc), none⟩])
  (.seq (.ops [⟨some 3, Op.makeFunc (Fn.func 54) #[] #[Operand.tmp 1], none⟩,
    ⟨some 2, Op.assign (Operand.tmp 3), none⟩])
  .ret))
theorem ir49_eq : (Try.f49.body.map low, Try.f49.ntmps, Try.f49.results.toList) = (some ir49, 4, [.tmp 2]) := by kernel_rfl
def ir50 : LC := (.seq (.ops [⟨some 1, Op.box 52 (Operand.tmp 0), none⟩,
    ⟨some 2, Op.assign (Operand.const Value.nilFunc), none⟩])
  (.seq (.ops [⟨some 3, Op.makeFunc (Fn.func 55) #[] #[Operand.tmp 1], none⟩,
    ⟨some 2, Op.assign (Operand.tmp 3), none⟩])
  .ret))
theorem ir50_eq : (Try.f50.body.map low, Try.f50.ntmps, Try.f50.results.toList) = (some ir50, 4, [.tmp 2]) := by kernel_rfl
def ir51 : LC := (.seq (.ops [⟨some 2, Op.assign (Operand.const (Value.pointer none)), none⟩])
  (.seq (.seq (.ops [⟨some 3, Op.move (Operand.tmp 0), none⟩,
    ⟨some 4, Op.binOp BinOp.eql 45 (Operand.tmp 3) (Operand.const (Value.pointer none)) 45, none⟩])
  (.cond (Operand.tmp 4)
  (.seq (.ops [⟨some 2, Op.assign (Operand.const (Value.pointer none)), none⟩])
  .ret)
  .skip))
  (.seq (.draw [⟨some 5, Op.move (Operand.tmp 0), none⟩,
    ⟨some 6, Op.nilCheck (Operand.tmp 5), none⟩,
    ⟨some 7, Op.fieldAddr 78 (Operand.tmp 6) 0, none⟩,
    ⟨some 8, Op.load 75 (Operand.tmp 7), none⟩,
    ⟨some 9, Op.call { callee := Callee.builtin Builtin.append, args := #[Operand.const (Value.slice none 0 0), Operand.tmp 8], argTypes := #[75, 75] }, none⟩,
    ⟨some 10, Op.move (Operand.tmp 0), none⟩,
    ⟨some 11, Op.nilCheck (Operand.tmp 10), none⟩,
    ⟨some 12, Op.fieldAddr 78 (Operand.tmp 11) 1, none⟩,
    ⟨some 13, Op.load 76 (Operand.tmp 12), none⟩,
    ⟨some 14, Op.call { callee := Callee.builtin Builtin.append, args := #[Operand.const (Value.slice none 0 0), Operand.tmp 13], argTypes := #[76, 76] }, none⟩,
    ⟨some 15, Op.move (Operand.tmp 0), none⟩,
    ⟨some 16, Op.nilCheck (Operand.tmp 15), none⟩,
    ⟨some 17, Op.fieldAddr 78 (Operand.tmp 16) 2, none⟩,
    ⟨some 18, Op.load 2 (Operand.tmp 17), none⟩,
    ⟨some 19, Op.build 78 #[(0, Operand.tmp 9), (1, Operand.tmp 14), (2, Operand.tmp 18)], none⟩,
    ⟨some 20, Op.box 78 (Operand.tmp 19), none⟩,
    ⟨some 2, Op.assign (Operand.tmp 20), none⟩] [(4, 5), (4, 6), (4, 7), (4, 8), (4, 10), (9, 10), (4, 11), (9, 11), (4, 12), (9, 12), (4, 13), (9, 13)])
  .ret)))
theorem ir51_eq : (Try.f51.body.map low, Try.f51.ntmps, Try.f51.results.toList) = (some ir51, 21, [.tmp 2]) := by kernel_rfl
def ir52 : LC := (.seq (.ops [⟨some 2, Op.assign (Operand.const (Value.slice none 0 0)), none⟩])
  (.seq (.ops [⟨some 3, Op.move (Operand.tmp 0), none⟩,
    ⟨some 4, Op.call { callee := Callee.value (Operand.func 56), args := #[Operand.const (Value.slice none 0 0), Operand.tmp 3], argTypes := #[80, 97] }, none⟩,
    ⟨some 2, Op.assign (Operand.tmp 4), none⟩])
  .ret))
theorem ir52_eq : (Try.f52.body.map low, Try.f52.ntmps, Try.f52.results.toList) = (some ir52, 5, [.tmp 2]) := by kernel_rfl
def ir54_l0 : LC := (.seq (.ops [⟨some 6, Op.next (Operand.tmp 5) false, none⟩,
    ⟨some 7, Op.extract (Operand.tmp 6) 0, none⟩])
  (.seq (.cond (Operand.tmp 7)
  .skip
  (.exit 0))
  (.block 1 (.seq (.ops [⟨some 8, Op.entry (Operand.tmp 5), none⟩,
    ⟨some 9, Op.extract (Operand.tmp 8) 0, none⟩,
    ⟨some 3, Op.assign (Operand.tmp 9), none⟩])
  (.seq (.ops [⟨some 10, Op.move (Operand.tmp 0), none⟩,
    ⟨some 11, Op.move (Operand.tmp 3), none⟩,
    ⟨some 12, Op.call { callee := Callee.value (Operand.tmp 10), args := #[Operand.tmp 11], argTypes := #[3] }, none⟩,
    ⟨some 13, Op.unOp UnOp.not 4 (Operand.tmp 12), none⟩])
  (.cond (Operand.tmp 13)
  .ret
  .skip))))))
def ir54 : LC := (.seq (.ops [⟨some 4, Op.load 52 (Operand.tmp 1), none⟩,
    ⟨some 5, Op.range 52 (Operand.tmp 4), none⟩])
  (.block 0 (.loop ir54_l0)))
theorem ir54_eq : (Try.f54.body.map low, Try.f54.ntmps, Try.f54.results.toList) = (some ir54, 14, []) := by kernel_rfl
def ir55_l0 : LC := (.seq (.ops [⟨some 7, Op.next (Operand.tmp 6) false, none⟩,
    ⟨some 8, Op.extract (Operand.tmp 7) 0, none⟩])
  (.seq (.cond (Operand.tmp 8)
  .skip
  (.exit 0))
  (.block 1 (.seq (.ops [⟨some 9, Op.entry (Operand.tmp 6), none⟩,
    ⟨some 10, Op.extract (Operand.tmp 9) 0, none⟩,
    ⟨some 11, Op.extract (Operand.tmp 9) 1, none⟩,
    ⟨some 3, Op.assign (Operand.tmp 10), none⟩,
    ⟨some 4, Op.assign (Operand.tmp 11), none⟩])
  (.seq (.ops [⟨some 12, Op.move (Operand.tmp 0), none⟩,
    ⟨some 13, Op.move (Operand.tmp 3), none⟩,
    ⟨some 14, Op.move (Operand.tmp 4), none⟩,
    ⟨some 15, Op.call { callee := Callee.value (Operand.tmp 12), args := #[Operand.tmp 13, Operand.tmp 14], argTypes := #[3, 51] }, none⟩,
    ⟨some 16, Op.unOp UnOp.not 4 (Operand.tmp 15), none⟩])
  (.cond (Operand.tmp 16)
  .ret
  .skip))))))
def ir55 : LC := (.seq (.ops [⟨some 5, Op.load 52 (Operand.tmp 1), none⟩,
    ⟨some 6, Op.range 52 (Operand.tmp 5), none⟩])
  (.block 0 (.loop ir55_l0)))
theorem ir55_eq : (Try.f55.body.map low, Try.f55.ntmps, Try.f55.results.toList) = (some ir55, 17, []) := by kernel_rfl
noncomputable def rc56 (i : Nat) : Code × Code := (((Try.f56.body.map rangesOf).getD [])[i]?).getD (.skip, .skip)
noncomputable def ir56_a0 : LC := (.ops [⟨some 5, Op.assign (Operand.tmp 7), none⟩])
noncomputable def ir56_b0 : LC := (.block 1 (.ops [⟨some 8, Op.load 80 (Operand.tmp 2), none⟩,
    ⟨some 9, Op.move (Operand.tmp 5), none⟩,
    ⟨some 10, Op.buildSlice 80 1 #[(0, Operand.tmp 9)], none⟩,
    ⟨some 11, Op.call { callee := Callee.builtin Builtin.append, args := #[Operand.tmp 8, Operand.tmp 10], argTypes := #[80, 80] }, none⟩,
    ⟨none, Op.store 80 (Operand.tmp 2) (Operand.tmp 11), none⟩]))
theorem ir56_a0_eq : low (rc56 0).1 = ir56_a0 := by kernel_rfl
theorem ir56_b0_eq : low (rc56 0).2 = ir56_b0 := by kernel_rfl
noncomputable def ir56 : LC := (.seq (.ops [⟨some 2, Op.box 80 (Operand.tmp 0), none⟩,
    ⟨some 4, Op.assign (Operand.const (Value.slice none 0 0)), none⟩])
  (.seq (.seq (.ops [⟨some 6, Op.move (Operand.tmp 1), none⟩])
  (.block 0 (.range (Operand.tmp 6) #[7] (rc56 0).1 (rc56 0).2)))
  (.seq (.ops [⟨some 12, Op.load 80 (Operand.tmp 2), none⟩,
    ⟨some 4, Op.assign (Operand.tmp 12), none⟩])
  .ret)))
theorem ir56_eq : (Try.f56.body.map low, Try.f56.ntmps, Try.f56.results.toList) = (some ir56, 13, [.tmp 4]) := by kernel_rfl

end Go.Proofs.Ytgkcbpagdfdpdaa
