/- DiskBytes' code in pieces (printed by ir_chain.py). -/
import Derived.Test.YtgkcbpagdfdpdaaIr2
set_option linter.unusedVariables false
set_option linter.unusedSimpArgs false
set_option linter.unusedSimpArgs false
set_option maxRecDepth 100000
namespace Go.Proofs.Ytgkcbpagdfdpdaa
open Go Go.Vm
def ir4_s0 : LC := (.ops [⟨some 2, Op.assign (Operand.const (Value.bool false)), none⟩])
def ir4_s1 : LC := (.seq (.ops [⟨some 8, Op.move (Operand.tmp 0), none⟩,
    ⟨some 9, Op.call { callee := Callee.builtin Builtin.len, args := #[Operand.tmp 8], argTypes := #[33] }, none⟩,
    ⟨some 10, Op.binOp BinOp.gtr 3 (Operand.tmp 9) (Operand.const (Value.int IntKind.i64 20000)) 3, none⟩])
  (.cond (Operand.tmp 10)
  (.seq (.ops [⟨some 11, Op.call { callee := Callee.value (Operand.func 8), args := #[], argTypes := #[] }, none⟩,
    ⟨some 2, Op.assign (Operand.tmp 11), none⟩])
  .ret)
  .skip))
def ir4_s2 : LC := (.ops [⟨some 12, Op.move (Operand.tmp 0), none⟩,
    ⟨some 13, Op.call { callee := Callee.builtin Builtin.append, args := #[Operand.const (Value.slice none 0 0), Operand.tmp 12], argTypes := #[33, 33] }, none⟩,
    ⟨some 14, Op.buildSlice 33 1 #[(0, Operand.const (Value.int IntKind.u8 119))], none⟩,
    ⟨some 15, Op.call { callee := Callee.builtin Builtin.append, args := #[Operand.tmp 13, Operand.tmp 14], argTypes := #[33, 33] }, none⟩,
    ⟨some 3, Op.assign (Operand.tmp 15), none⟩])
def ir4_s3 : LC := (.ops [⟨some 17, Op.move (Operand.tmp 3), none⟩,
    ⟨some 18, Op.move (Operand.tmp 0), none⟩,
    ⟨some 19, Op.call { callee := Callee.builtin Builtin.len, args := #[Operand.tmp 18], argTypes := #[33] }, none⟩,
    ⟨some 20, Op.slice 33 (Operand.tmp 17) none (some (Operand.tmp 19)) none, none⟩,
    ⟨some 21, Op.call { callee := Callee.value (Operand.func 19), args := #[Operand.tmp 20], argTypes := #[33] }, none⟩,
    ⟨some 16, Op.move (Operand.tmp 21), none⟩,
    ⟨some 22, Op.extract (Operand.tmp 16) 0, none⟩,
    ⟨some 23, Op.extract (Operand.tmp 16) 1, none⟩,
    ⟨some 4, Op.assign (Operand.tmp 22), none⟩,
    ⟨some 5, Op.assign (Operand.tmp 23), none⟩])
def ir4_s4 : LC := (.ops [⟨some 24, Op.move (Operand.tmp 0), none⟩,
    ⟨some 25, Op.call { callee := Callee.value (Operand.func 20), args := #[Operand.tmp 24], argTypes := #[33] }, none⟩,
    ⟨some 6, Op.assign (Operand.tmp 25), none⟩])
def ir4_s5 : LC := (.seq (.ops [⟨some 26, Op.move (Operand.tmp 3), none⟩,
    ⟨some 27, Op.convert 33 9 (Operand.tmp 26), none⟩,
    ⟨some 28, Op.move (Operand.tmp 0), none⟩,
    ⟨some 29, Op.convert 33 9 (Operand.tmp 28), none⟩,
    ⟨some 30, Op.binOp BinOp.add 9 (Operand.tmp 29) (Operand.const (Value.string { data := #[119] })) 9, none⟩,
    ⟨some 31, Op.binOp BinOp.neq 9 (Operand.tmp 27) (Operand.tmp 30) 9, none⟩])
  (.cond (Operand.tmp 31)
  (.seq (.ops [⟨some 2, Op.assign (Operand.const (Value.bool false)), none⟩])
  .ret)
  .skip))
def ir4_s6 : LC := (.seq (.ops [⟨some 7, Op.assign (Operand.const (Value.int IntKind.i64 0)), none⟩])
  (.block 0 (.loop ir4_l0)))
def ir4_s7 : LC := (.seq (.ops [⟨some 41, Op.move (Operand.tmp 6), none⟩,
    ⟨some 42, Op.binOp BinOp.eql 45 (Operand.tmp 41) (Operand.const (Value.pointer none)) 45, none⟩])
  (.cond (Operand.tmp 42)
  (.seq (.ops [⟨some 43, Op.move (Operand.tmp 4), none⟩,
    ⟨some 44, Op.binOp BinOp.eql 26 (Operand.tmp 43) (Operand.const (Value.pointer none)) 26, none⟩,
    ⟨some 45, Op.move (Operand.tmp 44), none⟩,
    ⟨some 46, Op.move (Operand.tmp 5), some (45, true)⟩,
    ⟨some 47, Op.call { callee := Callee.value (Operand.func 11), args := #[Operand.tmp 46], argTypes := #[27] }, some (45, true)⟩,
    ⟨some 48, Op.binOp BinOp.eql 3 (Operand.tmp 47) (Operand.const (Value.int IntKind.i64 2)) 3, some (45, true)⟩,
    ⟨some 49, Op.pick (Operand.tmp 45) (Operand.tmp 48) (Operand.const (Value.bool false)), none⟩,
    ⟨some 50, Op.move (Operand.tmp 49), none⟩,
    ⟨some 51, Op.call { callee := Callee.value (Operand.func 8), args := #[], argTypes := #[] }, some (50, true)⟩,
    ⟨some 52, Op.pick (Operand.tmp 50) (Operand.tmp 51) (Operand.const (Value.bool false)), none⟩,
    ⟨some 2, Op.assign (Operand.tmp 52), none⟩])
  .ret)
  .skip))
def ir4_s8 : LC := (.ops [⟨some 53, Op.move (Operand.tmp 4), none⟩,
    ⟨some 54, Op.binOp BinOp.neq 26 (Operand.tmp 53) (Operand.const (Value.pointer none)) 26, none⟩,
    ⟨some 55, Op.move (Operand.tmp 54), none⟩,
    ⟨some 56, Op.move (Operand.tmp 5), some (55, true)⟩,
    ⟨some 57, Op.call { callee := Callee.value (Operand.func 11), args := #[Operand.tmp 56], argTypes := #[27] }, some (55, true)⟩,
    ⟨some 58, Op.binOp BinOp.eql 3 (Operand.tmp 57) (Operand.const (Value.int IntKind.i64 0)) 3, some (55, true)⟩,
    ⟨some 59, Op.pick (Operand.tmp 55) (Operand.tmp 58) (Operand.const (Value.bool false)), none⟩,
    ⟨some 60, Op.move (Operand.tmp 59), none⟩,
    ⟨some 61, Op.move (Operand.tmp 4), some (60, true)⟩,
    ⟨some 62, Op.move (Operand.tmp 6), some (60, true)⟩,
    ⟨some 63, Op.call { callee := Callee.value (Operand.func 21), args := #[Operand.tmp 61, Operand.tmp 62, Operand.const (Value.int IntKind.i64 0)], argTypes := #[26, 45, 3] }, some (60, true)⟩,
    ⟨some 64, Op.pick (Operand.tmp 60) (Operand.tmp 63) (Operand.const (Value.bool false)), none⟩,
    ⟨some 65, Op.move (Operand.tmp 64), none⟩,
    ⟨some 66, Op.call { callee := Callee.value (Operand.func 8), args := #[], argTypes := #[] }, some (65, true)⟩,
    ⟨some 67, Op.pick (Operand.tmp 65) (Operand.tmp 66) (Operand.const (Value.bool false)), none⟩,
    ⟨some 2, Op.assign (Operand.tmp 67), none⟩])
def ir4_s9 : LC := .ret
def ir4_r9 : LC := ir4_s9
def ir4_r8 : LC := .seq ir4_s8 ir4_r9
def ir4_r7 : LC := .seq ir4_s7 ir4_r8
def ir4_r6 : LC := .seq ir4_s6 ir4_r7
def ir4_r5 : LC := .seq ir4_s5 ir4_r6
def ir4_r4 : LC := .seq ir4_s4 ir4_r5
def ir4_r3 : LC := .seq ir4_s3 ir4_r4
def ir4_r2 : LC := .seq ir4_s2 ir4_r3
def ir4_r1 : LC := .seq ir4_s1 ir4_r2
def ir4_r0 : LC := .seq ir4_s0 ir4_r1
theorem ir4_r0_eq : ir4_r0 = .seq ir4_s0 ir4_r1 := rfl
theorem ir4_r1_eq : ir4_r1 = .seq ir4_s1 ir4_r2 := rfl
theorem ir4_r2_eq : ir4_r2 = .seq ir4_s2 ir4_r3 := rfl
theorem ir4_r3_eq : ir4_r3 = .seq ir4_s3 ir4_r4 := rfl
theorem ir4_r4_eq : ir4_r4 = .seq ir4_s4 ir4_r5 := rfl
theorem ir4_r5_eq : ir4_r5 = .seq ir4_s5 ir4_r6 := rfl
theorem ir4_r6_eq : ir4_r6 = .seq ir4_s6 ir4_r7 := rfl
theorem ir4_r7_eq : ir4_r7 = .seq ir4_s7 ir4_r8 := rfl
theorem ir4_r8_eq : ir4_r8 = .seq ir4_s8 ir4_r9 := rfl
theorem ir4_chain : ir4 = ir4_r0 := rfl
end Go.Proofs.Ytgkcbpagdfdpdaa
