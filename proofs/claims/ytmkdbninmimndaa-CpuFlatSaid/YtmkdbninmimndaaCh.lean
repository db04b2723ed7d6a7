/- CpuFlat's code in pieces (printed by ir_chain.py). -/
import Derived.Test.YtmkdbninmimndaaIr
set_option maxRecDepth 100000
namespace Go.Proofs.Ytmkdbninmimndaa
open Go Go.Vm
def ir7_s0 : LC := (.ops [⟨some 10, Op.assign (Operand.const (Value.bool false)), none⟩])
def ir7_s1 : LC := (.seq (.ops [⟨some 20, Op.move (Operand.tmp 0), none⟩,
    ⟨some 21, Op.call { callee := Callee.builtin Builtin.len, args := #[Operand.tmp 20], argTypes := #[23] }, none⟩,
    ⟨some 22, Op.binOp BinOp.gtr 3 (Operand.tmp 21) (Operand.const (Value.int IntKind.i64 9000)) 3, none⟩,
    ⟨some 23, Op.move (Operand.tmp 22), none⟩,
    ⟨some 24, Op.move (Operand.tmp 1), some (23, false)⟩,
    ⟨some 25, Op.call { callee := Callee.builtin Builtin.len, args := #[Operand.tmp 24], argTypes := #[24] }, some (23, false)⟩,
    ⟨some 26, Op.binOp BinOp.gtr 3 (Operand.tmp 25) (Operand.const (Value.int IntKind.i64 40)) 3, some (23, false)⟩,
    ⟨some 27, Op.pick (Operand.tmp 23) (Operand.const (Value.bool true)) (Operand.tmp 26), none⟩])
  (.cond (Operand.tmp 27)
  (.seq (.ops [⟨some 28, Op.call { callee := Callee.value (Operand.func 10), args := #[], argTypes := #[] }, none⟩,
    ⟨some 10, Op.assign (Operand.tmp 28), none⟩])
  .ret)
  .skip))
def ir7_s2 : LC := (.ops [⟨some 30, Op.move (Operand.tmp 0), none⟩,
    ⟨some 31, Op.move (Operand.tmp 1), none⟩,
    ⟨some 32, Op.call { callee := Callee.value (Operand.func 16), args := #[Operand.tmp 30, Operand.tmp 31], argTypes := #[23, 24] }, none⟩,
    ⟨some 29, Op.move (Operand.tmp 32), none⟩,
    ⟨some 33, Op.extract (Operand.tmp 29) 0, none⟩,
    ⟨some 34, Op.extract (Operand.tmp 29) 1, none⟩,
    ⟨some 11, Op.assign (Operand.tmp 33), none⟩,
    ⟨some 12, Op.assign (Operand.tmp 34), none⟩])
def ir7_s3 : LC := (.ops [⟨some 35, Op.move (Operand.tmp 1), none⟩,
    ⟨some 36, Op.call { callee := Callee.builtin Builtin.len, args := #[Operand.tmp 35], argTypes := #[24] }, none⟩,
    ⟨some 37, Op.binOp BinOp.gtr 3 (Operand.tmp 36) (Operand.const (Value.int IntKind.i64 32)) 3, none⟩,
    ⟨some 13, Op.assign (Operand.tmp 37), none⟩])
def ir7_s4 : LC := (.seq (.ops [⟨some 14, Op.assign (Operand.const (Value.int IntKind.i64 0)), none⟩])
  (.block 0 (.loop ir7_l0)))
def ir7_s5 : LC := (.seq (.ops [⟨some 59, Op.move (Operand.tmp 0), none⟩,
    ⟨some 60, Op.call { callee := Callee.builtin Builtin.len, args := #[Operand.tmp 59], argTypes := #[23] }, none⟩,
    ⟨some 61, Op.binOp BinOp.gtr 3 (Operand.tmp 60) (Operand.const (Value.int IntKind.i64 8192)) 3, none⟩,
    ⟨some 62, Op.move (Operand.tmp 61), none⟩,
    ⟨some 63, Op.move (Operand.tmp 13), some (62, false)⟩,
    ⟨some 64, Op.pick (Operand.tmp 62) (Operand.const (Value.bool true)) (Operand.tmp 63), none⟩,
    ⟨some 65, Op.move (Operand.tmp 64), none⟩,
    ⟨some 66, Op.move (Operand.tmp 0), some (65, false)⟩,
    ⟨some 67, Op.call { callee := Callee.builtin Builtin.len, args := #[Operand.tmp 66], argTypes := #[23] }, some (65, false)⟩,
    ⟨some 68, Op.move (Operand.tmp 1), some (65, false)⟩,
    ⟨some 69, Op.call { callee := Callee.builtin Builtin.len, args := #[Operand.tmp 68], argTypes := #[24] }, some (65, false)⟩,
    ⟨some 70, Op.binOp BinOp.mul 3 (Operand.tmp 69) (Operand.const (Value.int IntKind.i64 256)) 3, some (65, false)⟩,
    ⟨some 71, Op.binOp BinOp.gtr 3 (Operand.tmp 67) (Operand.tmp 70) 3, some (65, false)⟩,
    ⟨some 72, Op.pick (Operand.tmp 65) (Operand.const (Value.bool true)) (Operand.tmp 71), none⟩])
  (.cond (Operand.tmp 72)
  (.seq (.ops [⟨some 15, Op.assign (Operand.const (Value.int IntKind.i64 3)), none⟩])
  (.seq (.seq (.ops [⟨some 73, Op.move (Operand.tmp 0), none⟩,
    ⟨some 74, Op.call { callee := Callee.builtin Builtin.len, args := #[Operand.tmp 73], argTypes := #[23] }, none⟩,
    ⟨some 75, Op.binOp BinOp.leq 3 (Operand.tmp 74) (Operand.const (Value.int IntKind.i64 8192)) 3, none⟩,
    ⟨some 76, Op.move (Operand.tmp 75), none⟩,
    ⟨some 77, Op.move (Operand.tmp 13), some (76, true)⟩,
    ⟨some 78, Op.pick (Operand.tmp 76) (Operand.tmp 77) (Operand.const (Value.bool false)), none⟩])
  (.cond (Operand.tmp 78)
  (.ops [⟨some 15, Op.assign (Operand.const (Value.int IntKind.i64 2)), none⟩])
  .skip))
  (.seq (.ops [⟨some 79, Op.move (Operand.tmp 11), none⟩,
    ⟨some 80, Op.binOp BinOp.eql 32 (Operand.tmp 79) (Operand.const (Value.pointer none)) 32, none⟩,
    ⟨some 81, Op.move (Operand.tmp 80), none⟩,
    ⟨some 82, Op.move (Operand.tmp 12), some (81, true)⟩,
    ⟨some 83, Op.move (Operand.tmp 15), some (81, true)⟩,
    ⟨some 84, Op.binOp BinOp.eql 39 (Operand.tmp 82) (Operand.tmp 83) 39, some (81, true)⟩,
    ⟨some 85, Op.pick (Operand.tmp 81) (Operand.tmp 84) (Operand.const (Value.bool false)), none⟩,
    ⟨some 86, Op.move (Operand.tmp 85), none⟩,
    ⟨some 87, Op.call { callee := Callee.value (Operand.func 10), args := #[], argTypes := #[] }, some (86, true)⟩,
    ⟨some 88, Op.pick (Operand.tmp 86) (Operand.tmp 87) (Operand.const (Value.bool false)), none⟩,
    ⟨some 10, Op.assign (Operand.tmp 88), none⟩])
  .ret)))
  .skip))
def ir7_s6 : LC := (.seq (.ops [⟨some 89, Op.move (Operand.tmp 12), none⟩,
    ⟨some 90, Op.binOp BinOp.neq 39 (Operand.tmp 89) (Operand.const (Value.int IntKind.i64 0)) 39, none⟩])
  (.cond (Operand.tmp 90)
  (.seq (.ops [⟨some 10, Op.assign (Operand.const (Value.bool false)), none⟩])
  .ret)
  .skip))
def ir7_s7 : LC := (.ops [⟨some 91, Op.move (Operand.tmp 11), none⟩,
    ⟨some 92, Op.call { callee := Callee.value (Operand.func 14), args := #[Operand.tmp 91], argTypes := #[32] }, none⟩,
    ⟨some 93, Op.move (Operand.tmp 1), none⟩,
    ⟨some 94, Op.build 46 #[(0, Operand.tmp 92), (1, Operand.tmp 93)], none⟩,
    ⟨some 95, Op.box 46 (Operand.tmp 94), none⟩,
    ⟨some 16, Op.assign (Operand.tmp 95), none⟩])
def ir7_s8 : LC := (.seq (.draw [⟨some 96, Op.move (Operand.tmp 16), none⟩,
    ⟨some 97, Op.nilCheck (Operand.tmp 96), none⟩,
    ⟨some 98, Op.fieldAddr 46 (Operand.tmp 97) 0, none⟩,
    ⟨some 99, Op.load 23 (Operand.tmp 98), none⟩,
    ⟨some 100, Op.call { callee := Callee.builtin Builtin.len, args := #[Operand.tmp 99], argTypes := #[23] }, none⟩,
    ⟨some 101, Op.move (Operand.tmp 1), none⟩,
    ⟨some 102, Op.call { callee := Callee.builtin Builtin.len, args := #[Operand.tmp 101], argTypes := #[24] }, none⟩,
    ⟨some 103, Op.binOp BinOp.mul 3 (Operand.tmp 102) (Operand.const (Value.int IntKind.i64 256)) 3, none⟩,
    ⟨some 104, Op.binOp BinOp.neq 3 (Operand.tmp 100) (Operand.tmp 103) 3, none⟩,
    ⟨some 105, Op.move (Operand.tmp 104), none⟩,
    ⟨some 106, Op.move (Operand.tmp 16), some (105, false)⟩,
    ⟨some 107, Op.nilCheck (Operand.tmp 106), some (105, false)⟩,
    ⟨some 108, Op.fieldAddr 46 (Operand.tmp 107) 0, some (105, false)⟩,
    ⟨some 109, Op.load 23 (Operand.tmp 108), some (105, false)⟩,
    ⟨some 110, Op.move (Operand.tmp 0), some (105, false)⟩,
    ⟨some 111, Op.call { callee := Callee.builtin Builtin.len, args := #[Operand.tmp 110], argTypes := #[23] }, some (105, false)⟩,
    ⟨some 112, Op.slice 23 (Operand.tmp 109) none (some (Operand.tmp 111)) none, some (105, false)⟩,
    ⟨some 113, Op.convert 23 9 (Operand.tmp 112), some (105, false)⟩,
    ⟨some 114, Op.move (Operand.tmp 0), some (105, false)⟩,
    ⟨some 115, Op.convert 23 9 (Operand.tmp 114), some (105, false)⟩,
    ⟨some 116, Op.binOp BinOp.neq 9 (Operand.tmp 113) (Operand.tmp 115) 9, some (105, false)⟩,
    ⟨some 117, Op.pick (Operand.tmp 105) (Operand.const (Value.bool true)) (Operand.tmp 116), none⟩,
    ⟨some 118, Op.move (Operand.tmp 117), none⟩,
    ⟨some 119, Op.move (Operand.tmp 11), some (118, false)⟩,
    ⟨some 120, Op.move (Operand.tmp 2), some (118, false)⟩,
    ⟨some 121, Op.move (Operand.tmp 3), some (118, false)⟩,
    ⟨some 122, Op.call { callee := Callee.value (Operand.func 21), args := #[Operand.tmp 119, Operand.tmp 120, Operand.tmp 121], argTypes := #[32, 25, 3] }, some (118, false)⟩,
    ⟨some 123, Op.move (Operand.tmp 16), some (118, false)⟩,
    ⟨some 124, Op.move (Operand.tmp 2), some (118, false)⟩,
    ⟨some 125, Op.move (Operand.tmp 3), some (118, false)⟩,
    ⟨some 126, Op.call { callee := Callee.value (Operand.func 22), args := #[Operand.tmp 123, Operand.tmp 124, Operand.tmp 125], argTypes := #[33, 25, 3] }, some (118, false)⟩,
    ⟨some 127, Op.binOp BinOp.neq 4 (Operand.tmp 122) (Operand.tmp 126) 4, some (118, false)⟩,
    ⟨some 128, Op.pick (Operand.tmp 118) (Operand.const (Value.bool true)) (Operand.tmp 127), none⟩] [(26, 27), (26, 28), (26, 29)])
  (.cond (Operand.tmp 128)
  (.seq (.ops [⟨some 10, Op.assign (Operand.const (Value.bool false)), none⟩])
  .ret)
  .skip))
def ir7_s9 : LC := (.ops [⟨some 129, Op.move (Operand.tmp 11), none⟩,
    ⟨some 130, Op.call { callee := Callee.value (Operand.func 20), args := #[Operand.tmp 129], argTypes := #[32] }, none⟩,
    ⟨some 17, Op.assign (Operand.tmp 130), none⟩])
def ir7_s10 : LC := (.ops [⟨some 131, Op.move (Operand.tmp 17), none⟩,
    ⟨some 132, Op.move (Operand.tmp 2), none⟩,
    ⟨some 133, Op.move (Operand.tmp 4), none⟩,
    ⟨some 134, Op.call { callee := Callee.value (Operand.func 23), args := #[Operand.tmp 131, Operand.tmp 132, Operand.tmp 133], argTypes := #[32, 25, 5] }, none⟩])
def ir7_s11 : LC := (.ops [⟨some 135, Op.move (Operand.tmp 2), none⟩,
    ⟨some 136, Op.convert 25 3 (Operand.tmp 135), none⟩,
    ⟨some 137, Op.move (Operand.tmp 16), none⟩,
    ⟨some 138, Op.nilCheck (Operand.tmp 137), none⟩,
    ⟨some 139, Op.fieldAddr 46 (Operand.tmp 138) 0, none⟩,
    ⟨some 140, Op.load 23 (Operand.tmp 139), none⟩,
    ⟨some 141, Op.call { callee := Callee.builtin Builtin.len, args := #[Operand.tmp 140], argTypes := #[23] }, none⟩,
    ⟨some 142, Op.binOp BinOp.lss 3 (Operand.tmp 136) (Operand.tmp 141) 3, none⟩,
    ⟨some 18, Op.assign (Operand.tmp 142), none⟩])
def ir7_s12 : LC := (.ops [⟨some 19, Op.assign (Operand.const (Value.int IntKind.u8 0)), none⟩])
def ir7_s13 : LC := (.seq (.ops [⟨some 143, Op.move (Operand.tmp 18), none⟩])
  (.cond (Operand.tmp 143)
  (.ops [⟨some 144, Op.move (Operand.tmp 16), none⟩,
    ⟨some 145, Op.nilCheck (Operand.tmp 144), none⟩,
    ⟨some 146, Op.fieldAddr 46 (Operand.tmp 145) 0, none⟩,
    ⟨some 147, Op.load 23 (Operand.tmp 146), none⟩,
    ⟨some 148, Op.move (Operand.tmp 2), none⟩,
    ⟨some 149, Op.indexAddr 23 (Operand.tmp 147) (Operand.tmp 148), none⟩,
    ⟨some 150, Op.load 5 (Operand.tmp 149), none⟩,
    ⟨some 19, Op.assign (Operand.tmp 150), none⟩])
  .skip))
def ir7_s14 : LC := (.ops [⟨some 151, Op.move (Operand.tmp 11), none⟩,
    ⟨some 152, Op.move (Operand.tmp 2), none⟩,
    ⟨some 153, Op.call { callee := Callee.value (Operand.func 24), args := #[Operand.tmp 151, Operand.tmp 152], argTypes := #[32, 25] }, none⟩,
    ⟨some 154, Op.move (Operand.tmp 19), none⟩,
    ⟨some 155, Op.binOp BinOp.eql 5 (Operand.tmp 153) (Operand.tmp 154) 5, none⟩,
    ⟨some 156, Op.move (Operand.tmp 155), none⟩,
    ⟨some 157, Op.move (Operand.tmp 18), some (156, true)⟩,
    ⟨some 158, Op.unOp UnOp.not 4 (Operand.tmp 157), some (156, true)⟩,
    ⟨some 159, Op.move (Operand.tmp 158), some (156, true)⟩,
    ⟨some 160, Op.move (Operand.tmp 17), some (159, false)⟩,
    ⟨some 161, Op.move (Operand.tmp 2), some (159, false)⟩,
    ⟨some 162, Op.call { callee := Callee.value (Operand.func 24), args := #[Operand.tmp 160, Operand.tmp 161], argTypes := #[32, 25] }, some (159, false)⟩,
    ⟨some 163, Op.move (Operand.tmp 4), some (159, false)⟩,
    ⟨some 164, Op.binOp BinOp.eql 5 (Operand.tmp 162) (Operand.tmp 163) 5, some (159, false)⟩,
    ⟨some 165, Op.pick (Operand.tmp 159) (Operand.const (Value.bool true)) (Operand.tmp 164), some (156, true)⟩,
    ⟨some 166, Op.pick (Operand.tmp 156) (Operand.tmp 165) (Operand.const (Value.bool false)), none⟩,
    ⟨some 167, Op.move (Operand.tmp 166), none⟩,
    ⟨some 168, Op.move (Operand.tmp 18), some (167, true)⟩,
    ⟨some 169, Op.move (Operand.tmp 168), some (167, true)⟩,
    ⟨some 170, Op.move (Operand.tmp 17), some (169, false)⟩,
    ⟨some 171, Op.move (Operand.tmp 2), some (169, false)⟩,
    ⟨some 172, Op.call { callee := Callee.value (Operand.func 24), args := #[Operand.tmp 170, Operand.tmp 171], argTypes := #[32, 25] }, some (169, false)⟩,
    ⟨some 173, Op.binOp BinOp.eql 5 (Operand.tmp 172) (Operand.const (Value.int IntKind.u8 0)) 5, some (169, false)⟩,
    ⟨some 174, Op.pick (Operand.tmp 169) (Operand.const (Value.bool true)) (Operand.tmp 173), some (167, true)⟩,
    ⟨some 175, Op.pick (Operand.tmp 167) (Operand.tmp 174) (Operand.const (Value.bool false)), none⟩,
    ⟨some 176, Op.move (Operand.tmp 175), none⟩,
    ⟨some 177, Op.call { callee := Callee.value (Operand.func 10), args := #[], argTypes := #[] }, some (176, true)⟩,
    ⟨some 178, Op.pick (Operand.tmp 176) (Operand.tmp 177) (Operand.const (Value.bool false)), none⟩,
    ⟨some 10, Op.assign (Operand.tmp 178), none⟩])
def ir7_s15 : LC := .ret
def ir7_r15 : LC := ir7_s15
def ir7_r14 : LC := .seq ir7_s14 ir7_r15
def ir7_r13 : LC := .seq ir7_s13 ir7_r14
def ir7_r12 : LC := .seq ir7_s12 ir7_r13
def ir7_r11 : LC := .seq ir7_s11 ir7_r12
def ir7_r10 : LC := .seq ir7_s10 ir7_r11
def ir7_r9 : LC := .seq ir7_s9 ir7_r10
def ir7_r8 : LC := .seq ir7_s8 ir7_r9
def ir7_r7 : LC := .seq ir7_s7 ir7_r8
def ir7_r6 : LC := .seq ir7_s6 ir7_r7
def ir7_r5 : LC := .seq ir7_s5 ir7_r6
def ir7_r4 : LC := .seq ir7_s4 ir7_r5
def ir7_r3 : LC := .seq ir7_s3 ir7_r4
def ir7_r2 : LC := .seq ir7_s2 ir7_r3
def ir7_r1 : LC := .seq ir7_s1 ir7_r2
def ir7_r0 : LC := .seq ir7_s0 ir7_r1
theorem ir7_r0_eq : ir7_r0 = .seq ir7_s0 ir7_r1 := rfl
theorem ir7_r1_eq : ir7_r1 = .seq ir7_s1 ir7_r2 := rfl
theorem ir7_r2_eq : ir7_r2 = .seq ir7_s2 ir7_r3 := rfl
theorem ir7_r3_eq : ir7_r3 = .seq ir7_s3 ir7_r4 := rfl
theorem ir7_r4_eq : ir7_r4 = .seq ir7_s4 ir7_r5 := rfl
theorem ir7_r5_eq : ir7_r5 = .seq ir7_s5 ir7_r6 := rfl
theorem ir7_r6_eq : ir7_r6 = .seq ir7_s6 ir7_r7 := rfl
theorem ir7_r7_eq : ir7_r7 = .seq ir7_s7 ir7_r8 := rfl
theorem ir7_r8_eq : ir7_r8 = .seq ir7_s8 ir7_r9 := rfl
theorem ir7_r9_eq : ir7_r9 = .seq ir7_s9 ir7_r10 := rfl
theorem ir7_r10_eq : ir7_r10 = .seq ir7_s10 ir7_r11 := rfl
theorem ir7_r11_eq : ir7_r11 = .seq ir7_s11 ir7_r12 := rfl
theorem ir7_r12_eq : ir7_r12 = .seq ir7_s12 ir7_r13 := rfl
theorem ir7_r13_eq : ir7_r13 = .seq ir7_s13 ir7_r14 := rfl
theorem ir7_r14_eq : ir7_r14 = .seq ir7_s14 ir7_r15 := rfl
theorem ir7_chain : ir7 = ir7_r0 := rfl
end Go.Proofs.Ytmkdbninmimndaa
