/- CpuMoves' code in pieces (printed by ir_chain.py). -/
import Derived.Test.YtmkdbninmimndaaIr2
set_option maxRecDepth 100000
namespace Go.Proofs.Ytmkdbninmimndaa
open Go Go.Vm
def ir5_s0 : LC := (.ops [⟨some 12, Op.assign (Operand.const (Value.bool false)), none⟩])
def ir5_s1 : LC := (.seq (.ops [⟨some 26, Op.move (Operand.tmp 5), none⟩,
    ⟨some 27, Op.call { callee := Callee.builtin Builtin.len, args := #[Operand.tmp 26], argTypes := #[23] }, none⟩,
    ⟨some 28, Op.binOp BinOp.gtr 3 (Operand.tmp 27) (Operand.const (Value.int IntKind.i64 3000)) 3, none⟩,
    ⟨some 29, Op.move (Operand.tmp 28), none⟩,
    ⟨some 30, Op.move (Operand.tmp 3), some (29, false)⟩,
    ⟨some 31, Op.binOp BinOp.gtr 3 (Operand.tmp 30) (Operand.const (Value.int IntKind.i64 3000)) 3, some (29, false)⟩,
    ⟨some 32, Op.pick (Operand.tmp 29) (Operand.const (Value.bool true)) (Operand.tmp 31), none⟩])
  (.cond (Operand.tmp 32)
  (.seq (.ops [⟨some 33, Op.call { callee := Callee.value (Operand.func 10), args := #[], argTypes := #[] }, none⟩,
    ⟨some 12, Op.assign (Operand.tmp 33), none⟩])
  .ret)
  .skip))
def ir5_s2 : LC := (.ops [⟨some 35, Op.move (Operand.tmp 0), none⟩,
    ⟨some 36, Op.move (Operand.tmp 1), none⟩,
    ⟨some 37, Op.call { callee := Callee.value (Operand.func 16), args := #[Operand.tmp 35, Operand.tmp 36], argTypes := #[23, 24] }, none⟩,
    ⟨some 34, Op.move (Operand.tmp 37), none⟩,
    ⟨some 38, Op.extract (Operand.tmp 34) 0, none⟩,
    ⟨some 39, Op.extract (Operand.tmp 34) 1, none⟩,
    ⟨some 13, Op.assign (Operand.tmp 38), none⟩,
    ⟨some 14, Op.assign (Operand.tmp 39), none⟩])
def ir5_s3 : LC := (.seq (.ops [⟨some 40, Op.move (Operand.tmp 14), none⟩,
    ⟨some 41, Op.binOp BinOp.neq 39 (Operand.tmp 40) (Operand.const (Value.int IntKind.i64 0)) 39, none⟩])
  (.cond (Operand.tmp 41)
  (.seq (.ops [⟨some 42, Op.call { callee := Callee.value (Operand.func 10), args := #[], argTypes := #[] }, none⟩,
    ⟨some 12, Op.assign (Operand.tmp 42), none⟩])
  .ret)
  .skip))
def ir5_s4 : LC := (.ops [⟨some 43, Op.move (Operand.tmp 13), none⟩,
    ⟨some 44, Op.call { callee := Callee.value (Operand.func 14), args := #[Operand.tmp 43], argTypes := #[32] }, none⟩,
    ⟨some 45, Op.move (Operand.tmp 1), none⟩,
    ⟨some 46, Op.build 46 #[(0, Operand.tmp 44), (1, Operand.tmp 45)], none⟩,
    ⟨some 47, Op.box 46 (Operand.tmp 46), none⟩,
    ⟨some 15, Op.assign (Operand.tmp 47), none⟩])
def ir5_s5 : LC := (.ops [⟨some 49, Op.move (Operand.tmp 13), none⟩,
    ⟨some 50, Op.makeInterface 32 (Operand.tmp 49), none⟩,
    ⟨some 51, Op.move (Operand.tmp 2), none⟩,
    ⟨some 52, Op.move (Operand.tmp 3), none⟩,
    ⟨some 53, Op.move (Operand.tmp 4), none⟩,
    ⟨some 54, Op.call { callee := Callee.value (Operand.func 17), args := #[Operand.tmp 50, Operand.tmp 51, Operand.tmp 52, Operand.tmp 53], argTypes := #[69, 25, 3, 3] }, none⟩,
    ⟨some 48, Op.move (Operand.tmp 54), none⟩,
    ⟨some 55, Op.extract (Operand.tmp 48) 0, none⟩,
    ⟨some 56, Op.extract (Operand.tmp 48) 1, none⟩,
    ⟨some 57, Op.extract (Operand.tmp 48) 2, none⟩,
    ⟨some 16, Op.assign (Operand.tmp 55), none⟩,
    ⟨some 17, Op.assign (Operand.tmp 56), none⟩,
    ⟨some 18, Op.assign (Operand.tmp 57), none⟩])
def ir5_s6 : LC := (.block 0 (.seq (.ops [⟨some 114, Op.move (Operand.tmp 3), none⟩,
    ⟨some 115, Op.binOp BinOp.lss 3 (Operand.tmp 114) (Operand.const (Value.int IntKind.i64 0)) 3, none⟩,
    ⟨some 113, Op.assign (Operand.tmp 115), none⟩])
  (.cond (Operand.tmp 113)
  (.seq (.ops [⟨some 116, Op.move (Operand.tmp 18), none⟩,
    ⟨some 117, Op.move (Operand.tmp 116), none⟩,
    ⟨some 118, Op.move (Operand.tmp 17), some (117, false)⟩,
    ⟨some 119, Op.binOp BinOp.neq 25 (Operand.tmp 118) (Operand.const (Value.int IntKind.u32 0)) 25, some (117, false)⟩,
    ⟨some 120, Op.pick (Operand.tmp 117) (Operand.const (Value.bool true)) (Operand.tmp 119), none⟩,
    ⟨some 121, Op.move (Operand.tmp 120), none⟩,
    ⟨some 122, Op.move (Operand.tmp 16), some (121, false)⟩,
    ⟨some 123, Op.call { callee := Callee.builtin Builtin.len, args := #[Operand.tmp 122], argTypes := #[23] }, some (121, false)⟩,
    ⟨some 124, Op.binOp BinOp.neq 3 (Operand.tmp 123) (Operand.const (Value.int IntKind.i64 0)) 3, some (121, false)⟩,
    ⟨some 125, Op.pick (Operand.tmp 121) (Operand.const (Value.bool true)) (Operand.tmp 124), none⟩])
  (.cond (Operand.tmp 125)
  (.seq (.ops [⟨some 12, Op.assign (Operand.const (Value.bool false)), none⟩])
  .ret)
  .skip))
  (.seq (.ops [⟨some 59, Op.move (Operand.tmp 15), none⟩,
    ⟨some 60, Op.move (Operand.tmp 2), none⟩,
    ⟨some 61, Op.move (Operand.tmp 3), none⟩,
    ⟨some 62, Op.move (Operand.tmp 4), none⟩,
    ⟨some 63, Op.call { callee := Callee.value (Operand.func 18), args := #[Operand.tmp 59, Operand.tmp 60, Operand.tmp 61, Operand.tmp 62], argTypes := #[33, 25, 3, 3] }, none⟩,
    ⟨some 58, Op.move (Operand.tmp 63), none⟩,
    ⟨some 64, Op.extract (Operand.tmp 58) 0, none⟩,
    ⟨some 65, Op.extract (Operand.tmp 58) 1, none⟩,
    ⟨some 19, Op.assign (Operand.tmp 64), none⟩,
    ⟨some 20, Op.assign (Operand.tmp 65), none⟩])
  (.seq (.seq (.ops [⟨some 66, Op.move (Operand.tmp 18), none⟩,
    ⟨some 67, Op.move (Operand.tmp 20), none⟩,
    ⟨some 68, Op.binOp BinOp.eql 4 (Operand.tmp 66) (Operand.tmp 67) 4, none⟩,
    ⟨some 69, Op.move (Operand.tmp 68), none⟩,
    ⟨some 70, Op.move (Operand.tmp 17), some (69, false)⟩,
    ⟨some 71, Op.move (Operand.tmp 19), some (69, false)⟩,
    ⟨some 72, Op.binOp BinOp.neq 25 (Operand.tmp 70) (Operand.tmp 71) 25, some (69, false)⟩,
    ⟨some 73, Op.pick (Operand.tmp 69) (Operand.const (Value.bool true)) (Operand.tmp 72), none⟩,
    ⟨some 74, Op.move (Operand.tmp 73), none⟩,
    ⟨some 75, Op.move (Operand.tmp 18), some (74, false)⟩,
    ⟨some 76, Op.move (Operand.tmp 75), some (74, false)⟩,
    ⟨some 77, Op.move (Operand.tmp 16), some (76, true)⟩,
    ⟨some 78, Op.call { callee := Callee.builtin Builtin.len, args := #[Operand.tmp 77], argTypes := #[23] }, some (76, true)⟩,
    ⟨some 79, Op.move (Operand.tmp 3), some (76, true)⟩,
    ⟨some 80, Op.binOp BinOp.neq 3 (Operand.tmp 78) (Operand.tmp 79) 3, some (76, true)⟩,
    ⟨some 81, Op.pick (Operand.tmp 76) (Operand.tmp 80) (Operand.const (Value.bool false)), some (74, false)⟩,
    ⟨some 82, Op.pick (Operand.tmp 74) (Operand.const (Value.bool true)) (Operand.tmp 81), none⟩,
    ⟨some 83, Op.move (Operand.tmp 82), none⟩,
    ⟨some 84, Op.move (Operand.tmp 18), some (83, false)⟩,
    ⟨some 85, Op.unOp UnOp.not 4 (Operand.tmp 84), some (83, false)⟩,
    ⟨some 86, Op.move (Operand.tmp 85), some (83, false)⟩,
    ⟨some 87, Op.move (Operand.tmp 16), some (86, true)⟩,
    ⟨some 88, Op.call { callee := Callee.builtin Builtin.len, args := #[Operand.tmp 87], argTypes := #[23] }, some (86, true)⟩,
    ⟨some 89, Op.binOp BinOp.neq 3 (Operand.tmp 88) (Operand.const (Value.int IntKind.i64 0)) 3, some (86, true)⟩,
    ⟨some 90, Op.pick (Operand.tmp 86) (Operand.tmp 89) (Operand.const (Value.bool false)), some (83, false)⟩,
    ⟨some 91, Op.pick (Operand.tmp 83) (Operand.const (Value.bool true)) (Operand.tmp 90), none⟩])
  (.cond (Operand.tmp 91)
  (.seq (.ops [⟨some 12, Op.assign (Operand.const (Value.bool false)), none⟩])
  .ret)
  .skip))
  (.seq (.ops [⟨some 21, Op.assign (Operand.const (Value.int IntKind.i64 0)), none⟩])
  (.block 1 (.loop ir5_l0))))))))
def ir5_s7 : LC := (.ops [⟨some 126, Op.move (Operand.tmp 5), none⟩,
    ⟨some 127, Op.call { callee := Callee.builtin Builtin.append, args := #[Operand.const (Value.slice none 0 0), Operand.tmp 126], argTypes := #[23, 23] }, none⟩,
    ⟨some 128, Op.buildSlice 23 1 #[(0, Operand.const (Value.int IntKind.u8 119))], none⟩,
    ⟨some 129, Op.call { callee := Callee.builtin Builtin.append, args := #[Operand.tmp 127, Operand.tmp 128], argTypes := #[23, 23] }, none⟩,
    ⟨some 22, Op.assign (Operand.tmp 129), none⟩])
def ir5_s8 : LC := (.ops [⟨some 131, Op.move (Operand.tmp 13), none⟩,
    ⟨some 132, Op.makeInterface 32 (Operand.tmp 131), none⟩,
    ⟨some 133, Op.move (Operand.tmp 2), none⟩,
    ⟨some 134, Op.move (Operand.tmp 22), none⟩,
    ⟨some 135, Op.move (Operand.tmp 5), none⟩,
    ⟨some 136, Op.call { callee := Callee.builtin Builtin.len, args := #[Operand.tmp 135], argTypes := #[23] }, none⟩,
    ⟨some 137, Op.slice 23 (Operand.tmp 134) none (some (Operand.tmp 136)) none, none⟩,
    ⟨some 138, Op.call { callee := Callee.value (Operand.func 19), args := #[Operand.tmp 132, Operand.tmp 133, Operand.tmp 137], argTypes := #[69, 25, 23] }, none⟩,
    ⟨some 130, Op.move (Operand.tmp 138), none⟩,
    ⟨some 139, Op.extract (Operand.tmp 130) 0, none⟩,
    ⟨some 140, Op.extract (Operand.tmp 130) 1, none⟩,
    ⟨some 17, Op.assign (Operand.tmp 139), none⟩,
    ⟨some 18, Op.assign (Operand.tmp 140), none⟩])
def ir5_s9 : LC := (.ops [⟨some 142, Op.move (Operand.tmp 15), none⟩,
    ⟨some 143, Op.move (Operand.tmp 2), none⟩,
    ⟨some 144, Op.move (Operand.tmp 5), none⟩,
    ⟨some 145, Op.call { callee := Callee.builtin Builtin.len, args := #[Operand.tmp 144], argTypes := #[23] }, none⟩,
    ⟨some 146, Op.call { callee := Callee.value (Operand.func 18), args := #[Operand.tmp 142, Operand.tmp 143, Operand.tmp 145, Operand.const (Value.int IntKind.i64 2)], argTypes := #[33, 25, 3, 3] }, none⟩,
    ⟨some 141, Op.move (Operand.tmp 146), none⟩,
    ⟨some 147, Op.extract (Operand.tmp 141) 0, none⟩,
    ⟨some 148, Op.extract (Operand.tmp 141) 1, none⟩,
    ⟨some 23, Op.assign (Operand.tmp 147), none⟩,
    ⟨some 24, Op.assign (Operand.tmp 148), none⟩])
def ir5_s10 : LC := (.seq (.ops [⟨some 149, Op.move (Operand.tmp 18), none⟩,
    ⟨some 150, Op.move (Operand.tmp 24), none⟩,
    ⟨some 151, Op.binOp BinOp.eql 4 (Operand.tmp 149) (Operand.tmp 150) 4, none⟩,
    ⟨some 152, Op.move (Operand.tmp 151), none⟩,
    ⟨some 153, Op.move (Operand.tmp 17), some (152, false)⟩,
    ⟨some 154, Op.move (Operand.tmp 23), some (152, false)⟩,
    ⟨some 155, Op.binOp BinOp.neq 25 (Operand.tmp 153) (Operand.tmp 154) 25, some (152, false)⟩,
    ⟨some 156, Op.pick (Operand.tmp 152) (Operand.const (Value.bool true)) (Operand.tmp 155), none⟩,
    ⟨some 157, Op.move (Operand.tmp 156), none⟩,
    ⟨some 158, Op.move (Operand.tmp 22), some (157, false)⟩,
    ⟨some 159, Op.convert 23 9 (Operand.tmp 158), some (157, false)⟩,
    ⟨some 160, Op.move (Operand.tmp 5), some (157, false)⟩,
    ⟨some 161, Op.convert 23 9 (Operand.tmp 160), some (157, false)⟩,
    ⟨some 162, Op.binOp BinOp.add 9 (Operand.tmp 161) (Operand.const (Value.string { data := #[119] })) 9, some (157, false)⟩,
    ⟨some 163, Op.binOp BinOp.neq 9 (Operand.tmp 159) (Operand.tmp 162) 9, some (157, false)⟩,
    ⟨some 164, Op.pick (Operand.tmp 157) (Operand.const (Value.bool true)) (Operand.tmp 163), none⟩])
  (.cond (Operand.tmp 164)
  (.seq (.ops [⟨some 12, Op.assign (Operand.const (Value.bool false)), none⟩])
  .ret)
  .skip))
def ir5_s11 : LC := (.seq (.ops [⟨some 165, Op.move (Operand.tmp 18), none⟩])
  (.cond (Operand.tmp 165)
  (.seq (.ops [⟨some 25, Op.assign (Operand.const (Value.int IntKind.i64 0)), none⟩])
  (.block 3 (.loop ir5_l1)))
  .skip))
def ir5_s12 : LC := (.draw [⟨some 185, Op.move (Operand.tmp 13), none⟩,
    ⟨some 186, Op.call { callee := Callee.value (Operand.func 14), args := #[Operand.tmp 185], argTypes := #[32] }, none⟩,
    ⟨some 187, Op.convert 23 9 (Operand.tmp 186), none⟩,
    ⟨some 188, Op.move (Operand.tmp 15), none⟩,
    ⟨some 189, Op.nilCheck (Operand.tmp 188), none⟩,
    ⟨some 190, Op.fieldAddr 46 (Operand.tmp 189) 0, none⟩,
    ⟨some 191, Op.load 23 (Operand.tmp 190), none⟩,
    ⟨some 192, Op.convert 23 9 (Operand.tmp 191), none⟩,
    ⟨some 193, Op.binOp BinOp.eql 9 (Operand.tmp 187) (Operand.tmp 192) 9, none⟩,
    ⟨some 194, Op.move (Operand.tmp 193), none⟩,
    ⟨some 195, Op.call { callee := Callee.value (Operand.func 10), args := #[], argTypes := #[] }, some (194, true)⟩,
    ⟨some 196, Op.pick (Operand.tmp 194) (Operand.tmp 195) (Operand.const (Value.bool false)), none⟩,
    ⟨some 12, Op.assign (Operand.tmp 196), none⟩] [(1, 3), (1, 4), (1, 5), (1, 6), (1, 7)])
def ir5_s13 : LC := .ret
def ir5_r13 : LC := ir5_s13
def ir5_r12 : LC := .seq ir5_s12 ir5_r13
def ir5_r11 : LC := .seq ir5_s11 ir5_r12
def ir5_r10 : LC := .seq ir5_s10 ir5_r11
def ir5_r9 : LC := .seq ir5_s9 ir5_r10
def ir5_r8 : LC := .seq ir5_s8 ir5_r9
def ir5_r7 : LC := .seq ir5_s7 ir5_r8
def ir5_r6 : LC := .seq ir5_s6 ir5_r7
def ir5_r5 : LC := .seq ir5_s5 ir5_r6
def ir5_r4 : LC := .seq ir5_s4 ir5_r5
def ir5_r3 : LC := .seq ir5_s3 ir5_r4
def ir5_r2 : LC := .seq ir5_s2 ir5_r3
def ir5_r1 : LC := .seq ir5_s1 ir5_r2
def ir5_r0 : LC := .seq ir5_s0 ir5_r1
theorem ir5_r0_eq : ir5_r0 = .seq ir5_s0 ir5_r1 := rfl
theorem ir5_r1_eq : ir5_r1 = .seq ir5_s1 ir5_r2 := rfl
theorem ir5_r2_eq : ir5_r2 = .seq ir5_s2 ir5_r3 := rfl
theorem ir5_r3_eq : ir5_r3 = .seq ir5_s3 ir5_r4 := rfl
theorem ir5_r4_eq : ir5_r4 = .seq ir5_s4 ir5_r5 := rfl
theorem ir5_r5_eq : ir5_r5 = .seq ir5_s5 ir5_r6 := rfl
theorem ir5_r6_eq : ir5_r6 = .seq ir5_s6 ir5_r7 := rfl
theorem ir5_r7_eq : ir5_r7 = .seq ir5_s7 ir5_r8 := rfl
theorem ir5_r8_eq : ir5_r8 = .seq ir5_s8 ir5_r9 := rfl
theorem ir5_r9_eq : ir5_r9 = .seq ir5_s9 ir5_r10 := rfl
theorem ir5_r10_eq : ir5_r10 = .seq ir5_s10 ir5_r11 := rfl
theorem ir5_r11_eq : ir5_r11 = .seq ir5_s11 ir5_r12 := rfl
theorem ir5_r12_eq : ir5_r12 = .seq ir5_s12 ir5_r13 := rfl
theorem ir5_chain : ir5 = ir5_r0 := rfl
end Go.Proofs.Ytmkdbninmimndaa
