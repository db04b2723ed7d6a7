/- The code of this seat struck bare (printed by program). -/
import Derived.Test.YtmkdbninmimndaaProg
import Derived.Test.YtmkdbninmimndaaVmZ
import Derived.KernelRfl
set_option maxRecDepth 100000
namespace Go.Proofs.Ytmkdbninmimndaa
open Go Go.Vm
def ir7_l0 : LC := (.seq (.seq (.ops [⟨some 38, Op.move (Operand.tmp 14), none⟩,
    ⟨some 39, Op.move (Operand.tmp 1), none⟩,
    ⟨some 40, Op.call { callee := Callee.builtin Builtin.len, args := #[Operand.tmp 39], argTypes := #[24] }, none⟩,
    ⟨some 41, Op.binOp BinOp.lss 3 (Operand.tmp 38) (Operand.tmp 40) 3, none⟩])
  (.cond (Operand.tmp 41)
  .skip
  (.exit 0)))
  (.seq (.block 1 (.ops [⟨some 44, Op.move (Operand.tmp 13), none⟩,
    ⟨some 45, Op.move (Operand.tmp 44), none⟩,
    ⟨some 46, Op.move (Operand.tmp 1), some (45, false)⟩,
    ⟨some 47, Op.move (Operand.tmp 14), some (45, false)⟩,
    ⟨some 48, Op.indexAddr 24 (Operand.tmp 46) (Operand.tmp 47), some (45, false)⟩,
    ⟨some 49, Op.load 3 (Operand.tmp 48), some (45, false)⟩,
    ⟨some 50, Op.binOp BinOp.lss 3 (Operand.tmp 49) (Operand.const (Value.int IntKind.i64 0)) 3, some (45, false)⟩,
    ⟨some 51, Op.pick (Operand.tmp 45) (Operand.const (Value.bool true)) (Operand.tmp 50), none⟩,
    ⟨some 52, Op.move (Operand.tmp 51), none⟩,
    ⟨some 53, Op.move (Operand.tmp 1), some (52, false)⟩,
    ⟨some 54, Op.move (Operand.tmp 14), some (52, false)⟩,
    ⟨some 55, Op.indexAddr 24 (Operand.tmp 53) (Operand.tmp 54), some (52, false)⟩,
    ⟨some 56, Op.load 3 (Operand.tmp 55), some (52, false)⟩,
    ⟨some 57, Op.binOp BinOp.gtr 3 (Operand.tmp 56) (Operand.const (Value.int IntKind.i64 7)) 3, some (52, false)⟩,
    ⟨some 58, Op.pick (Operand.tmp 52) (Operand.const (Value.bool true)) (Operand.tmp 57), none⟩,
    ⟨some 13, Op.assign (Operand.tmp 58), none⟩]))
  (.ops [⟨some 42, Op.move (Operand.tmp 14), none⟩,
    ⟨some 43, Op.binOp BinOp.add 3 (Operand.tmp 42) (Operand.const (Value.int IntKind.i64 1)) 3, none⟩,
    ⟨some 14, Op.assign (Operand.tmp 43), none⟩])))
def ir7 : LC := (.seq (.ops [⟨some 10, Op.assign (Operand.const (Value.bool false)), none⟩])
  (.seq (.seq (.ops [⟨some 20, Op.move (Operand.tmp 0), none⟩,
    ⟨some 21, Op.call { callee := Callee.builtin Builtin.len, args := #[Operand.tmp 20], argTypes := #[23] }, none⟩,
    ⟨some 22, Op.binOp BinOp.gtr 3 (Operand.tmp 21) (Operand.const (Value.int IntKind.i64 9000)) 3, none⟩,
    ⟨some 23, Op.move (Operand.tmp 22), none⟩,
    ⟨some 24, Op.move (Operand.tmp 1), some (23, false)⟩,
    ⟨some 25, Op.call { callee := Callee.builtin Builtin.len, args := #[Operand.tmp 24], argTypes := #[24] }, some (23, false)⟩,
    ⟨some 26, Op.binOp BinOp.gtr 3 (Operand.tmp 25) (Operand.const (Value.int IntKind.i64 40)) 3, some (23, false)⟩,
    ⟨some 27, Op.pick (Operand.tmp 23) (Operand.const (Value.bool true)) (Operand.tmp 26), none⟩])
  (.cond (Operand.tmp 27)
  (.seq (.ops [⟨some 28, Op.call { callee := Callee.value (Operand.func 10), args := #[], argTypes := #[] }, none⟩,
    ⟨some 10, Op.assign (Operand.tmp 28), none⟩])
  .ret)
  .skip))
  (.seq (.ops [⟨some 30, Op.move (Operand.tmp 0), none⟩,
    ⟨some 31, Op.move (Operand.tmp 1), none⟩,
    ⟨some 32, Op.call { callee := Callee.value (Operand.func 16), args := #[Operand.tmp 30, Operand.tmp 31], argTypes := #[23, 24] }, none⟩,
    ⟨some 29, Op.move (Operand.tmp 32), none⟩,
    ⟨some 33, Op.extract (Operand.tmp 29) 0, none⟩,
    ⟨some 34, Op.extract (Operand.tmp 29) 1, none⟩,
    ⟨some 11, Op.assign (Operand.tmp 33), none⟩,
    ⟨some 12, Op.assign (Operand.tmp 34), none⟩])
  (.seq (.ops [⟨some 35, Op.move (Operand.tmp 1), none⟩,
    ⟨some 36, Op.call { callee := Callee.builtin Builtin.len, args := #[Operand.tmp 35], argTypes := #[24] }, none⟩,
    ⟨some 37, Op.binOp BinOp.gtr 3 (Operand.tmp 36) (Operand.const (Value.int IntKind.i64 32)) 3, none⟩,
    ⟨some 13, Op.assign (Operand.tmp 37), none⟩])
  (.seq (.seq (.ops [⟨some 14, Op.assign (Operand.const (Value.int IntKind.i64 0)), none⟩])
  (.block 0 (.loop ir7_l0)))
  (.seq (.seq (.ops [⟨some 59, Op.move (Operand.tmp 0), none⟩,
    ⟨some 60, Op.call { callee := Callee.builtin Builtin.len, args := #[Operand.tmp 59], argTypes := #[23] }, none⟩,
    ⟨some 61, Op.binOp BinOp.gtr 3 (Operand.tmp 60) (Operand.const (Value.int IntKind.i64 8192)) 3, none⟩,
    ⟨some 62, Op.move (Operand.tmp 61), none⟩,
    ⟨some 63, Op.move (Operand.tmp 13), some (62, false)⟩,
    ⟨some 64, Op.pick (Operand.tmp 62) (Operand.const (Value.bool true)) (Operand.tmp 63), none⟩,
    ⟨some 65, Op.move (Operand.tmp 64), none⟩,
    ⟨some 66, Op.move (Operand.tmp 0), some (65, false)⟩,
    ⟨some 67, Op.call { callee := Callee.builtin Builtin.len, args := #[Operand.tmp 66], argTypes := #[23] }, some (65, false)⟩,
    ⟨some 68, Op.move (Operand.tmp 1), some (65, false)⟩,
    ⟨some 69, Op.call { callee := Callee.builtin Builtin.len, args := #[Operand.tmp 68], argTypes := #[24] }, some (65, false)⟩,
    ⟨some 70, Op.binOp BinOp.mul 3 (Operand.tmp 69) (Operand.const (Value.int IntKind.i64 256)) 3, some (65, false)⟩,
    ⟨some 71, Op.binOp BinOp.gtr 3 (Operand.tmp 67) (Operand.tmp 70) 3, some (65, false)⟩,
    ⟨some 72, Op.pick (Operand.tmp 65) (Operand.const (Value.bool true)) (Operand.tmp 71), none⟩])
  (.cond (Operand.tmp 72)
  (.seq (.ops [⟨some 15, Op.assign (Operand.const (Value.int IntKind.i64 3)), none⟩])
  (.seq (.seq (.ops [⟨some 73, Op.move (Operand.tmp 0), none⟩,
    ⟨some 74, Op.call { callee := Callee.builtin Builtin.len, args := #[Operand.tmp 73], argTypes := #[23] }, none⟩,
    ⟨some 75, Op.binOp BinOp.leq 3 (Operand.tmp 74) (Operand.const (Value.int IntKind.i64 8192)) 3, none⟩,
    ⟨some 76, Op.move (Operand.tmp 75), none⟩,
    ⟨some 77, Op.move (Operand.tmp 13), some (76, true)⟩,
    ⟨some 78, Op.pick (Operand.tmp 76) (Operand.tmp 77) (Operand.const (Value.bool false)), none⟩])
  (.cond (Operand.tmp 78)
  (.ops [⟨some 15, Op.assign (Operand.const (Value.int IntKind.i64 2)), none⟩])
  .skip))
  (.seq (.ops [⟨some 79, Op.move (Operand.tmp 11), none⟩,
    ⟨some 80, Op.binOp BinOp.eql 32 (Operand.tmp 79) (Operand.const (Value.pointer none)) 32, none⟩,
    ⟨some 81, Op.move (Operand.tmp 80), none⟩,
    ⟨some 82, Op.move (Operand.tmp 12), some (81, true)⟩,
    ⟨some 83, Op.move (Operand.tmp 15), some (81, true)⟩,
    ⟨some 84, Op.binOp BinOp.eql 39 (Operand.tmp 82) (Operand.tmp 83) 39, some (81, true)⟩,
    ⟨some 85, Op.pick (Operand.tmp 81) (Operand.tmp 84) (Operand.const (Value.bool false)), none⟩,
    ⟨some 86, Op.move (Operand.tmp 85), none⟩,
    ⟨some 87, Op.call { callee := Callee.value (Operand.func 10), args := #[], argTypes := #[] }, some (86, true)⟩,
    ⟨some 88, Op.pick (Operand.tmp 86) (Operand.tmp 87) (Operand.const (Value.bool false)), none⟩,
    ⟨some 10, Op.assign (Operand.tmp 88), none⟩])
  .ret)))
  .skip))
  (.seq (.seq (.ops [⟨some 89, Op.move (Operand.tmp 12), none⟩,
    ⟨some 90, Op.binOp BinOp.neq 39 (Operand.tmp 89) (Operand.const (Value.int IntKind.i64 0)) 39, none⟩])
  (.cond (Operand.tmp 90)
  (.seq (.ops [⟨some 10, Op.assign (Operand.const (Value.bool false)), none⟩])
  .ret)
  .skip))
  (.seq (.ops [⟨some 91, Op.move (Operand.tmp 11), none⟩,
    ⟨some 92, Op.call { callee := Callee.value (Operand.func 14), args := #[Operand.tmp 91], argTypes := #[32] }, none⟩,
    ⟨some 93, Op.move (Operand.tmp 1), none⟩,
    ⟨some 94, Op.build 46 #[(0, Operand.tmp 92), (1, Operand.tmp 93)], none⟩,
    ⟨some 95, Op.box 46 (Operand.tmp 94), none⟩,
    ⟨some 16, Op.assign (Operand.tmp 95), none⟩])
  (.seq (.seq (.draw [⟨some 96, Op.move (Operand.tmp 16), none⟩,
    ⟨some 97, Op.nilCheck (Operand.tmp 96), none⟩,
    ⟨some 98, Op.fieldAddr 46 (Operand.tmp 97) 0, none⟩,
    ⟨some 99, Op.load 23 (Operand.tmp 98), none⟩,
    ⟨some 100, Op.call { callee := Callee.builtin Builtin.len, args := #[Operand.tmp 99], argTypes := #[23] }, none⟩,
    ⟨some 101, Op.move (Operand.tmp 1), none⟩,
    ⟨some 102, Op.call { callee := Callee.builtin Builtin.len, args := #[Operand.tmp 101], argTypes := #[24] }, none⟩,
    ⟨some 103, Op.binOp BinOp.mul 3 (Operand.tmp 102) (Operand.const (Value.int IntKind.i64 256)) 3, none⟩,
    ⟨some 104, Op.binOp BinOp.neq 3 (Operand.tmp 100) (Operand.tmp 103) 3, none⟩,
    ⟨some 105, Op.move (Operand.tmp 104), none⟩,
    ⟨some 106, Op.move (Operand.tmp 16), some (105, false)⟩,
    ⟨some 107, Op.nilCheck (Operand.tmp 106), some (105, false)⟩,
    ⟨some 108, Op.fieldAddr 46 (Operand.tmp 107) 0, some (105, false)⟩,
    ⟨some 109, Op.load 23 (Operand.tmp 108), some (105, false)⟩,
    ⟨some 110, Op.move (Operand.tmp 0), some (105, false)⟩,
    ⟨some 111, Op.call { callee := Callee.builtin Builtin.len, args := #[Operand.tmp 110], argTypes := #[23] }, some (105, false)⟩,
    ⟨some 112, Op.slice 23 (Operand.tmp 109) none (some (Operand.tmp 111)) none, some (105, false)⟩,
    ⟨some 113, Op.convert 23 9 (Operand.tmp 112), some (105, false)⟩,
    ⟨some 114, Op.move (Operand.tmp 0), some (105, false)⟩,
    ⟨some 115, Op.convert 23 9 (Operand.tmp 114), some (105, false)⟩,
    ⟨some 116, Op.binOp BinOp.neq 9 (Operand.tmp 113) (Operand.tmp 115) 9, some (105, false)⟩,
    ⟨some 117, Op.pick (Operand.tmp 105) (Operand.const (Value.bool true)) (Operand.tmp 116), none⟩,
    ⟨some 118, Op.move (Operand.tmp 117), none⟩,
    ⟨some 119, Op.move (Operand.tmp 11), some (118, false)⟩,
    ⟨some 120, Op.move (Operand.tmp 2), some (118, false)⟩,
    ⟨some 121, Op.move (Operand.tmp 3), some (118, false)⟩,
    ⟨some 122, Op.call { callee := Callee.value (Operand.func 21), args := #[Operand.tmp 119, Operand.tmp 120, Operand.tmp 121], argTypes := #[32, 25, 3] }, some (118, false)⟩,
    ⟨some 123, Op.move (Operand.tmp 16), some (118, false)⟩,
    ⟨some 124, Op.move (Operand.tmp 2), some (118, false)⟩,
    ⟨some 125, Op.move (Operand.tmp 3), some (118, false)⟩,
    ⟨some 126, Op.call { callee := Callee.value (Operand.func 22), args := #[Operand.tmp 123, Operand.tmp 124, Operand.tmp 125], argTypes := #[33, 25, 3] }, some (118, false)⟩,
    ⟨some 127, Op.binOp BinOp.neq 4 (Operand.tmp 122) (Operand.tmp 126) 4, some (118, false)⟩,
    ⟨some 128, Op.pick (Operand.tmp 118) (Operand.const (Value.bool true)) (Operand.tmp 127), none⟩] [(26, 27), (26, 28), (26, 29)])
  (.cond (Operand.tmp 128)
  (.seq (.ops [⟨some 10, Op.assign (Operand.const (Value.bool false)), none⟩])
  .ret)
  .skip))
  (.seq (.ops [⟨some 129, Op.move (Operand.tmp 11), none⟩,
    ⟨some 130, Op.call { callee := Callee.value (Operand.func 20), args := #[Operand.tmp 129], argTypes := #[32] }, none⟩,
    ⟨some 17, Op.assign (Operand.tmp 130), none⟩])
  (.seq (.ops [⟨some 131, Op.move (Operand.tmp 17), none⟩,
    ⟨some 132, Op.move (Operand.tmp 2), none⟩,
    ⟨some 133, Op.move (Operand.tmp 4), none⟩,
    ⟨some 134, Op.call { callee := Callee.value (Operand.func 23), args := #[Operand.tmp 131, Operand.tmp 132, Operand.tmp 133], argTypes := #[32, 25, 5] }, none⟩])
  (.seq (.ops [⟨some 135, Op.move (Operand.tmp 2), none⟩,
    ⟨some 136, Op.convert 25 3 (Operand.tmp 135), none⟩,
    ⟨some 137, Op.move (Operand.tmp 16), none⟩,
    ⟨some 138, Op.nilCheck (Operand.tmp 137), none⟩,
    ⟨some 139, Op.fieldAddr 46 (Operand.tmp 138) 0, none⟩,
    ⟨some 140, Op.load 23 (Operand.tmp 139), none⟩,
    ⟨some 141, Op.call { callee := Callee.builtin Builtin.len, args := #[Operand.tmp 140], argTypes := #[23] }, none⟩,
    ⟨some 142, Op.binOp BinOp.lss 3 (Operand.tmp 136) (Operand.tmp 141) 3, none⟩,
    ⟨some 18, Op.assign (Operand.tmp 142), none⟩])
  (.seq (.ops [⟨some 19, Op.assign (Operand.const (Value.int IntKind.u8 0)), none⟩])
  (.seq (.seq (.ops [⟨some 143, Op.move (Operand.tmp 18), none⟩])
  (.cond (Operand.tmp 143)
  (.ops [⟨some 144, Op.move (Operand.tmp 16), none⟩,
    ⟨some 145, Op.nilCheck (Operand.tmp 144), none⟩,
    ⟨some 146, Op.fieldAddr 46 (Operand.tmp 145) 0, none⟩,
    ⟨some 147, Op.load 23 (Operand.tmp 146), none⟩,
    ⟨some 148, Op.move (Operand.tmp 2), none⟩,
    ⟨some 149, Op.indexAddr 23 (Operand.tmp 147) (Operand.tmp 148), none⟩,
    ⟨some 150, Op.load 5 (Operand.tmp 149), none⟩,
    ⟨some 19, Op.assign (Operand.tmp 150), none⟩])
  .skip))
  (.seq (.ops [⟨some 151, Op.move (Operand.tmp 11), none⟩,
    ⟨some 152, Op.move (Operand.tmp 2), none⟩,
    ⟨some 153, Op.call { callee := Callee.value (Operand.func 24), args := #[Operand.tmp 151, Operand.tmp 152], argTypes := #[32, 25] }, none⟩,
    ⟨some 154, Op.move (Operand.tmp 19), none⟩,
    ⟨some 155, Op.binOp BinOp.eql 5 (Operand.tmp 153) (Operand.tmp 154) 5, none⟩,
    ⟨some 156, Op.move (Operand.tmp 155), none⟩,
    ⟨some 157, Op.move (Operand.tmp 18), some (156, true)⟩,
    ⟨some 158, Op.unOp UnOp.not 4 (Operand.tmp 157), some (156, true)⟩,
    ⟨some 159, Op.move (Operand.tmp 158), some (156, true)⟩,
    ⟨some 160, Op.move (Operand.tmp 17), some (159, false)⟩,
    ⟨some 161, Op.move (Operand.tmp 2), some (159, false)⟩,
    ⟨some 162, Op.call { callee := Callee.value (Operand.func 24), args := #[Operand.tmp 160, Operand.tmp 161], argTypes := #[32, 25] }, some (159, false)⟩,
    ⟨some 163, Op.move (Operand.tmp 4), some (159, false)⟩,
    ⟨some 164, Op.binOp BinOp.eql 5 (Operand.tmp 162) (Operand.tmp 163) 5, some (159, false)⟩,
    ⟨some 165, Op.pick (Operand.tmp 159) (Operand.const (Value.bool true)) (Operand.tmp 164), some (156, true)⟩,
    ⟨some 166, Op.pick (Operand.tmp 156) (Operand.tmp 165) (Operand.const (Value.bool false)), none⟩,
    ⟨some 167, Op.move (Operand.tmp 166), none⟩,
    ⟨some 168, Op.move (Operand.tmp 18), some (167, true)⟩,
    ⟨some 169, Op.move (Operand.tmp 168), some (167, true)⟩,
    ⟨some 170, Op.move (Operand.tmp 17), some (169, false)⟩,
    ⟨some 171, Op.move (Operand.tmp 2), some (169, false)⟩,
    ⟨some 172, Op.call { callee := Callee.value (Operand.func 24), args := #[Operand.tmp 170, Operand.tmp 171], argTypes := #[32, 25] }, some (169, false)⟩,
    ⟨some 173, Op.binOp BinOp.eql 5 (Operand.tmp 172) (Operand.const (Value.int IntKind.u8 0)) 5, some (169, false)⟩,
    ⟨some 174, Op.pick (Operand.tmp 169) (Operand.const (Value.bool true)) (Operand.tmp 173), some (167, true)⟩,
    ⟨some 175, Op.pick (Operand.tmp 167) (Operand.tmp 174) (Operand.const (Value.bool false)), none⟩,
    ⟨some 176, Op.move (Operand.tmp 175), none⟩,
    ⟨some 177, Op.call { callee := Callee.value (Operand.func 10), args := #[], argTypes := #[] }, some (176, true)⟩,
    ⟨some 178, Op.pick (Operand.tmp 176) (Operand.tmp 177) (Operand.const (Value.bool false)), none⟩,
    ⟨some 10, Op.assign (Operand.tmp 178), none⟩])
  .ret)))))))))))))))
theorem ir7_eq : (Try.f7.body.map low, Try.f7.ntmps, Try.f7.results.toList) = (some ir7, 179, [.tmp 10]) := by kernel_rfl
def ir14 : LC := (.seq (.ops [⟨some 2, Op.assign (Operand.const (Value.slice none 0 0)), none⟩])
  (.seq (.seq (.ops [⟨some 3, Op.move (Operand.tmp 0), none⟩,
    ⟨some 4, Op.binOp BinOp.eql 32 (Operand.tmp 3) (Operand.const (Value.pointer none)) 32, none⟩])
  (.cond (Operand.tmp 4)
  (.seq (.ops [⟨some 2, Op.assign (Operand.const (Value.slice none 0 0)), none⟩])
  .ret)
  .skip))
  (.seq (.ops [⟨some 5, Op.move (Operand.tmp 0), none⟩,
    ⟨some 6, Op.nilCheck (Operand.tmp 5), none⟩,
    ⟨some 7, Op.fieldAddr 80 (Operand.tmp 6) 0, none⟩,
    ⟨some 8, Op.load 23 (Operand.tmp 7), none⟩,
    ⟨some 9, Op.call { callee := Callee.value (Operand.func 29), args := #[Operand.tmp 8], argTypes := #[23] }, none⟩,
    ⟨some 2, Op.assign (Operand.tmp 9), none⟩])
  .ret)))
theorem ir14_eq : (Try.f14.body.map low, Try.f14.ntmps, Try.f14.results.toList) = (some ir14, 10, [.tmp 2]) := by kernel_rfl
def ir16_l0 : LC := (.seq (.ops [⟨some 18, Op.binOp BinOp.lss 3 (Operand.tmp 17) (Operand.tmp 16) 3, none⟩])
  (.seq (.cond (Operand.tmp 18)
  .skip
  (.exit 0))
  (.seq (.block 1 (.seq (.ops [⟨some 19, Op.indexAddr 24 (Operand.tmp 15) (Operand.tmp 17), none⟩,
    ⟨some 20, Op.load 3 (Operand.tmp 19), none⟩,
    ⟨some 8, Op.assign (Operand.tmp 20), none⟩])
  (.ops [⟨some 21, Op.move (Operand.tmp 6), none⟩,
    ⟨some 22, Op.move (Operand.tmp 21), none⟩,
    ⟨some 23, Op.move (Operand.tmp 8), some (22, false)⟩,
    ⟨some 24, Op.binOp BinOp.lss 3 (Operand.tmp 23) (Operand.const (Value.int IntKind.i64 0)) 3, some (22, false)⟩,
    ⟨some 25, Op.pick (Operand.tmp 22) (Operand.const (Value.bool true)) (Operand.tmp 24), none⟩,
    ⟨some 26, Op.move (Operand.tmp 25), none⟩,
    ⟨some 27, Op.move (Operand.tmp 8), some (26, false)⟩,
    ⟨some 28, Op.binOp BinOp.gtr 3 (Operand.tmp 27) (Operand.const (Value.int IntKind.i64 7)) 3, some (26, false)⟩,
    ⟨some 29, Op.pick (Operand.tmp 26) (Operand.const (Value.bool true)) (Operand.tmp 28), none⟩,
    ⟨some 6, Op.assign (Operand.tmp 29), none⟩])))
  (.ops [⟨some 30, Op.binOp BinOp.add 3 (Operand.tmp 17) (Operand.const (Value.int IntKind.i64 1)) 3, none⟩,
    ⟨some 17, Op.move (Operand.tmp 30), none⟩]))))
def ir16 : LC := (.seq (.ops [⟨some 4, Op.assign (Operand.const (Value.pointer none)), none⟩,
    ⟨some 5, Op.assign (Operand.const (Value.int IntKind.i64 0)), none⟩])
  (.seq (.seq (.ops [⟨some 9, Op.move (Operand.tmp 0), none⟩,
    ⟨some 10, Op.call { callee := Callee.builtin Builtin.len, args := #[Operand.tmp 9], argTypes := #[23] }, none⟩,
    ⟨some 11, Op.binOp BinOp.gtr 3 (Operand.tmp 10) (Operand.const (Value.int IntKind.i64 8192)) 3, none⟩])
  (.cond (Operand.tmp 11)
  (.seq (.ops [⟨some 4, Op.assign (Operand.const (Value.pointer none)), none⟩,
    ⟨some 5, Op.assign (Operand.const (Value.int IntKind.i64 3)), none⟩])
  .ret)
  .skip))
  (.seq (.ops [⟨some 12, Op.move (Operand.tmp 1), none⟩,
    ⟨some 13, Op.call { callee := Callee.builtin Builtin.len, args := #[Operand.tmp 12], argTypes := #[24] }, none⟩,
    ⟨some 14, Op.binOp BinOp.gtr 3 (Operand.tmp 13) (Operand.const (Value.int IntKind.i64 32)) 3, none⟩,
    ⟨some 6, Op.assign (Operand.tmp 14), none⟩])
  (.seq (.seq (.ops [⟨some 15, Op.move (Operand.tmp 1), none⟩,
    ⟨some 16, Op.call { callee := Callee.builtin Builtin.len, args := #[Operand.tmp 15], argTypes := #[24] }, none⟩,
    ⟨some 17, Op.move (Operand.const (Value.int IntKind.i64 0)), none⟩])
  (.block 0 (.loop ir16_l0)))
  (.seq (.block 2 (.seq (.ops [⟨some 32, Op.move (Operand.tmp 6), none⟩,
    ⟨some 31, Op.assign (Operand.tmp 32), none⟩])
  (.cond (Operand.tmp 31)
  (.seq (.ops [⟨some 4, Op.assign (Operand.const (Value.pointer none)), none⟩,
    ⟨some 5, Op.assign (Operand.const (Value.int IntKind.i64 2)), none⟩])
  .ret)
  (.seq (.ops [⟨some 34, Op.move (Operand.tmp 0), none⟩,
    ⟨some 35, Op.call { callee := Callee.builtin Builtin.len, args := #[Operand.tmp 34], argTypes := #[23] }, none⟩,
    ⟨some 36, Op.move (Operand.tmp 1), none⟩,
    ⟨some 37, Op.call { callee := Callee.builtin Builtin.len, args := #[Operand.tmp 36], argTypes := #[24] }, none⟩,
    ⟨some 38, Op.binOp BinOp.mul 3 (Operand.tmp 37) (Operand.const (Value.int IntKind.i64 256)) 3, none⟩,
    ⟨some 39, Op.binOp BinOp.gtr 3 (Operand.tmp 35) (Operand.tmp 38) 3, none⟩,
    ⟨some 33, Op.assign (Operand.tmp 39), none⟩])
  (.cond (Operand.tmp 33)
  (.seq (.ops [⟨some 4, Op.assign (Operand.const (Value.pointer none)), none⟩,
    ⟨some 5, Op.assign (Operand.const (Value.int IntKind.i64 3)), none⟩])
  .ret)
  .skip)))))
  (.seq (.ops [⟨some 40, Op.move (Operand.tmp 0), none⟩,
    ⟨some 41, Op.call { callee := Callee.value (Operand.func 29), args := #[Operand.tmp 40], argTypes := #[23] }, none⟩,
    ⟨some 42, Op.move (Operand.tmp 1), none⟩,
    ⟨some 43, Op.call { callee := Callee.builtin Builtin.len, args := #[Operand.tmp 42], argTypes := #[24] }, none⟩,
    ⟨some 44, Op.binOp BinOp.mul 3 (Operand.tmp 43) (Operand.const (Value.int IntKind.i64 256)) 3, none⟩,
    ⟨some 45, Op.move (Operand.tmp 0), none⟩,
    ⟨some 46, Op.call { callee := Callee.builtin Builtin.len, args := #[Operand.tmp 45], argTypes := #[23] }, none⟩,
    ⟨some 47, Op.binOp BinOp.sub 3 (Operand.tmp 44) (Operand.tmp 46) 3, none⟩,
    ⟨some 48, Op.call { callee := Callee.builtin Builtin.append, args := #[Operand.tmp 41, Operand.tmp 47], argTypes := #[23, 3] }, none⟩,
    ⟨some 49, Op.move (Operand.tmp 1), none⟩,
    ⟨some 50, Op.call { callee := Callee.value (Operand.func 31), args := #[Operand.tmp 49], argTypes := #[24] }, none⟩,
    ⟨some 51, Op.build 80 #[(0, Operand.tmp 48), (1, Operand.tmp 50)], none⟩,
    ⟨some 52, Op.box 80 (Operand.tmp 51), none⟩,
    ⟨some 4, Op.assign (Operand.tmp 52), none⟩,
    ⟨some 5, Op.assign (Operand.const (Value.int IntKind.i64 0)), none⟩])
  .ret))))))
theorem ir16_eq : (Try.f16.body.map low, Try.f16.ntmps, Try.f16.results.toList) = (some ir16, 53, [.tmp 4, .tmp 5]) := by kernel_rfl
def ir20 : LC := (.seq (.ops [⟨some 2, Op.assign (Operand.const (Value.pointer none)), none⟩])
  (.seq (.seq (.ops [⟨some 3, Op.move (Operand.tmp 0), none⟩,
    ⟨some 4, Op.binOp BinOp.eql 32 (Operand.tmp 3) (Operand.const (Value.pointer none)) 32, none⟩])
  (.cond (Operand.tmp 4)
  (.seq (.ops [⟨some 2, Op.assign (Operand.const (Value.pointer none)), none⟩])
  .ret)
  .skip))
  (.seq (.draw [⟨some 5, Op.move (Operand.tmp 0), none⟩,
    ⟨some 6, Op.nilCheck (Operand.tmp 5), none⟩,
    ⟨some 7, Op.fieldAddr 80 (Operand.tmp 6) 0, none⟩,
    ⟨some 8, Op.load 23 (Operand.tmp 7), none⟩,
    ⟨some 9, Op.call { callee := Callee.value (Operand.func 29), args := #[Operand.tmp 8], argTypes := #[23] }, none⟩,
    ⟨some 10, Op.move (Operand.tmp 0), none⟩,
    ⟨some 11, Op.nilCheck (Operand.tmp 10), none⟩,
    ⟨some 12, Op.fieldAddr 80 (Operand.tmp 11) 1, none⟩,
    ⟨some 13, Op.load 24 (Operand.tmp 12), none⟩,
    ⟨some 14, Op.call { callee := Callee.value (Operand.func 31), args := #[Operand.tmp 13], argTypes := #[24] }, none⟩,
    ⟨some 15, Op.build 80 #[(0, Operand.tmp 9), (1, Operand.tmp 14)], none⟩,
    ⟨some 16, Op.box 80 (Operand.tmp 15), none⟩,
    ⟨some 2, Op.assign (Operand.tmp 16), none⟩] [(4, 5), (4, 6), (4, 7), (4, 8)])
  .ret)))
theorem ir20_eq : (Try.f20.body.map low, Try.f20.ntmps, Try.f20.results.toList) = (some ir20, 17, [.tmp 2]) := by kernel_rfl
def ir21 : LC := (.seq (.ops [⟨some 6, Op.assign (Operand.const (Value.bool false)), none⟩])
  (.seq (.seq (.ops [⟨some 7, Op.move (Operand.tmp 0), none⟩,
    ⟨some 8, Op.binOp BinOp.eql 32 (Operand.tmp 7) (Operand.const (Value.pointer none)) 32, none⟩,
    ⟨some 9, Op.move (Operand.tmp 8), none⟩,
    ⟨some 10, Op.move (Operand.tmp 2), some (9, false)⟩,
    ⟨some 11, Op.binOp BinOp.lss 3 (Operand.tmp 10) (Operand.const (Value.int IntKind.i64 1)) 3, some (9, false)⟩,
    ⟨some 12, Op.pick (Operand.tmp 9) (Operand.const (Value.bool true)) (Operand.tmp 11), none⟩,
    ⟨some 13, Op.move (Operand.tmp 12), none⟩,
    ⟨some 14, Op.move (Operand.tmp 2), some (13, false)⟩,
    ⟨some 15, Op.binOp BinOp.gtr 3 (Operand.tmp 14) (Operand.const (Value.int IntKind.i64 7)) 3, some (13, false)⟩,
    ⟨some 16, Op.pick (Operand.tmp 13) (Operand.const (Value.bool true)) (Operand.tmp 15), none⟩,
    ⟨some 17, Op.move (Operand.tmp 16), none⟩,
    ⟨some 18, Op.move (Operand.tmp 1), some (17, false)⟩,
    ⟨some 19, Op.convert 25 85 (Operand.tmp 18), some (17, false)⟩,
    ⟨some 20, Op.move (Operand.tmp 0), some (17, false)⟩,
    ⟨some 21, Op.nilCheck (Operand.tmp 20), some (17, false)⟩,
    ⟨some 22, Op.fieldAddr 80 (Operand.tmp 21) 0, some (17, false)⟩,
    ⟨some 23, Op.load 23 (Operand.tmp 22), some (17, false)⟩,
    ⟨some 24, Op.call { callee := Callee.builtin Builtin.len, args := #[Operand.tmp 23], argTypes := #[23] }, some (17, false)⟩,
    ⟨some 25, Op.convert 3 85 (Operand.tmp 24), some (17, false)⟩,
    ⟨some 26, Op.binOp BinOp.geq 85 (Operand.tmp 19) (Operand.tmp 25) 85, some (17, false)⟩,
    ⟨some 27, Op.pick (Operand.tmp 17) (Operand.const (Value.bool true)) (Operand.tmp 26), none⟩])
  (.cond (Operand.tmp 27)
  (.seq (.ops [⟨some 6, Op.assign (Operand.const (Value.bool false)), none⟩])
  .ret)
  .skip))
  (.seq (.ops [⟨some 28, Op.move (Operand.tmp 0), none⟩,
    ⟨some 29, Op.nilCheck (Operand.tmp 28), none⟩,
    ⟨some 30, Op.fieldAddr 80 (Operand.tmp 29) 1, none⟩,
    ⟨some 31, Op.load 24 (Operand.tmp 30), none⟩,
    ⟨some 32, Op.move (Operand.tmp 1), none⟩,
    ⟨some 33, Op.binOp BinOp.quo 25 (Operand.tmp 32) (Operand.const (Value.int IntKind.u32 256)) 25, none⟩,
    ⟨some 34, Op.indexAddr 24 (Operand.tmp 31) (Operand.tmp 33), none⟩,
    ⟨some 35, Op.load 3 (Operand.tmp 34), none⟩,
    ⟨some 36, Op.move (Operand.tmp 2), none⟩,
    ⟨some 37, Op.binOp BinOp.and 3 (Operand.tmp 35) (Operand.tmp 36) 3, none⟩,
    ⟨some 38, Op.move (Operand.tmp 2), none⟩,
    ⟨some 39, Op.binOp BinOp.eql 3 (Operand.tmp 37) (Operand.tmp 38) 3, none⟩,
    ⟨some 6, Op.assign (Operand.tmp 39), none⟩])
  .ret)))
theorem ir21_eq : (Try.f21.body.map low, Try.f21.ntmps, Try.f21.results.toList) = (some ir21, 40, [.tmp 6]) := by kernel_rfl
def ir22 : LC := (.seq (.ops [⟨some 6, Op.assign (Operand.const (Value.bool false)), none⟩])
  (.seq (.ops [⟨some 8, Op.move (Operand.tmp 1), none⟩,
    ⟨some 9, Op.convert 25 3 (Operand.tmp 8), none⟩,
    ⟨some 10, Op.binOp BinOp.quo 3 (Operand.tmp 9) (Operand.const (Value.int IntKind.i64 256)) 3, none⟩,
    ⟨some 7, Op.assign (Operand.tmp 10), none⟩])
  (.seq (.ops [⟨some 11, Op.move (Operand.tmp 2), none⟩,
    ⟨some 12, Op.binOp BinOp.geq 3 (Operand.tmp 11) (Operand.const (Value.int IntKind.i64 1)) 3, none⟩,
    ⟨some 13, Op.move (Operand.tmp 12), none⟩,
    ⟨some 14, Op.move (Operand.tmp 2), some (13, true)⟩,
    ⟨some 15, Op.binOp BinOp.leq 3 (Operand.tmp 14) (Operand.const (Value.int IntKind.i64 7)) 3, some (13, true)⟩,
    ⟨some 16, Op.pick (Operand.tmp 13) (Operand.tmp 15) (Operand.const (Value.bool false)), none⟩,
    ⟨some 17, Op.move (Operand.tmp 16), none⟩,
    ⟨some 18, Op.move (Operand.tmp 7), some (17, true)⟩,
    ⟨some 19, Op.move (Operand.tmp 0), some (17, true)⟩,
    ⟨some 20, Op.nilCheck (Operand.tmp 19), some (17, true)⟩,
    ⟨some 21, Op.fieldAddr 46 (Operand.tmp 20) 1, some (17, true)⟩,
    ⟨some 22, Op.load 24 (Operand.tmp 21), some (17, true)⟩,
    ⟨some 23, Op.call { callee := Callee.builtin Builtin.len, args := #[Operand.tmp 22], argTypes := #[24] }, some (17, true)⟩,
    ⟨some 24, Op.binOp BinOp.lss 3 (Operand.tmp 18) (Operand.tmp 23) 3, some (17, true)⟩,
    ⟨some 25, Op.pick (Operand.tmp 17) (Operand.tmp 24) (Operand.const (Value.bool false)), none⟩,
    ⟨some 26, Op.move (Operand.tmp 25), none⟩,
    ⟨some 27, Op.move (Operand.tmp 0), some (26, true)⟩,
    ⟨some 28, Op.nilCheck (Operand.tmp 27), some (26, true)⟩,
    ⟨some 29, Op.fieldAddr 46 (Operand.tmp 28) 1, some (26, true)⟩,
    ⟨some 30, Op.load 24 (Operand.tmp 29), some (26, true)⟩,
    ⟨some 31, Op.move (Operand.tmp 7), some (26, true)⟩,
    ⟨some 32, Op.indexAddr 24 (Operand.tmp 30) (Operand.tmp 31), some (26, true)⟩,
    ⟨some 33, Op.load 3 (Operand.tmp 32), some (26, true)⟩,
    ⟨some 34, Op.move (Operand.tmp 2), some (26, true)⟩,
    ⟨some 35, Op.binOp BinOp.and 3 (Operand.tmp 33) (Operand.tmp 34) 3, some (26, true)⟩,
    ⟨some 36, Op.move (Operand.tmp 2), some (26, true)⟩,
    ⟨some 37, Op.binOp BinOp.eql 3 (Operand.tmp 35) (Operand.tmp 36) 3, some (26, true)⟩,
    ⟨some 38, Op.pick (Operand.tmp 26) (Operand.tmp 37) (Operand.const (Value.bool false)), none⟩,
    ⟨some 6, Op.assign (Operand.tmp 38), none⟩])
  .ret)))
theorem ir22_eq : (Try.f22.body.map low, Try.f22.ntmps, Try.f22.results.toList) = (some ir22, 39, [.tmp 6]) := by kernel_rfl
def ir23 : LC := (.seq (.ops [⟨some 6, Op.move (Operand.tmp 0), none⟩,
    ⟨some 7, Op.binOp BinOp.neq 32 (Operand.tmp 6) (Operand.const (Value.pointer none)) 32, none⟩,
    ⟨some 8, Op.move (Operand.tmp 7), none⟩,
    ⟨some 9, Op.move (Operand.tmp 1), some (8, true)⟩,
    ⟨some 10, Op.convert 25 85 (Operand.tmp 9), some (8, true)⟩,
    ⟨some 11, Op.move (Operand.tmp 0), some (8, true)⟩,
    ⟨some 12, Op.nilCheck (Operand.tmp 11), some (8, true)⟩,
    ⟨some 13, Op.fieldAddr 80 (Operand.tmp 12) 0, some (8, true)⟩,
    ⟨some 14, Op.load 23 (Operand.tmp 13), some (8, true)⟩,
    ⟨some 15, Op.call { callee := Callee.builtin Builtin.len, args := #[Operand.tmp 14], argTypes := #[23] }, some (8, true)⟩,
    ⟨some 16, Op.convert 3 85 (Operand.tmp 15), some (8, true)⟩,
    ⟨some 17, Op.binOp BinOp.lss 85 (Operand.tmp 10) (Operand.tmp 16) 85, some (8, true)⟩,
    ⟨some 18, Op.pick (Operand.tmp 8) (Operand.tmp 17) (Operand.const (Value.bool false)), none⟩])
  (.cond (Operand.tmp 18)
  (.ops [⟨some 19, Op.move (Operand.tmp 0), none⟩,
    ⟨some 20, Op.nilCheck (Operand.tmp 19), none⟩,
    ⟨some 21, Op.fieldAddr 80 (Operand.tmp 20) 0, none⟩,
    ⟨some 22, Op.load 23 (Operand.tmp 21), none⟩,
    ⟨some 23, Op.move (Operand.tmp 1), none⟩,
    ⟨some 24, Op.move (Operand.tmp 2), none⟩,
    ⟨some 25, Op.indexAddr 23 (Operand.tmp 22) (Operand.tmp 23), none⟩,
    ⟨none, Op.store 5 (Operand.tmp 25) (Operand.tmp 24), none⟩])
  .skip))
theorem ir23_eq : (Try.f23.body.map low, Try.f23.ntmps, Try.f23.results.toList) = (some ir23, 26, []) := by kernel_rfl
def ir24 : LC := (.seq (.ops [⟨some 4, Op.assign (Operand.const (Value.int IntKind.u8 0)), none⟩])
  (.seq (.seq (.ops [⟨some 5, Op.move (Operand.tmp 0), none⟩,
    ⟨some 6, Op.binOp BinOp.eql 32 (Operand.tmp 5) (Operand.const (Value.pointer none)) 32, none⟩,
    ⟨some 7, Op.move (Operand.tmp 6), none⟩,
    ⟨some 8, Op.move (Operand.tmp 1), some (7, false)⟩,
    ⟨some 9, Op.convert 25 85 (Operand.tmp 8), some (7, false)⟩,
    ⟨some 10, Op.move (Operand.tmp 0), some (7, false)⟩,
    ⟨some 11, Op.nilCheck (Operand.tmp 10), some (7, false)⟩,
    ⟨some 12, Op.fieldAddr 80 (Operand.tmp 11) 0, some (7, false)⟩,
    ⟨some 13, Op.load 23 (Operand.tmp 12), some (7, false)⟩,
    ⟨some 14, Op.call { callee := Callee.builtin Builtin.len, args := #[Operand.tmp 13], argTypes := #[23] }, some (7, false)⟩,
    ⟨some 15, Op.convert 3 85 (Operand.tmp 14), some (7, false)⟩,
    ⟨some 16, Op.binOp BinOp.geq 85 (Operand.tmp 9) (Operand.tmp 15) 85, some (7, false)⟩,
    ⟨some 17, Op.pick (Operand.tmp 7) (Operand.const (Value.bool true)) (Operand.tmp 16), none⟩])
  (.cond (Operand.tmp 17)
  (.seq (.ops [⟨some 4, Op.assign (Operand.const (Value.int IntKind.u8 0)), none⟩])
  .ret)
  .skip))
  (.seq (.ops [⟨some 18, Op.move (Operand.tmp 0), none⟩,
    ⟨some 19, Op.nilCheck (Operand.tmp 18), none⟩,
    ⟨some 20, Op.fieldAddr 80 (Operand.tmp 19) 0, none⟩,
    ⟨some 21, Op.load 23 (Operand.tmp 20), none⟩,
    ⟨some 22, Op.move (Operand.tmp 1), none⟩,
    ⟨some 23, Op.indexAddr 23 (Operand.tmp 21) (Operand.tmp 22), none⟩,
    ⟨some 24, Op.load 5 (Operand.tmp 23), none⟩,
    ⟨some 4, Op.assign (Operand.tmp 24), none⟩])
  .ret)))
theorem ir24_eq : (Try.f24.body.map low, Try.f24.ntmps, Try.f24.results.toList) = (some ir24, 25, [.tmp 4]) := by kernel_rfl
def ir29 : LC := (.seq (.ops [⟨some 2, Op.assign (Operand.const (Value.slice none 0 0)), none⟩])
  (.seq (.seq (.ops [⟨some 3, Op.move (Operand.tmp 0), none⟩,
    ⟨some 4, Op.binOp BinOp.eql 23 (Operand.tmp 3) (Operand.const (Value.slice none 0 0)) 23, none⟩])
  (.cond (Operand.tmp 4)
  (.seq (.ops [⟨some 2, Op.assign (Operand.const (Value.slice none 0 0)), none⟩])
  .ret)
  .skip))
  (.seq (.ops [⟨some 5, Op.buildSlice 23 0 #[], none⟩,
    ⟨some 6, Op.move (Operand.tmp 0), none⟩,
    ⟨some 7, Op.call { callee := Callee.builtin Builtin.append, args := #[Operand.tmp 5, Operand.tmp 6], argTypes := #[23, 23] }, none⟩,
    ⟨some 2, Op.assign (Operand.tmp 7), none⟩])
  .ret)))
theorem ir29_eq : (Try.f29.body.map low, Try.f29.ntmps, Try.f29.results.toList) = (some ir29, 8, [.tmp 2]) := by kernel_rfl
def ir31 : LC := (.seq (.ops [⟨some 2, Op.assign (Operand.const (Value.slice none 0 0)), none⟩])
  (.seq (.seq (.ops [⟨some 3, Op.move (Operand.tmp 0), none⟩,
    ⟨some 4, Op.binOp BinOp.eql 24 (Operand.tmp 3) (Operand.const (Value.slice none 0 0)) 24, none⟩])
  (.cond (Operand.tmp 4)
  (.seq (.ops [⟨some 2, Op.assign (Operand.const (Value.slice none 0 0)), none⟩])
  .ret)
  .skip))
  (.seq (.ops [⟨some 5, Op.buildSlice 24 0 #[], none⟩,
    ⟨some 6, Op.move (Operand.tmp 0), none⟩,
    ⟨some 7, Op.call { callee := Callee.builtin Builtin.append, args := #[Operand.tmp 5, Operand.tmp 6], argTypes := #[24, 24] }, none⟩,
    ⟨some 2, Op.assign (Operand.tmp 7), none⟩])
  .ret)))
theorem ir31_eq : (Try.f31.body.map low, Try.f31.ntmps, Try.f31.results.toList) = (some ir31, 8, [.tmp 2]) := by kernel_rfl

end Go.Proofs.Ytmkdbninmimndaa
