/- The code of this seat struck bare (printed by program). -/
import Derived.Test.YtmkdbninmimndaaProg
import Derived.Test.YtmkdbninmimndaaVmZ
import Derived.KernelRfl
set_option maxRecDepth 100000
namespace Go.Proofs.Ytmkdbninmimndaa
open Go Go.Vm
def ir5_l0 : LC := (.seq (.seq (.ops [⟨some 92, Op.move (Operand.tmp 21), none⟩,
    ⟨some 93, Op.move (Operand.tmp 16), none⟩,
    ⟨some 94, Op.call { callee := Callee.builtin Builtin.len, args := #[Operand.tmp 93], argTypes := #[23] }, none⟩,
    ⟨some 95, Op.binOp BinOp.lss 3 (Operand.tmp 92) (Operand.tmp 94) 3, none⟩])
  (.cond (Operand.tmp 95)
  .skip
  (.exit 1)))
  (.seq (.block 2 (.seq (.draw [⟨some 98, Op.move (Operand.tmp 16), none⟩,
    ⟨some 99, Op.move (Operand.tmp 21), none⟩,
    ⟨some 100, Op.indexAddr 23 (Operand.tmp 98) (Operand.tmp 99), none⟩,
    ⟨some 101, Op.load 5 (Operand.tmp 100), none⟩,
    ⟨some 102, Op.move (Operand.tmp 15), none⟩,
    ⟨some 103, Op.nilCheck (Operand.tmp 102), none⟩,
    ⟨some 104, Op.fieldAddr 46 (Operand.tmp 103) 0, none⟩,
    ⟨some 105, Op.load 23 (Operand.tmp 104), none⟩,
    ⟨some 106, Op.move (Operand.tmp 2), none⟩,
    ⟨some 107, Op.move (Operand.tmp 21), none⟩,
    ⟨some 108, Op.convert 3 25 (Operand.tmp 107), none⟩,
    ⟨some 109, Op.binOp BinOp.add 25 (Operand.tmp 106) (Operand.tmp 108) 25, none⟩,
    ⟨some 110, Op.indexAddr 23 (Operand.tmp 105) (Operand.tmp 109), none⟩,
    ⟨some 111, Op.load 5 (Operand.tmp 110), none⟩,
    ⟨some 112, Op.binOp BinOp.neq 5 (Operand.tmp 101) (Operand.tmp 111) 5, none⟩] [])
  (.cond (Operand.tmp 112)
  (.seq (.ops [⟨some 12, Op.assign (Operand.const (Value.bool false)), none⟩])
  .ret)
  .skip)))
  (.ops [⟨some 96, Op.move (Operand.tmp 21), none⟩,
    ⟨some 97, Op.binOp BinOp.add 3 (Operand.tmp 96) (Operand.const (Value.int IntKind.i64 1)) 3, none⟩,
    ⟨some 21, Op.assign (Operand.tmp 97), none⟩])))
def ir5_l1 : LC := (.seq (.seq (.ops [⟨some 166, Op.move (Operand.tmp 25), none⟩,
    ⟨some 167, Op.move (Operand.tmp 5), none⟩,
    ⟨some 168, Op.call { callee := Callee.builtin Builtin.len, args := #[Operand.tmp 167], argTypes := #[23] }, none⟩,
    ⟨some 169, Op.binOp BinOp.lss 3 (Operand.tmp 166) (Operand.tmp 168) 3, none⟩])
  (.cond (Operand.tmp 169)
  .skip
  (.exit 3)))
  (.seq (.block 4 (.draw [⟨some 172, Op.move (Operand.tmp 15), none⟩,
    ⟨some 173, Op.nilCheck (Operand.tmp 172), none⟩,
    ⟨some 174, Op.fieldAddr 46 (Operand.tmp 173) 0, none⟩,
    ⟨some 175, Op.load 23 (Operand.tmp 174), none⟩,
    ⟨some 176, Op.move (Operand.tmp 2), none⟩,
    ⟨some 177, Op.move (Operand.tmp 25), none⟩,
    ⟨some 178, Op.convert 3 25 (Operand.tmp 177), none⟩,
    ⟨some 179, Op.binOp BinOp.add 25 (Operand.tmp 176) (Operand.tmp 178) 25, none⟩,
    ⟨some 180, Op.move (Operand.tmp 5), none⟩,
    ⟨some 181, Op.move (Operand.tmp 25), none⟩,
    ⟨some 182, Op.indexAddr 23 (Operand.tmp 180) (Operand.tmp 181), none⟩,
    ⟨some 183, Op.load 5 (Operand.tmp 182), none⟩,
    ⟨some 184, Op.indexAddr 23 (Operand.tmp 175) (Operand.tmp 179), none⟩,
    ⟨none, Op.store 5 (Operand.tmp 184) (Operand.tmp 183), none⟩] []))
  (.ops [⟨some 170, Op.move (Operand.tmp 25), none⟩,
    ⟨some 171, Op.binOp BinOp.add 3 (Operand.tmp 170) (Operand.const (Value.int IntKind.i64 1)) 3, none⟩,
    ⟨some 25, Op.assign (Operand.tmp 171), none⟩])))
def ir5 : LC := (.seq (.ops [⟨some 12, Op.assign (Operand.const (Value.bool false)), none⟩])
  (.seq (.seq (.ops [⟨some 26, Op.move (Operand.tmp 5), none⟩,
    ⟨some 27, Op.call { callee := Callee.builtin Builtin.len, args := #[Operand.tmp 26], argTypes := #[23] }, none⟩,
    ⟨some 28, Op.binOp BinOp.gtr 3 (Operand.tmp 27) (Operand.const (Value.int IntKind.i64 3000)) 3, none⟩,
    ⟨some 29, Op.move (Operand.tmp 28), none⟩,
    ⟨some 30, Op.move (Operand.tmp 3), some (29, false)⟩,
    ⟨some 31, Op.binOp BinOp.gtr 3 (Operand.tmp 30) (Operand.const (Value.int IntKind.i64 3000)) 3, some (29, false)⟩,
    ⟨some 32, Op.pick (Operand.tmp 29) (Operand.const (Value.bool true)) (Operand.tmp 31), none⟩])
  (.cond (Operand.tmp 32)
  (.seq (.ops [⟨some 33, Op.call { callee := Callee.value (Operand.func 10), args := #[], argTypes := #[] }, none⟩,
    ⟨some 12, Op.assign (Operand.tmp 33), none⟩])
  .ret)
  .skip))
  (.seq (.ops [⟨some 35, Op.move (Operand.tmp 0), none⟩,
    ⟨some 36, Op.move (Operand.tmp 1), none⟩,
    ⟨some 37, Op.call { callee := Callee.value (Operand.func 16), args := #[Operand.tmp 35, Operand.tmp 36], argTypes := #[23, 24] }, none⟩,
    ⟨some 34, Op.move (Operand.tmp 37), none⟩,
    ⟨some 38, Op.extract (Operand.tmp 34) 0, none⟩,
    ⟨some 39, Op.extract (Operand.tmp 34) 1, none⟩,
    ⟨some 13, Op.assign (Operand.tmp 38), none⟩,
    ⟨some 14, Op.assign (Operand.tmp 39), none⟩])
  (.seq (.seq (.ops [⟨some 40, Op.move (Operand.tmp 14), none⟩,
    ⟨some 41, Op.binOp BinOp.neq 39 (Operand.tmp 40) (Operand.const (Value.int IntKind.i64 0)) 39, none⟩])
  (.cond (Operand.tmp 41)
  (.seq (.ops [⟨some 42, Op.call { callee := Callee.value (Operand.func 10), args := #[], argTypes := #[] }, none⟩,
    ⟨some 12, Op.assign (Operand.tmp 42), none⟩])
  .ret)
  .skip))
  (.seq (.ops [⟨some 43, Op.move (Operand.tmp 13), none⟩,
    ⟨some 44, Op.call { callee := Callee.value (Operand.func 14), args := #[Operand.tmp 43], argTypes := #[32] }, none⟩,
    ⟨some 45, Op.move (Operand.tmp 1), none⟩,
    ⟨some 46, Op.build 46 #[(0, Operand.tmp 44), (1, Operand.tmp 45)], none⟩,
    ⟨some 47, Op.box 46 (Operand.tmp 46), none⟩,
    ⟨some 15, Op.assign (Operand.tmp 47), none⟩])
  (.seq (.ops [⟨some 49, Op.move (Operand.tmp 13), none⟩,
    ⟨some 50, Op.makeInterface 32 (Operand.tmp 49), none⟩,
    ⟨some 51, Op.move (Operand.tmp 2), none⟩,
    ⟨some 52, Op.move (Operand.tmp 3), none⟩,
    ⟨some 53, Op.move (Operand.tmp 4), none⟩,
    ⟨some 54, Op.call { callee := Callee.value (Operand.func 17), args := #[Operand.tmp 50, Operand.tmp 51, Operand.tmp 52, Operand.tmp 53], argTypes := #[69, 25, 3, 3] }, none⟩,
    ⟨some 48, Op.move (Operand.tmp 54), none⟩,
    ⟨some 55, Op.extract (Operand.tmp 48) 0, none⟩,
    ⟨some 56, Op.extract (Operand.tmp 48) 1, none⟩,
    ⟨some 57, Op.extract (Operand.tmp 48) 2, none⟩,
    ⟨some 16, Op.assign (Operand.tmp 55), none⟩,
    ⟨some 17, Op.assign (Operand.tmp 56), none⟩,
    ⟨some 18, Op.assign (Operand.tmp 57), none⟩])
  (.seq (.block 0 (.seq (.ops [⟨some 114, Op.move (Operand.tmp 3), none⟩,
    ⟨some 115, Op.binOp BinOp.lss 3 (Operand.tmp 114) (Operand.const (Value.int IntKind.i64 0)) 3, none⟩,
    ⟨some 113, Op.assign (Operand.tmp 115), none⟩])
  (.cond (Operand.tmp 113)
  (.seq (.ops [⟨some 116, Op.move (Operand.tmp 18), none⟩,
    ⟨some 117, Op.move (Operand.tmp 116), none⟩,
    ⟨some 118, Op.move (Operand.tmp 17), some (117, false)⟩,
    ⟨some 119, Op.binOp BinOp.neq 25 (Operand.tmp 118) (Operand.const (Value.int IntKind.u32 0)) 25, some (117, false)⟩,
    ⟨some 120, Op.pick (Operand.tmp 117) (Operand.const (Value.bool true)) (Operand.tmp 119), none⟩,
    ⟨some 121, Op.move (Operand.tmp 120), none⟩,
    ⟨some 122, Op.move (Operand.tmp 16), some (121, false)⟩,
    ⟨some 123, Op.call { callee := Callee.builtin Builtin.len, args := #[Operand.tmp 122], argTypes := #[23] }, some (121, false)⟩,
    ⟨some 124, Op.binOp BinOp.neq 3 (Operand.tmp 123) (Operand.const (Value.int IntKind.i64 0)) 3, some (121, false)⟩,
    ⟨some 125, Op.pick (Operand.tmp 121) (Operand.const (Value.bool true)) (Operand.tmp 124), none⟩])
  (.cond (Operand.tmp 125)
  (.seq (.ops [⟨some 12, Op.assign (Operand.const (Value.bool false)), none⟩])
  .ret)
  .skip))
  (.seq (.ops [⟨some 59, Op.move (Operand.tmp 15), none⟩,
    ⟨some 60, Op.move (Operand.tmp 2), none⟩,
    ⟨some 61, Op.move (Operand.tmp 3), none⟩,
    ⟨some 62, Op.move (Operand.tmp 4), none⟩,
    ⟨some 63, Op.call { callee := Callee.value (Operand.func 18), args := #[Operand.tmp 59, Operand.tmp 60, Operand.tmp 61, Operand.tmp 62], argTypes := #[33, 25, 3, 3] }, none⟩,
    ⟨some 58, Op.move (Operand.tmp 63), none⟩,
    ⟨some 64, Op.extract (Operand.tmp 58) 0, none⟩,
    ⟨some 65, Op.extract (Operand.tmp 58) 1, none⟩,
    ⟨some 19, Op.assign (Operand.tmp 64), none⟩,
    ⟨some 20, Op.assign (Operand.tmp 65), none⟩])
  (.seq (.seq (.ops [⟨some 66, Op.move (Operand.tmp 18), none⟩,
    ⟨some 67, Op.move (Operand.tmp 20), none⟩,
    ⟨some 68, Op.binOp BinOp.eql 4 (Operand.tmp 66) (Operand.tmp 67) 4, none⟩,
    ⟨some 69, Op.move (Operand.tmp 68), none⟩,
    ⟨some 70, Op.move (Operand.tmp 17), some (69, false)⟩,
    ⟨some 71, Op.move (Operand.tmp 19), some (69, false)⟩,
    ⟨some 72, Op.binOp BinOp.neq 25 (Operand.tmp 70) (Operand.tmp 71) 25, some (69, false)⟩,
    ⟨some 73, Op.pick (Operand.tmp 69) (Operand.const (Value.bool true)) (Operand.tmp 72), none⟩,
    ⟨some 74, Op.move (Operand.tmp 73), none⟩,
    ⟨some 75, Op.move (Operand.tmp 18), some (74, false)⟩,
    ⟨some 76, Op.move (Operand.tmp 75), some (74, false)⟩,
    ⟨some 77, Op.move (Operand.tmp 16), some (76, true)⟩,
    ⟨some 78, Op.call { callee := Callee.builtin Builtin.len, args := #[Operand.tmp 77], argTypes := #[23] }, some (76, true)⟩,
    ⟨some 79, Op.move (Operand.tmp 3), some (76, true)⟩,
    ⟨some 80, Op.binOp BinOp.neq 3 (Operand.tmp 78) (Operand.tmp 79) 3, some (76, true)⟩,
    ⟨some 81, Op.pick (Operand.tmp 76) (Operand.tmp 80) (Operand.const (Value.bool false)), some (74, false)⟩,
    ⟨some 82, Op.pick (Operand.tmp 74) (Operand.const (Value.bool true)) (Operand.tmp 81), none⟩,
    ⟨some 83, Op.move (Operand.tmp 82), none⟩,
    ⟨some 84, Op.move (Operand.tmp 18), some (83, false)⟩,
    ⟨some 85, Op.unOp UnOp.not 4 (Operand.tmp 84), some (83, false)⟩,
    ⟨some 86, Op.move (Operand.tmp 85), some (83, false)⟩,
    ⟨some 87, Op.move (Operand.tmp 16), some (86, true)⟩,
    ⟨some 88, Op.call { callee := Callee.builtin Builtin.len, args := #[Operand.tmp 87], argTypes := #[23] }, some (86, true)⟩,
    ⟨some 89, Op.binOp BinOp.neq 3 (Operand.tmp 88) (Operand.const (Value.int IntKind.i64 0)) 3, some (86, true)⟩,
    ⟨some 90, Op.pick (Operand.tmp 86) (Operand.tmp 89) (Operand.const (Value.bool false)), some (83, false)⟩,
    ⟨some 91, Op.pick (Operand.tmp 83) (Operand.const (Value.bool true)) (Operand.tmp 90), none⟩])
  (.cond (Operand.tmp 91)
  (.seq (.ops [⟨some 12, Op.assign (Operand.const (Value.bool false)), none⟩])
  .ret)
  .skip))
  (.seq (.ops [⟨some 21, Op.assign (Operand.const (Value.int IntKind.i64 0)), none⟩])
  (.block 1 (.loop ir5_l0))))))))
  (.seq (.ops [⟨some 126, Op.move (Operand.tmp 5), none⟩,
    ⟨some 127, Op.call { callee := Callee.builtin Builtin.append, args := #[Operand.const (Value.slice none 0 0), Operand.tmp 126], argTypes := #[23, 23] }, none⟩,
    ⟨some 128, Op.buildSlice 23 1 #[(0, Operand.const (Value.int IntKind.u8 119))], none⟩,
    ⟨some 129, Op.call { callee := Callee.builtin Builtin.append, args := #[Operand.tmp 127, Operand.tmp 128], argTypes := #[23, 23] }, none⟩,
    ⟨some 22, Op.assign (Operand.tmp 129), none⟩])
  (.seq (.ops [⟨some 131, Op.move (Operand.tmp 13), none⟩,
    ⟨some 132, Op.makeInterface 32 (Operand.tmp 131), none⟩,
    ⟨some 133, Op.move (Operand.tmp 2), none⟩,
    ⟨some 134, Op.move (Operand.tmp 22), none⟩,
    ⟨some 135, Op.move (Operand.tmp 5), none⟩,
    ⟨some 136, Op.call { callee := Callee.builtin Builtin.len, args := #[Operand.tmp 135], argTypes := #[23] }, none⟩,
    ⟨some 137, Op.slice 23 (Operand.tmp 134) none (some (Operand.tmp 136)) none, none⟩,
    ⟨some 138, Op.call { callee := Callee.value (Operand.func 19), args := #[Operand.tmp 132, Operand.tmp 133, Operand.tmp 137], argTypes := #[69, 25, 23] }, none⟩,
    ⟨some 130, Op.move (Operand.tmp 138), none⟩,
    ⟨some 139, Op.extract (Operand.tmp 130) 0, none⟩,
    ⟨some 140, Op.extract (Operand.tmp 130) 1, none⟩,
    ⟨some 17, Op.assign (Operand.tmp 139), none⟩,
    ⟨some 18, Op.assign (Operand.tmp 140), none⟩])
  (.seq (.ops [⟨some 142, Op.move (Operand.tmp 15), none⟩,
    ⟨some 143, Op.move (Operand.tmp 2), none⟩,
    ⟨some 144, Op.move (Operand.tmp 5), none⟩,
    ⟨some 145, Op.call { callee := Callee.builtin Builtin.len, args := #[Operand.tmp 144], argTypes := #[23] }, none⟩,
    ⟨some 146, Op.call { callee := Callee.value (Operand.func 18), args := #[Operand.tmp 142, Operand.tmp 143, Operand.tmp 145, Operand.const (Value.int IntKind.i64 2)], argTypes := #[33, 25, 3, 3] }, none⟩,
    ⟨some 141, Op.move (Operand.tmp 146), none⟩,
    ⟨some 147, Op.extract (Operand.tmp 141) 0, none⟩,
    ⟨some 148, Op.extract (Operand.tmp 141) 1, none⟩,
    ⟨some 23, Op.assign (Operand.tmp 147), none⟩,
    ⟨some 24, Op.assign (Operand.tmp 148), none⟩])
  (.seq (.seq (.ops [⟨some 149, Op.move (Operand.tmp 18), none⟩,
    ⟨some 150, Op.move (Operand.tmp 24), none⟩,
    ⟨some 151, Op.binOp BinOp.eql 4 (Operand.tmp 149) (Operand.tmp 150) 4, none⟩,
    ⟨some 152, Op.move (Operand.tmp 151), none⟩,
    ⟨some 153, Op.move (Operand.tmp 17), some (152, false)⟩,
    ⟨some 154, Op.move (Operand.tmp 23), some (152, false)⟩,
    ⟨some 155, Op.binOp BinOp.neq 25 (Operand.tmp 153) (Operand.tmp 154) 25, some (152, false)⟩,
    ⟨some 156, Op.pick (Operand.tmp 152) (Operand.const (Value.bool true)) (Operand.tmp 155), none⟩,
    ⟨some 157, Op.move (Operand.tmp 156), none⟩,
    ⟨some 158, Op.move (Operand.tmp 22), some (157, false)⟩,
    ⟨some 159, Op.convert 23 9 (Operand.tmp 158), some (157, false)⟩,
    ⟨some 160, Op.move (Operand.tmp 5), some (157, false)⟩,
    ⟨some 161, Op.convert 23 9 (Operand.tmp 160), some (157, false)⟩,
    ⟨some 162, Op.binOp BinOp.add 9 (Operand.tmp 161) (Operand.const (Value.string { data := #[119] })) 9, some (157, false)⟩,
    ⟨some 163, Op.binOp BinOp.neq 9 (Operand.tmp 159) (Operand.tmp 162) 9, some (157, false)⟩,
    ⟨some 164, Op.pick (Operand.tmp 157) (Operand.const (Value.bool true)) (Operand.tmp 163), none⟩])
  (.cond (Operand.tmp 164)
  (.seq (.ops [⟨some 12, Op.assign (Operand.const (Value.bool false)), none⟩])
  .ret)
  .skip))
  (.seq (.seq (.ops [⟨some 165, Op.move (Operand.tmp 18), none⟩])
  (.cond (Operand.tmp 165)
  (.seq (.ops [⟨some 25, Op.assign (Operand.const (Value.int IntKind.i64 0)), none⟩])
  (.block 3 (.loop ir5_l1)))
  .skip))
  (.seq (.draw [⟨some 185, Op.move (Operand.tmp 13), none⟩,
    ⟨some 186, Op.call { callee := Callee.value (Operand.func 14), args := #[Operand.tmp 185], argTypes := #[32] }, none⟩,
    ⟨some 187, Op.convert 23 9 (Operand.tmp 186), none⟩,
    ⟨some 188, Op.move (Operand.tmp 15), none⟩,
    ⟨some 189, Op.nilCheck (Operand.tmp 188), none⟩,
    ⟨some 190, Op.fieldAddr 46 (Operand.tmp 189) 0, none⟩,
    ⟨some 191, Op.load 23 (Operand.tmp 190), none⟩,
    ⟨some 192, Op.convert 23 9 (Operand.tmp 191), none⟩,
    ⟨some 193, Op.binOp BinOp.eql 9 (Operand.tmp 187) (Operand.tmp 192) 9, none⟩,
    ⟨some 194, Op.move (Operand.tmp 193), none⟩,
    ⟨some 195, Op.call { callee := Callee.value (Operand.func 10), args := #[], argTypes := #[] }, some (194, true)⟩,
    ⟨some 196, Op.pick (Operand.tmp 194) (Operand.tmp 195) (Operand.const (Value.bool false)), none⟩,
    ⟨some 12, Op.assign (Operand.tmp 196), none⟩] [(1, 3), (1, 4), (1, 5), (1, 6), (1, 7)])
  .ret)))))))))))))
theorem ir5_eq : (Try.f5.body.map low, Try.f5.ntmps, Try.f5.results.toList) = (some ir5, 197, [.tmp 12]) := by kernel_rfl
def ir17_l0 : LC := (.seq (.ops [⟨some 37, Op.binOp BinOp.lss 3 (Operand.tmp 36) (Operand.tmp 35) 3, none⟩])
  (.seq (.cond (Operand.tmp 37)
  .skip
  (.exit 0))
  (.seq (.block 1 (.seq (.ops [⟨some 38, Op.move (Operand.tmp 36), none⟩,
    ⟨some 14, Op.assign (Operand.tmp 38), none⟩])
  (.ops [⟨some 39, Op.move (Operand.tmp 13), none⟩,
    ⟨some 40, Op.move (Operand.tmp 0), none⟩,
    ⟨some 41, Op.move (Operand.tmp 1), none⟩,
    ⟨some 42, Op.move (Operand.tmp 14), none⟩,
    ⟨some 43, Op.convert 3 25 (Operand.tmp 42), none⟩,
    ⟨some 44, Op.binOp BinOp.add 25 (Operand.tmp 41) (Operand.tmp 43) 25, none⟩,
    ⟨some 45, Op.call { callee := Callee.invoke (Operand.tmp 40) "Get", args := #[Operand.tmp 44], argTypes := #[25] }, none⟩,
    ⟨some 46, Op.buildSlice 23 1 #[(0, Operand.tmp 45)], none⟩,
    ⟨some 47, Op.call { callee := Callee.builtin Builtin.append, args := #[Operand.tmp 39, Operand.tmp 46], argTypes := #[23, 23] }, none⟩,
    ⟨some 13, Op.assign (Operand.tmp 47), none⟩])))
  (.ops [⟨some 48, Op.binOp BinOp.add 3 (Operand.tmp 36) (Operand.const (Value.int IntKind.i64 1)) 3, none⟩,
    ⟨some 36, Op.move (Operand.tmp 48), none⟩]))))
def ir17 : LC := (.seq (.ops [⟨some 8, Op.assign (Operand.const (Value.slice none 0 0)), none⟩,
    ⟨some 9, Op.assign (Operand.const (Value.int IntKind.u32 0)), none⟩,
    ⟨some 10, Op.assign (Operand.const (Value.bool false)), none⟩])
  (.seq (.seq (.ops [⟨some 15, Op.move (Operand.tmp 0), none⟩,
    ⟨some 16, Op.binOp BinOp.eql 69 (Operand.tmp 15) (Operand.const Value.nilIface) 69, none⟩,
    ⟨some 17, Op.move (Operand.tmp 16), none⟩,
    ⟨some 18, Op.move (Operand.tmp 2), some (17, false)⟩,
    ⟨some 19, Op.binOp BinOp.lss 3 (Operand.tmp 18) (Operand.const (Value.int IntKind.i64 0)) 3, some (17, false)⟩,
    ⟨some 20, Op.pick (Operand.tmp 17) (Operand.const (Value.bool true)) (Operand.tmp 19), none⟩,
    ⟨some 21, Op.move (Operand.tmp 20), none⟩,
    ⟨some 22, Op.move (Operand.tmp 2), some (21, false)⟩,
    ⟨some 23, Op.binOp BinOp.gtr 3 (Operand.tmp 22) (Operand.const (Value.int IntKind.i64 65536)) 3, some (21, false)⟩,
    ⟨some 24, Op.pick (Operand.tmp 21) (Operand.const (Value.bool true)) (Operand.tmp 23), none⟩])
  (.cond (Operand.tmp 24)
  (.seq (.ops [⟨some 8, Op.assign (Operand.const (Value.slice none 0 0)), none⟩,
    ⟨some 9, Op.assign (Operand.const (Value.int IntKind.u32 0)), none⟩,
    ⟨some 10, Op.assign (Operand.const (Value.bool false)), none⟩])
  .ret)
  .skip))
  (.seq (.seq (.ops [⟨some 26, Op.move (Operand.tmp 0), none⟩,
    ⟨some 27, Op.move (Operand.tmp 1), none⟩,
    ⟨some 28, Op.move (Operand.tmp 2), none⟩,
    ⟨some 29, Op.move (Operand.tmp 3), none⟩,
    ⟨some 30, Op.call { callee := Callee.value (Operand.func 32), args := #[Operand.tmp 26, Operand.tmp 27, Operand.tmp 28, Operand.tmp 29], argTypes := #[69, 25, 3, 3] }, none⟩,
    ⟨some 25, Op.move (Operand.tmp 30), none⟩,
    ⟨some 31, Op.extract (Operand.tmp 25) 0, none⟩,
    ⟨some 32, Op.extract (Operand.tmp 25) 1, none⟩,
    ⟨some 11, Op.assign (Operand.tmp 31), none⟩,
    ⟨some 12, Op.assign (Operand.tmp 32), none⟩])
  (.seq (.ops [⟨some 33, Op.move (Operand.tmp 12), none⟩])
  (.cond (Operand.tmp 33)
  (.seq (.ops [⟨some 34, Op.move (Operand.tmp 11), none⟩,
    ⟨some 8, Op.assign (Operand.const (Value.slice none 0 0)), none⟩,
    ⟨some 9, Op.assign (Operand.tmp 34), none⟩,
    ⟨some 10, Op.assign (Operand.const (Value.bool false)), none⟩])
  .ret)
  .skip)))
  (.seq (.ops [⟨some 13, Op.assign (Operand.const (Value.slice none 0 0)), none⟩])
  (.seq (.seq (.ops [⟨some 35, Op.move (Operand.tmp 2), none⟩,
    ⟨some 36, Op.move (Operand.const (Value.int IntKind.i64 0)), none⟩])
  (.block 0 (.loop ir17_l0)))
  (.seq (.ops [⟨some 49, Op.move (Operand.tmp 13), none⟩,
    ⟨some 8, Op.assign (Operand.tmp 49), none⟩,
    ⟨some 9, Op.assign (Operand.const (Value.int IntKind.u32 0)), none⟩,
    ⟨some 10, Op.assign (Operand.const (Value.bool true)), none⟩])
  .ret))))))
theorem ir17_eq : (Try.f17.body.map low, Try.f17.ntmps, Try.f17.results.toList) = (some ir17, 50, [.tmp 8, .tmp 9, .tmp 10]) := by kernel_rfl
def ir18_l0 : LC := (.seq (.seq (.ops [⟨some 12, Op.move (Operand.tmp 10), none⟩,
    ⟨some 13, Op.move (Operand.tmp 2), none⟩,
    ⟨some 14, Op.binOp BinOp.lss 3 (Operand.tmp 12) (Operand.tmp 13) 3, none⟩])
  (.cond (Operand.tmp 14)
  .skip
  (.exit 0)))
  (.seq (.block 1 (.seq (.ops [⟨some 17, Op.move (Operand.tmp 1), none⟩,
    ⟨some 18, Op.move (Operand.tmp 10), none⟩,
    ⟨some 19, Op.convert 3 25 (Operand.tmp 18), none⟩,
    ⟨some 20, Op.binOp BinOp.add 25 (Operand.tmp 17) (Operand.tmp 19) 25, none⟩,
    ⟨some 11, Op.assign (Operand.tmp 20), none⟩])
  (.seq (.ops [⟨some 21, Op.move (Operand.tmp 0), none⟩,
    ⟨some 22, Op.move (Operand.tmp 11), none⟩,
    ⟨some 23, Op.move (Operand.tmp 3), none⟩,
    ⟨some 24, Op.call { callee := Callee.value (Operand.func 22), args := #[Operand.tmp 21, Operand.tmp 22, Operand.tmp 23], argTypes := #[33, 25, 3] }, none⟩,
    ⟨some 25, Op.unOp UnOp.not 4 (Operand.tmp 24), none⟩])
  (.cond (Operand.tmp 25)
  (.seq (.ops [⟨some 26, Op.move (Operand.tmp 11), none⟩,
    ⟨some 8, Op.assign (Operand.tmp 26), none⟩,
    ⟨some 9, Op.assign (Operand.const (Value.bool true)), none⟩])
  .ret)
  .skip))))
  (.ops [⟨some 15, Op.move (Operand.tmp 10), none⟩,
    ⟨some 16, Op.binOp BinOp.add 3 (Operand.tmp 15) (Operand.const (Value.int IntKind.i64 1)) 3, none⟩,
    ⟨some 10, Op.assign (Operand.tmp 16), none⟩])))
def ir18 : LC := (.seq (.ops [⟨some 8, Op.assign (Operand.const (Value.int IntKind.u32 0)), none⟩,
    ⟨some 9, Op.assign (Operand.const (Value.bool false)), none⟩])
  (.seq (.seq (.ops [⟨some 10, Op.assign (Operand.const (Value.int IntKind.i64 0)), none⟩])
  (.block 0 (.loop ir18_l0)))
  (.seq (.ops [⟨some 8, Op.assign (Operand.const (Value.int IntKind.u32 0)), none⟩,
    ⟨some 9, Op.assign (Operand.const (Value.bool false)), none⟩])
  .ret)))
theorem ir18_eq : (Try.f18.body.map low, Try.f18.ntmps, Try.f18.results.toList) = (some ir18, 27, [.tmp 8, .tmp 9]) := by kernel_rfl
def ir19_l0 : LC := (.seq (.ops [⟨some 32, Op.binOp BinOp.lss 3 (Operand.tmp 31) (Operand.tmp 30) 3, none⟩])
  (.seq (.cond (Operand.tmp 32)
  .skip
  (.exit 0))
  (.seq (.block 1 (.seq (.ops [⟨some 33, Op.move (Operand.tmp 31), none⟩,
    ⟨some 34, Op.indexAddr 23 (Operand.tmp 29) (Operand.tmp 31), none⟩,
    ⟨some 35, Op.load 5 (Operand.tmp 34), none⟩,
    ⟨some 10, Op.assign (Operand.tmp 33), none⟩,
    ⟨some 11, Op.assign (Operand.tmp 35), none⟩])
  (.ops [⟨some 36, Op.move (Operand.tmp 0), none⟩,
    ⟨some 37, Op.move (Operand.tmp 1), none⟩,
    ⟨some 38, Op.move (Operand.tmp 10), none⟩,
    ⟨some 39, Op.convert 3 25 (Operand.tmp 38), none⟩,
    ⟨some 40, Op.binOp BinOp.add 25 (Operand.tmp 37) (Operand.tmp 39) 25, none⟩,
    ⟨some 41, Op.move (Operand.tmp 11), none⟩,
    ⟨some 42, Op.call { callee := Callee.invoke (Operand.tmp 36) "Set", args := #[Operand.tmp 40, Operand.tmp 41], argTypes := #[25, 5] }, none⟩])))
  (.ops [⟨some 43, Op.binOp BinOp.add 3 (Operand.tmp 31) (Operand.const (Value.int IntKind.i64 1)) 3, none⟩,
    ⟨some 31, Op.move (Operand.tmp 43), none⟩]))))
def ir19 : LC := (.seq (.ops [⟨some 6, Op.assign (Operand.const (Value.int IntKind.u32 0)), none⟩,
    ⟨some 7, Op.assign (Operand.const (Value.bool false)), none⟩])
  (.seq (.seq (.ops [⟨some 12, Op.move (Operand.tmp 0), none⟩,
    ⟨some 13, Op.binOp BinOp.eql 69 (Operand.tmp 12) (Operand.const Value.nilIface) 69, none⟩,
    ⟨some 14, Op.move (Operand.tmp 13), none⟩,
    ⟨some 15, Op.move (Operand.tmp 2), some (14, false)⟩,
    ⟨some 16, Op.call { callee := Callee.builtin Builtin.len, args := #[Operand.tmp 15], argTypes := #[23] }, some (14, false)⟩,
    ⟨some 17, Op.binOp BinOp.gtr 3 (Operand.tmp 16) (Operand.const (Value.int IntKind.i64 65536)) 3, some (14, false)⟩,
    ⟨some 18, Op.pick (Operand.tmp 14) (Operand.const (Value.bool true)) (Operand.tmp 17), none⟩])
  (.cond (Operand.tmp 18)
  (.seq (.ops [⟨some 6, Op.assign (Operand.const (Value.int IntKind.u32 0)), none⟩,
    ⟨some 7, Op.assign (Operand.const (Value.bool false)), none⟩])
  .ret)
  .skip))
  (.seq (.seq (.ops [⟨some 20, Op.move (Operand.tmp 0), none⟩,
    ⟨some 21, Op.move (Operand.tmp 1), none⟩,
    ⟨some 22, Op.move (Operand.tmp 2), none⟩,
    ⟨some 23, Op.call { callee := Callee.builtin Builtin.len, args := #[Operand.tmp 22], argTypes := #[23] }, none⟩,
    ⟨some 24, Op.call { callee := Callee.value (Operand.func 32), args := #[Operand.tmp 20, Operand.tmp 21, Operand.tmp 23, Operand.const (Value.int IntKind.i64 2)], argTypes := #[69, 25, 3, 3] }, none⟩,
    ⟨some 19, Op.move (Operand.tmp 24), none⟩,
    ⟨some 25, Op.extract (Operand.tmp 19) 0, none⟩,
    ⟨some 26, Op.extract (Operand.tmp 19) 1, none⟩,
    ⟨some 8, Op.assign (Operand.tmp 25), none⟩,
    ⟨some 9, Op.assign (Operand.tmp 26), none⟩])
  (.seq (.ops [⟨some 27, Op.move (Operand.tmp 9), none⟩])
  (.cond (Operand.tmp 27)
  (.seq (.ops [⟨some 28, Op.move (Operand.tmp 8), none⟩,
    ⟨some 6, Op.assign (Operand.tmp 28), none⟩,
    ⟨some 7, Op.assign (Operand.const (Value.bool false)), none⟩])
  .ret)
  .skip)))
  (.seq (.seq (.ops [⟨some 29, Op.move (Operand.tmp 2), none⟩,
    ⟨some 30, Op.call { callee := Callee.builtin Builtin.len, args := #[Operand.tmp 29], argTypes := #[23] }, none⟩,
    ⟨some 31, Op.move (Operand.const (Value.int IntKind.i64 0)), none⟩])
  (.block 0 (.loop ir19_l0)))
  (.seq (.ops [⟨some 6, Op.assign (Operand.const (Value.int IntKind.u32 0)), none⟩,
    ⟨some 7, Op.assign (Operand.const (Value.bool true)), none⟩])
  .ret)))))
theorem ir19_eq : (Try.f19.body.map low, Try.f19.ntmps, Try.f19.results.toList) = (some ir19, 44, [.tmp 6, .tmp 7]) := by kernel_rfl
def ir32_l0 : LC := (.seq (.ops [⟨some 16, Op.binOp BinOp.lss 3 (Operand.tmp 15) (Operand.tmp 14) 3, none⟩])
  (.seq (.cond (Operand.tmp 16)
  .skip
  (.exit 0))
  (.seq (.block 1 (.seq (.ops [⟨some 17, Op.move (Operand.tmp 15), none⟩,
    ⟨some 12, Op.assign (Operand.tmp 17), none⟩])
  (.seq (.ops [⟨some 18, Op.move (Operand.tmp 1), none⟩,
    ⟨some 19, Op.move (Operand.tmp 12), none⟩,
    ⟨some 20, Op.convert 3 25 (Operand.tmp 19), none⟩,
    ⟨some 21, Op.binOp BinOp.add 25 (Operand.tmp 18) (Operand.tmp 20) 25, none⟩,
    ⟨some 13, Op.assign (Operand.tmp 21), none⟩])
  (.seq (.ops [⟨some 22, Op.move (Operand.tmp 0), none⟩,
    ⟨some 23, Op.move (Operand.tmp 13), none⟩,
    ⟨some 24, Op.move (Operand.tmp 3), none⟩,
    ⟨some 25, Op.call { callee := Callee.invoke (Operand.tmp 22) "May", args := #[Operand.tmp 23, Operand.tmp 24], argTypes := #[25, 3] }, none⟩,
    ⟨some 26, Op.unOp UnOp.not 4 (Operand.tmp 25), none⟩])
  (.cond (Operand.tmp 26)
  (.seq (.ops [⟨some 27, Op.move (Operand.tmp 13), none⟩,
    ⟨some 10, Op.assign (Operand.tmp 27), none⟩,
    ⟨some 11, Op.assign (Operand.const (Value.bool true)), none⟩])
  (.exit 0))
  .skip)))))
  (.ops [⟨some 28, Op.binOp BinOp.add 3 (Operand.tmp 15) (Operand.const (Value.int IntKind.i64 1)) 3, none⟩,
    ⟨some 15, Op.move (Operand.tmp 28), none⟩]))))
def ir32 : LC := (.seq (.ops [⟨some 8, Op.assign (Operand.const (Value.int IntKind.u32 0)), none⟩,
    ⟨some 9, Op.assign (Operand.const (Value.bool false)), none⟩])
  (.seq (.ops [⟨some 10, Op.assign (Operand.const (Value.int IntKind.u32 0)), none⟩,
    ⟨some 11, Op.assign (Operand.const (Value.bool false)), none⟩])
  (.seq .skip
  (.seq (.seq (.ops [⟨some 14, Op.move (Operand.tmp 2), none⟩,
    ⟨some 15, Op.move (Operand.const (Value.int IntKind.i64 0)), none⟩])
  (.block 0 (.loop ir32_l0)))
  (.seq (.ops [⟨some 29, Op.move (Operand.tmp 10), none⟩,
    ⟨some 30, Op.move (Operand.tmp 11), none⟩,
    ⟨some 8, Op.assign (Operand.tmp 29), none⟩,
    ⟨some 9, Op.assign (Operand.tmp 30), none⟩])
  .ret)))))
theorem ir32_eq : (Try.f32.body.map low, Try.f32.ntmps, Try.f32.results.toList) = (some ir32, 31, [.tmp 8, .tmp 9]) := by kernel_rfl

end Go.Proofs.Ytmkdbninmimndaa
