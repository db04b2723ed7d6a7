/- A step on both machines: taken apart; kinds 2, 4, 5. -/
import Derived.Test.YtmimialblhlklaaRJ
set_option linter.unusedVariables false
set_option maxRecDepth 100000
namespace Go.Proofs.Ytmimialblhlklaa
open Go Go.Vm
def ir19_k1 : LC := (.seq (.ops [⟨some 39, Op.fieldAddr 49 (Operand.tmp 5) 3, none⟩,
  ⟨some 40, Op.load 22 (Operand.tmp 39), none⟩,
  ⟨some 41, Op.call { callee := Callee.value (Operand.func 40), args := #[Operand.tmp 40], argTypes := #[22] }, none⟩,
  ⟨some 42, Op.build 79 #[(0, Operand.const (Value.int IntKind.i64 77))], none⟩,
  ⟨some 43, Op.buildSlice 22 1 #[(0, Operand.tmp 42)], none⟩,
  ⟨some 44, Op.call { callee := Callee.builtin Builtin.append, args := #[Operand.tmp 41, Operand.tmp 43], argTypes := #[22, 22] }, none⟩,
  ⟨some 9, Op.assign (Operand.tmp 44), none⟩])
 (.seq (.draw [⟨some 46, Op.move (Operand.tmp 0), none⟩,
  ⟨some 47, Op.fieldAddr 49 (Operand.tmp 5) 1, none⟩,
  ⟨some 48, Op.load 3 (Operand.tmp 47), none⟩,
  ⟨some 49, Op.move (Operand.tmp 9), none⟩,
  ⟨some 50, Op.fieldAddr 49 (Operand.tmp 5) 3, none⟩,
  ⟨some 51, Op.load 22 (Operand.tmp 50), none⟩,
  ⟨some 52, Op.call { callee := Callee.builtin Builtin.len, args := #[Operand.tmp 51], argTypes := #[22] }, none⟩,
  ⟨some 53, Op.slice 22 (Operand.tmp 49) none (some (Operand.tmp 52)) none, none⟩,
  ⟨some 54, Op.call { callee := Callee.value (Operand.func 10), args := #[Operand.tmp 46, Operand.tmp 48, Operand.tmp 53], argTypes := #[26, 3, 22] }, none⟩,
  ⟨some 45, Op.move (Operand.tmp 54), none⟩,
  ⟨some 55, Op.extract (Operand.tmp 45) 0, none⟩,
  ⟨some 56, Op.extract (Operand.tmp 45) 1, none⟩,
  ⟨some 10, Op.assign (Operand.tmp 55), none⟩,
  ⟨some 11, Op.assign (Operand.tmp 56), none⟩] [])
 (.seq (.ops [⟨some 58, Op.move (Operand.tmp 1), none⟩,
  ⟨some 59, Op.fieldAddr 49 (Operand.tmp 5) 1, none⟩,
  ⟨some 60, Op.load 3 (Operand.tmp 59), none⟩,
  ⟨some 61, Op.fieldAddr 49 (Operand.tmp 5) 3, none⟩,
  ⟨some 62, Op.load 22 (Operand.tmp 61), none⟩,
  ⟨some 63, Op.call { callee := Callee.value (Operand.func 41), args := #[Operand.tmp 58, Operand.tmp 60, Operand.tmp 62], argTypes := #[27, 3, 22] }, none⟩,
  ⟨some 57, Op.move (Operand.tmp 63), none⟩,
  ⟨some 64, Op.extract (Operand.tmp 57) 0, none⟩,
  ⟨some 65, Op.extract (Operand.tmp 57) 1, none⟩,
  ⟨some 12, Op.assign (Operand.tmp 64), none⟩,
  ⟨some 13, Op.assign (Operand.tmp 65), none⟩])
 (.seq (.draw [⟨some 66, Op.move (Operand.tmp 9), none⟩,
  ⟨some 67, Op.fieldAddr 49 (Operand.tmp 5) 3, none⟩,
  ⟨some 68, Op.load 22 (Operand.tmp 67), none⟩,
  ⟨some 69, Op.call { callee := Callee.builtin Builtin.len, args := #[Operand.tmp 68], argTypes := #[22] }, none⟩,
  ⟨some 70, Op.slice 22 (Operand.tmp 66) none (some (Operand.tmp 69)) none, none⟩,
  ⟨some 71, Op.fieldAddr 49 (Operand.tmp 5) 3, none⟩,
  ⟨some 72, Op.load 22 (Operand.tmp 71), none⟩,
  ⟨some 73, Op.call { callee := Callee.value (Operand.func 42), args := #[Operand.tmp 70, Operand.tmp 72], argTypes := #[22, 22] }, none⟩,
  ⟨some 74, Op.move (Operand.tmp 73), none⟩,
  ⟨some 75, Op.move (Operand.tmp 9), some (74, true)⟩,
  ⟨some 76, Op.fieldAddr 49 (Operand.tmp 5) 3, some (74, true)⟩,
  ⟨some 77, Op.load 22 (Operand.tmp 76), some (74, true)⟩,
  ⟨some 78, Op.call { callee := Callee.builtin Builtin.len, args := #[Operand.tmp 77], argTypes := #[22] }, some (74, true)⟩,
  ⟨some 79, Op.indexAddr 22 (Operand.tmp 75) (Operand.tmp 78), some (74, true)⟩,
  ⟨some 80, Op.fieldAddr 79 (Operand.tmp 79) 0, some (74, true)⟩,
  ⟨some 81, Op.load 3 (Operand.tmp 80), some (74, true)⟩,
  ⟨some 82, Op.binOp BinOp.eql 3 (Operand.tmp 81) (Operand.const (Value.int IntKind.i64 77)) 3, some (74, true)⟩,
  ⟨some 83, Op.pick (Operand.tmp 74) (Operand.tmp 82) (Operand.const (Value.bool false)), none⟩,
  ⟨some 14, Op.assign (Operand.tmp 83), none⟩] [])
 (.seq (.seq (.ops [⟨some 15, Op.assign (Operand.const (Value.int IntKind.i64 0)), none⟩])
 (.block 1 (.loop ir19_l0)))
 (.seq (.ops [⟨some 94, Op.move (Operand.tmp 0), none⟩,
  ⟨some 95, Op.move (Operand.tmp 1), none⟩,
  ⟨some 96, Op.move (Operand.tmp 14), none⟩,
  ⟨some 97, Op.move (Operand.tmp 96), none⟩,
  ⟨some 98, Op.move (Operand.tmp 10), some (97, true)⟩,
  ⟨some 99, Op.move (Operand.tmp 12), some (97, true)⟩,
  ⟨some 100, Op.binOp BinOp.eql 3 (Operand.tmp 98) (Operand.tmp 99) 3, some (97, true)⟩,
  ⟨some 101, Op.pick (Operand.tmp 97) (Operand.tmp 100) (Operand.const (Value.bool false)), none⟩,
  ⟨some 102, Op.move (Operand.tmp 101), none⟩,
  ⟨some 103, Op.move (Operand.tmp 11), some (102, true)⟩,
  ⟨some 104, Op.call { callee := Callee.value (Operand.func 11), args := #[Operand.tmp 103], argTypes := #[31] }, some (102, true)⟩,
  ⟨some 105, Op.move (Operand.tmp 13), some (102, true)⟩,
  ⟨some 106, Op.binOp BinOp.eql 3 (Operand.tmp 104) (Operand.tmp 105) 3, some (102, true)⟩,
  ⟨some 107, Op.pick (Operand.tmp 102) (Operand.tmp 106) (Operand.const (Value.bool false)), none⟩,
  ⟨some 6, Op.assign (Operand.tmp 94), none⟩,
  ⟨some 7, Op.assign (Operand.tmp 95), none⟩,
  ⟨some 8, Op.assign (Operand.tmp 107), none⟩])
 .ret))))))
def ir19_k2 : LC := (.seq (.ops [⟨some 111, Op.move (Operand.tmp 0), none⟩,
  ⟨some 112, Op.fieldAddr 49 (Operand.tmp 5) 1, none⟩,
  ⟨some 113, Op.load 3 (Operand.tmp 112), none⟩,
  ⟨some 114, Op.fieldAddr 49 (Operand.tmp 5) 2, none⟩,
  ⟨some 115, Op.load 3 (Operand.tmp 114), none⟩,
  ⟨some 116, Op.call { callee := Callee.value (Operand.func 17), args := #[Operand.tmp 111, Operand.tmp 113, Operand.tmp 115], argTypes := #[26, 3, 3] }, none⟩,
  ⟨some 110, Op.move (Operand.tmp 116), none⟩,
  ⟨some 117, Op.extract (Operand.tmp 110) 0, none⟩,
  ⟨some 118, Op.extract (Operand.tmp 110) 1, none⟩,
  ⟨some 16, Op.assign (Operand.tmp 117), none⟩,
  ⟨some 17, Op.assign (Operand.tmp 118), none⟩])
 (.seq (.ops [⟨some 120, Op.move (Operand.tmp 1), none⟩,
  ⟨some 121, Op.fieldAddr 49 (Operand.tmp 5) 1, none⟩,
  ⟨some 122, Op.load 3 (Operand.tmp 121), none⟩,
  ⟨some 123, Op.fieldAddr 49 (Operand.tmp 5) 2, none⟩,
  ⟨some 124, Op.load 3 (Operand.tmp 123), none⟩,
  ⟨some 125, Op.call { callee := Callee.value (Operand.func 43), args := #[Operand.tmp 120, Operand.tmp 122, Operand.tmp 124], argTypes := #[27, 3, 3] }, none⟩,
  ⟨some 119, Op.move (Operand.tmp 125), none⟩,
  ⟨some 126, Op.extract (Operand.tmp 119) 0, none⟩,
  ⟨some 127, Op.extract (Operand.tmp 119) 1, none⟩,
  ⟨some 18, Op.assign (Operand.tmp 126), none⟩,
  ⟨some 19, Op.assign (Operand.tmp 127), none⟩])
 (.seq (.ops [⟨some 128, Op.move (Operand.tmp 0), none⟩,
  ⟨some 129, Op.move (Operand.tmp 1), none⟩,
  ⟨some 130, Op.move (Operand.tmp 16), none⟩,
  ⟨some 131, Op.move (Operand.tmp 18), none⟩,
  ⟨some 132, Op.binOp BinOp.eql 3 (Operand.tmp 130) (Operand.tmp 131) 3, none⟩,
  ⟨some 133, Op.move (Operand.tmp 132), none⟩,
  ⟨some 134, Op.move (Operand.tmp 17), some (133, true)⟩,
  ⟨some 135, Op.call { callee := Callee.value (Operand.func 11), args := #[Operand.tmp 134], argTypes := #[31] }, some (133, true)⟩,
  ⟨some 136, Op.move (Operand.tmp 19), some (133, true)⟩,
  ⟨some 137, Op.binOp BinOp.eql 3 (Operand.tmp 135) (Operand.tmp 136) 3, some (133, true)⟩,
  ⟨some 138, Op.pick (Operand.tmp 133) (Operand.tmp 137) (Operand.const (Value.bool false)), none⟩,
  ⟨some 6, Op.assign (Operand.tmp 128), none⟩,
  ⟨some 7, Op.assign (Operand.tmp 129), none⟩,
  ⟨some 8, Op.assign (Operand.tmp 138), none⟩])
 .ret)))
def ir19_k3 : LC := (.seq (.ops [⟨some 141, Op.fieldAddr 49 (Operand.tmp 5) 4, none⟩,
  ⟨some 142, Op.load 36 (Operand.tmp 141), none⟩,
  ⟨some 143, Op.call { callee := Callee.builtin Builtin.append, args := #[Operand.const (Value.slice none 0 0), Operand.tmp 142], argTypes := #[36, 36] }, none⟩,
  ⟨some 144, Op.buildSlice 36 1 #[(0, Operand.const (Value.int IntKind.u8 119))], none⟩,
  ⟨some 145, Op.call { callee := Callee.builtin Builtin.append, args := #[Operand.tmp 143, Operand.tmp 144], argTypes := #[36, 36] }, none⟩,
  ⟨some 20, Op.assign (Operand.tmp 145), none⟩])
 (.seq (.ops [⟨some 147, Op.move (Operand.tmp 0), none⟩,
  ⟨some 148, Op.move (Operand.tmp 20), none⟩,
  ⟨some 149, Op.fieldAddr 49 (Operand.tmp 5) 4, none⟩,
  ⟨some 150, Op.load 36 (Operand.tmp 149), none⟩,
  ⟨some 151, Op.call { callee := Callee.builtin Builtin.len, args := #[Operand.tmp 150], argTypes := #[36] }, none⟩,
  ⟨some 152, Op.slice 36 (Operand.tmp 148) none (some (Operand.tmp 151)) none, none⟩,
  ⟨some 153, Op.call { callee := Callee.value (Operand.func 12), args := #[Operand.tmp 147, Operand.tmp 152], argTypes := #[26, 36] }, none⟩,
  ⟨some 146, Op.move (Operand.tmp 153), none⟩,
  ⟨some 154, Op.extract (Operand.tmp 146) 0, none⟩,
  ⟨some 155, Op.extract (Operand.tmp 146) 1, none⟩,
  ⟨some 21, Op.assign (Operand.tmp 154), none⟩,
  ⟨some 22, Op.assign (Operand.tmp 155), none⟩])
 (.seq (.ops [⟨some 157, Op.move (Operand.tmp 1), none⟩,
  ⟨some 158, Op.fieldAddr 49 (Operand.tmp 5) 4, none⟩,
  ⟨some 159, Op.load 36 (Operand.tmp 158), none⟩,
  ⟨some 160, Op.call { callee := Callee.value (Operand.func 44), args := #[Operand.tmp 157, Operand.tmp 159], argTypes := #[27, 36] }, none⟩,
  ⟨some 156, Op.move (Operand.tmp 160), none⟩,
  ⟨some 161, Op.extract (Operand.tmp 156) 0, none⟩,
  ⟨some 162, Op.extract (Operand.tmp 156) 1, none⟩,
  ⟨some 23, Op.assign (Operand.tmp 161), none⟩,
  ⟨some 24, Op.assign (Operand.tmp 162), none⟩])
 (.seq (.ops [⟨some 163, Op.move (Operand.tmp 20), none⟩,
  ⟨some 164, Op.convert 36 9 (Operand.tmp 163), none⟩,
  ⟨some 165, Op.fieldAddr 49 (Operand.tmp 5) 4, none⟩,
  ⟨some 166, Op.load 36 (Operand.tmp 165), none⟩,
  ⟨some 167, Op.convert 36 9 (Operand.tmp 166), none⟩,
  ⟨some 168, Op.binOp BinOp.add 9 (Operand.tmp 167) (Operand.const (Value.string { data := #[119] })) 9, none⟩,
  ⟨some 169, Op.binOp BinOp.eql 9 (Operand.tmp 164) (Operand.tmp 168) 9, none⟩,
  ⟨some 25, Op.assign (Operand.tmp 169), none⟩])
 (.seq (.seq (.ops [⟨some 26, Op.assign (Operand.const (Value.int IntKind.i64 0)), none⟩])
 (.block 3 (.loop ir19_l1)))
 (.seq (.ops [⟨some 179, Op.move (Operand.tmp 0), none⟩,
  ⟨some 180, Op.move (Operand.tmp 1), none⟩,
  ⟨some 181, Op.move (Operand.tmp 25), none⟩,
  ⟨some 182, Op.move (Operand.tmp 181), none⟩,
  ⟨some 183, Op.move (Operand.tmp 21), some (182, true)⟩,
  ⟨some 184, Op.move (Operand.tmp 23), some (182, true)⟩,
  ⟨some 185, Op.call { callee := Callee.value (Operand.func 28), args := #[Operand.tmp 183, Operand.tmp 184], argTypes := #[37, 37] }, some (182, true)⟩,
  ⟨some 186, Op.pick (Operand.tmp 182) (Operand.tmp 185) (Operand.const (Value.bool false)), none⟩,
  ⟨some 187, Op.move (Operand.tmp 186), none⟩,
  ⟨some 188, Op.move (Operand.tmp 22), some (187, true)⟩,
  ⟨some 189, Op.call { callee := Callee.value (Operand.func 11), args := #[Operand.tmp 188], argTypes := #[31] }, some (187, true)⟩,
  ⟨some 190, Op.move (Operand.tmp 24), some (187, true)⟩,
  ⟨some 191, Op.binOp BinOp.eql 3 (Operand.tmp 189) (Operand.tmp 190) 3, some (187, true)⟩,
  ⟨some 192, Op.pick (Operand.tmp 187) (Operand.tmp 191) (Operand.const (Value.bool false)), none⟩,
  ⟨some 6, Op.assign (Operand.tmp 179), none⟩,
  ⟨some 7, Op.assign (Operand.tmp 180), none⟩,
  ⟨some 8, Op.assign (Operand.tmp 192), none⟩])
 .ret))))))
def ir19_k4t : LC := (.seq (.ops [⟨some 218, Op.move (Operand.tmp 1), none⟩,
  ⟨some 219, Op.fieldAddr 49 (Operand.tmp 5) 1, none⟩,
  ⟨some 220, Op.load 3 (Operand.tmp 219), none⟩,
  ⟨some 221, Op.fieldAddr 49 (Operand.tmp 5) 2, none⟩,
  ⟨some 222, Op.load 3 (Operand.tmp 221), none⟩,
  ⟨some 223, Op.fieldAddr 49 (Operand.tmp 5) 0, none⟩,
  ⟨some 224, Op.load 3 (Operand.tmp 223), none⟩,
  ⟨some 225, Op.binOp BinOp.eql 3 (Operand.tmp 224) (Operand.const (Value.int IntKind.i64 5)) 3, none⟩,
  ⟨some 226, Op.call { callee := Callee.value (Operand.func 45), args := #[Operand.tmp 218, Operand.tmp 220, Operand.tmp 222, Operand.tmp 225], argTypes := #[27, 3, 3, 4] }, none⟩,
  ⟨some 217, Op.move (Operand.tmp 226), none⟩,
  ⟨some 227, Op.extract (Operand.tmp 217) 0, none⟩,
  ⟨some 228, Op.extract (Operand.tmp 217) 1, none⟩,
  ⟨some 29, Op.assign (Operand.tmp 227), none⟩,
  ⟨some 30, Op.assign (Operand.tmp 228), none⟩])
 (.seq (.ops [⟨some 229, Op.move (Operand.tmp 27), none⟩,
  ⟨some 230, Op.convert 36 9 (Operand.tmp 229), none⟩,
  ⟨some 231, Op.move (Operand.tmp 29), none⟩,
  ⟨some 232, Op.convert 36 9 (Operand.tmp 231), none⟩,
  ⟨some 233, Op.binOp BinOp.eql 9 (Operand.tmp 230) (Operand.tmp 232) 9, none⟩,
  ⟨some 234, Op.move (Operand.tmp 233), none⟩,
  ⟨some 235, Op.move (Operand.tmp 28), some (234, true)⟩,
  ⟨some 236, Op.call { callee := Callee.value (Operand.func 11), args := #[Operand.tmp 235], argTypes := #[31] }, some (234, true)⟩,
  ⟨some 237, Op.move (Operand.tmp 30), some (234, true)⟩,
  ⟨some 238, Op.binOp BinOp.eql 3 (Operand.tmp 236) (Operand.tmp 237) 3, some (234, true)⟩,
  ⟨some 239, Op.pick (Operand.tmp 234) (Operand.tmp 238) (Operand.const (Value.bool false)), none⟩,
  ⟨some 31, Op.assign (Operand.tmp 239), none⟩])
 (.seq (.seq (.ops [⟨some 32, Op.assign (Operand.const (Value.int IntKind.i64 0)), none⟩])
 (.block 5 (.loop ir19_l2)))
 (.seq (.ops [⟨some 249, Op.move (Operand.tmp 0), none⟩,
  ⟨some 250, Op.move (Operand.tmp 1), none⟩,
  ⟨some 251, Op.move (Operand.tmp 31), none⟩,
  ⟨some 6, Op.assign (Operand.tmp 249), none⟩,
  ⟨some 7, Op.assign (Operand.tmp 250), none⟩,
  ⟨some 8, Op.assign (Operand.tmp 251), none⟩])
 .ret))))
def ir19_k4 : LC := (.seq (.ops [⟨some 197, Op.move (Operand.tmp 0), none⟩,
  ⟨some 198, Op.fieldAddr 49 (Operand.tmp 5) 1, none⟩,
  ⟨some 199, Op.load 3 (Operand.tmp 198), none⟩,
  ⟨some 200, Op.fieldAddr 49 (Operand.tmp 5) 2, none⟩,
  ⟨some 201, Op.load 3 (Operand.tmp 200), none⟩,
  ⟨some 202, Op.call { callee := Callee.value (Operand.func 38), args := #[Operand.tmp 197, Operand.tmp 199, Operand.tmp 201], argTypes := #[26, 3, 3] }, none⟩,
  ⟨some 196, Op.move (Operand.tmp 202), none⟩,
  ⟨some 203, Op.extract (Operand.tmp 196) 0, none⟩,
  ⟨some 204, Op.extract (Operand.tmp 196) 1, none⟩,
  ⟨some 27, Op.assign (Operand.tmp 203), none⟩,
  ⟨some 28, Op.assign (Operand.tmp 204), none⟩])
 (.seq (.seq (.ops [⟨some 205, Op.fieldAddr 49 (Operand.tmp 5) 0, none⟩,
  ⟨some 206, Op.load 3 (Operand.tmp 205), none⟩,
  ⟨some 207, Op.binOp BinOp.eql 3 (Operand.tmp 206) (Operand.const (Value.int IntKind.i64 4)) 3, none⟩])
 (.cond (Operand.tmp 207)
 (.ops [⟨some 209, Op.move (Operand.tmp 0), none⟩,
  ⟨some 210, Op.fieldAddr 49 (Operand.tmp 5) 1, none⟩,
  ⟨some 211, Op.load 3 (Operand.tmp 210), none⟩,
  ⟨some 212, Op.fieldAddr 49 (Operand.tmp 5) 2, none⟩,
  ⟨some 213, Op.load 3 (Operand.tmp 212), none⟩,
  ⟨some 214, Op.call { callee := Callee.value (Operand.func 14), args := #[Operand.tmp 209, Operand.tmp 211, Operand.tmp 213], argTypes := #[26, 3, 3] }, none⟩,
  ⟨some 208, Op.move (Operand.tmp 214), none⟩,
  ⟨some 215, Op.extract (Operand.tmp 208) 0, none⟩,
  ⟨some 216, Op.extract (Operand.tmp 208) 1, none⟩,
  ⟨some 27, Op.assign (Operand.tmp 215), none⟩,
  ⟨some 28, Op.assign (Operand.tmp 216), none⟩])
 .skip))
 ir19_k4t))
def ir19_k6 : LC := (.seq (.ops [⟨some 254, Op.move (Operand.tmp 0), none⟩,
  ⟨some 255, Op.call { callee := Callee.value (Operand.func 25), args := #[Operand.tmp 254], argTypes := #[26] }, none⟩,
  ⟨some 33, Op.assign (Operand.tmp 255), none⟩])
 (.seq (.ops [⟨some 256, Op.move (Operand.tmp 33), none⟩,
  ⟨some 257, Op.binOp BinOp.neq 26 (Operand.tmp 256) (Operand.const (Value.pointer none)) 26, none⟩,
  ⟨some 258, Op.move (Operand.tmp 257), none⟩,
  ⟨some 259, Op.move (Operand.tmp 33), some (258, true)⟩,
  ⟨some 260, Op.move (Operand.tmp 0), some (258, true)⟩,
  ⟨some 261, Op.call { callee := Callee.value (Operand.func 21), args := #[Operand.tmp 259, Operand.tmp 260], argTypes := #[26, 26] }, some (258, true)⟩,
  ⟨some 262, Op.pick (Operand.tmp 258) (Operand.tmp 261) (Operand.const (Value.bool false)), none⟩,
  ⟨some 34, Op.assign (Operand.tmp 262), none⟩])
 (.seq (.ops [⟨some 263, Op.move (Operand.tmp 0), none⟩,
  ⟨some 264, Op.buildSlice 36 1 #[(0, Operand.const (Value.int IntKind.u8 0))], none⟩,
  ⟨some 265, Op.call { callee := Callee.value (Operand.func 12), args := #[Operand.tmp 263, Operand.tmp 264], argTypes := #[26, 36] }, none⟩])
 (.seq (.ops [⟨some 266, Op.move (Operand.tmp 0), none⟩,
  ⟨some 267, Op.call { callee := Callee.value (Operand.func 10), args := #[Operand.tmp 266, Operand.const (Value.int IntKind.i64 0), Operand.const (Value.slice none 0 0)], argTypes := #[26, 3, 22] }, none⟩])
 (.seq (.ops [⟨some 268, Op.move (Operand.tmp 0), none⟩,
  ⟨some 269, Op.call { callee := Callee.value (Operand.func 14), args := #[Operand.tmp 268, Operand.const (Value.int IntKind.i64 0), Operand.const (Value.int IntKind.i64 0)], argTypes := #[26, 3, 3] }, none⟩])
 (.seq (.ops [⟨some 270, Op.move (Operand.tmp 33), none⟩,
  ⟨some 271, Op.move (Operand.tmp 1), none⟩,
  ⟨some 272, Op.move (Operand.tmp 34), none⟩,
  ⟨some 6, Op.assign (Operand.tmp 270), none⟩,
  ⟨some 7, Op.assign (Operand.tmp 271), none⟩,
  ⟨some 8, Op.assign (Operand.tmp 272), none⟩])
 .ret))))))
def ir19_c : LC := (.seq (.ops [⟨some 5, Op.box 49 (Operand.tmp 2), none⟩,
  ⟨some 6, Op.assign (Operand.const (Value.pointer none)), none⟩,
  ⟨some 7, Op.assign (Operand.const (Value.pointer none)), none⟩,
  ⟨some 8, Op.assign (Operand.const (Value.bool false)), none⟩])
 (.seq (.seq (.ops [⟨some 35, Op.fieldAddr 49 (Operand.tmp 5) 0, none⟩,
  ⟨some 36, Op.load 3 (Operand.tmp 35), none⟩])
 (.block 0 (.seq (.ops [⟨some 38, Op.binOp BinOp.eql 3 (Operand.tmp 36) (Operand.const (Value.int IntKind.i64 1)) 3, none⟩,
  ⟨some 37, Op.assign (Operand.tmp 38), none⟩])
 (.cond (Operand.tmp 37)
 ir19_k1
 (.seq (.ops [⟨some 109, Op.binOp BinOp.eql 3 (Operand.tmp 36) (Operand.const (Value.int IntKind.i64 2)) 3, none⟩,
  ⟨some 108, Op.assign (Operand.tmp 109), none⟩])
 (.cond (Operand.tmp 108)
 ir19_k2
 (.seq (.ops [⟨some 140, Op.binOp BinOp.eql 3 (Operand.tmp 36) (Operand.const (Value.int IntKind.i64 3)) 3, none⟩,
  ⟨some 139, Op.assign (Operand.tmp 140), none⟩])
 (.cond (Operand.tmp 139)
 ir19_k3
 (.seq (.seq (.ops [⟨some 194, Op.binOp BinOp.eql 3 (Operand.tmp 36) (Operand.const (Value.int IntKind.i64 4)) 3, none⟩,
  ⟨some 193, Op.assign (Operand.tmp 194), none⟩])
 (.cond (Operand.tmp 193)
 .skip
 (.ops [⟨some 195, Op.binOp BinOp.eql 3 (Operand.tmp 36) (Operand.const (Value.int IntKind.i64 5)) 3, none⟩,
  ⟨some 193, Op.assign (Operand.tmp 195), none⟩])))
 (.cond (Operand.tmp 193)
 ir19_k4
 (.seq (.ops [⟨some 253, Op.binOp BinOp.eql 3 (Operand.tmp 36) (Operand.const (Value.int IntKind.i64 6)) 3, none⟩,
  ⟨some 252, Op.assign (Operand.tmp 253), none⟩])
 (.cond (Operand.tmp 252)
 ir19_k6
 .skip))))))))))))
 (.seq (.ops [⟨some 273, Op.move (Operand.tmp 0), none⟩,
  ⟨some 274, Op.move (Operand.tmp 1), none⟩,
  ⟨some 6, Op.assign (Operand.tmp 273), none⟩,
  ⟨some 7, Op.assign (Operand.tmp 274), none⟩,
  ⟨some 8, Op.assign (Operand.const (Value.bool true)), none⟩])
 .ret)))
theorem ir19_c_eq : ir19 = ir19_c := rfl
variable {hb g0 : Heap} {R W M0 MD0 : Set'} {pp rd sb : Nat} {qs : List Nat} {S : AT} {kd a n : Int} {vf vp : V} {L : List Te} {l : List V} {tr : Tr V} {Q : Ex → Fr → Heap → Prop} {t : List It}
structure StB (g : Heap) (sb : Nat) (kd a n : Int) (vf vp : V) : Prop where
 c : ∃ c, g.get sb = some (.cells c 49) ∧ c.size = 5 ∧ c.get 0 = .int .i64 kd ∧ c.get 1 = .int .i64 a ∧ c.get 2 = .int .i64 n ∧ c.get 3 = vf ∧ c.get 4 = vp
theorem StB.at' {g : Heap} {M MD : Set'} {S' SD : AT} {pp' : Nat} (h : StB g0 sb kd a n vf vp) (hs : ¬ (M0 sb ∨ MD0 sb)) (q : BothQ hb g0 g M0 MD0 pp' M rd MD qs S' SD) : StB g sb kd a n vf vp := by
 obtain ⟨c, h1, h2⟩ := h.c
 exact ⟨c, by rw [q.k _ (Heap.lt_of_get h1) hs]; exact h1, h2⟩
theorem BothQ.prog' {g g' : Heap} {M M' MD : Set'} {S' SD S2 : AT} {pp' : Nat} (q : BothQ hb g0 g M0 MD0 pp' M rd MD qs S' SD) (hc : Chg g g' M) (hx : PX g' M' pp' qs S2) (hm : ∀ k, M' k → M k ∨ g.n ≤ k) : BothQ hb g0 g' M0 MD0 pp' M' rd MD qs S2 SD := by
 obtain ⟨⟨p, d, mp, md, dis, n, old⟩, qm, qmd, qb, qn, qk⟩ := q
 have hcn := hc.n
 have hkk : ∀ k, k < g.n → ¬ M k → g'.get k = g.get k := fun k h1 h2 => hc.k k h1 fun h => h2 h.1
 refine ⟨⟨hx, d.same hcn fun k h => hkk k (d.lt k h) fun h2 => dis k h2 h, fun k h => (hm k h).elim (mp k) fun h => by omega, md, fun k h h2 => (hm k h).elim (fun h3 => dis k h3 h2) fun h3 => by have := d.lt k h2; omega, by omega, fun k h => ?_⟩, fun k h => (hm k h).elim (qm k) fun h => .inr (by omega), qmd, qb, by omega, fun k h1 h2 => ?_⟩
 ·rw [hkk k (by omega) fun h2 => by have := mp k h2; omega]; exact old k h
 ·rw [hkk k (by omega) fun h3 => (qm k h3).elim (fun h => h2 (.inl h)) fun h => by omega]; exact qk k h1 h2
set_option maxHeartbeats 2000000 in
theorem do_k2 (q : BothQ hb g0 g0 M0 MD0 pp M0 rd MD0 qs S S) (hc : StB g0 sb kd a n vf vp) (hs : ¬ (M0 sb ∨ MD0 sb)) (hR : ∀ b, R b) (hW : ∀ k, hb.n ≤ k → W k)
  (t0 : tr.get 0 = some (.ptr (some (pp, 0)))) (t1 : tr.get 1 = some (.ptr (some (rd, 0)))) (t5 : tr.get 5 = some (.ptr (some (sb, 0))))
  (hk : ∀ tr' g' pp' M MD, tr'.get 6 = some (.ptr (some (pp', 0))) → tr'.get 7 = some (.ptr (some (rd, 0))) → tr'.get 8 = some (.bool true) → BothQ hb g0 g' M0 MD0 pp' M rd MD qs (closeA S a n) (closeA S a n) → Q .ret ⟨⟨275, tr'⟩, []⟩ g') :
  GO ⟨Try.prog, true⟩ R W none Q (It.code ir19_k2 :: t) ⟨⟨275, tr⟩, []⟩ g0 := by
 obtain ⟨c, c1, c2, d0, d1, d2, d3, d4⟩ := hc.c
 have hRs := hR sb
 simp -implicitDefEqProofs (disch := (first | omega | fail)) only [go_sem, seval, ↓reduceIte, ir19_k2, t0, t5, c1, c2, d1, d2, hRs]
 refine GCall.of (close_px q.t.p hR (fun b h => hW b (q.t.mp b h)) a n) ?_
 rintro r g ⟨hq, rfl⟩
 obtain ⟨M, q1, _⟩ := q.prog hq
 obtain ⟨c, c1, c2, d0, d1, d2, d3, d4⟩ := (hc.at' hs q1).c
 simp -implicitDefEqProofs (disch := (first | omega | fail)) only [go_sem, seval, ↓reduceIte, t1, t5, c1, c2, d1, d2, hRs]
 refine GCall.of (close_rx q1.t.d hR (fun b h => hW b (q1.t.md b h)) a n).any ?_
 rintro r g2 ⟨hq2, rfl⟩
 obtain ⟨MD, q2, _⟩ := q1.doc hq2
 have e1 : ((closeV qs S a n).1 == (closeV qs S a n).1) = true := by simp
 have e2 : ((closeV qs S a n).2 == (closeV qs S a n).2) = true := by simp
 simp -implicitDefEqProofs (disch := (first | omega | fail)) only [go_sem, seval, ↓reduceIte, reduceCtorEq, t0, t1, e1]
 refine GCall.of (num_ok _).any ?_
 rintro r g3 ⟨rfl, rfl⟩
 simp -implicitDefEqProofs (disch := (first | omega | fail)) only [go_sem, seval, ↓reduceIte, e2]
 exact hk _ _ _ _ _ (by simp -implicitDefEqProofs (disch := (first | omega | fail)) only [go_sem, seval, ↓reduceIte]) (by simp -implicitDefEqProofs (disch := (first | omega | fail)) only [go_sem, seval, ↓reduceIte]) (by simp -implicitDefEqProofs (disch := (first | omega | fail)) only [go_sem, seval, ↓reduceIte]) q2
theorem fill_l2 {g : Heap} {v : V} {l : List V} {n0 : Nat} (ho : Own n0 g v l 5) (hl : l.length ≤ 1000000000) (hR : ∀ b, R b) (hW : ∀ b, n0 ≤ b → W b) (t27 : tr.get 27 = some v) (t32 : tr.get 32 = some (.int .i64 0))
  (hk : ∀ tr' g', tr'.get 0 = tr.get 0 → tr'.get 1 = tr.get 1 → tr'.get 31 = tr.get 31 → g'.n = g.n → (∀ b, (b < n0 ∨ b ≠ sblk v) → g'.get b = g.get b) → resume ⟨Try.prog, true⟩ R W none Q t (.exit 5) ⟨⟨275, tr'⟩, []⟩ g') :
  GLoop ⟨Try.prog, true⟩ R W none Q ir19_l2 t ⟨⟨275, tr⟩, []⟩ g := by
 have hlen := ho.lr.lenV Try.underlying36
 refine GLoop.inv hm (fun k f g' => f.mks = [] ∧ f.tm.n = 275 ∧ f.tm.get 27 = some v ∧ f.tm.get 0 = tr.get 0 ∧ f.tm.get 1 = tr.get 1 ∧ f.tm.get 31 = tr.get 31 ∧ g'.n = g.n ∧ (∀ b, (b < n0 ∨ b ≠ sblk v) → g'.get b = g.get b) ∧ ∃ i l', i + k = l.length ∧ f.tm.get 32 = some (.int .i64 ((i : Nat) : Int)) ∧ Own n0 g' v l' 5 ∧ l'.length = l.length) l.length ?_ ?_
 ·exact ⟨rfl, rfl, t27, rfl, rfl, rfl, rfl, fun _ _ => rfl, 0, l, by omega, t32, ho, rfl⟩
 rintro k ⟨⟨n', tr'⟩, mks⟩ g' ⟨hmk, hn', u27, u0, u1, u31, gn, go, i, l', hik, u32, ho', hl'⟩
 simp only [Tm.get_mk] at hmk hn' u27 u0 u1 u31 u32
 subst hmk hn'
 by_cases hi : i < l.length
 ·have hz : (i : Int) < (l.length : Int) := by omega
  have hi0 : (0 : Int) ≤ (i : Int) := by omega
  obtain ⟨b, x, c, rfl, hb0, hb, hs, hro, hg, hgs⟩ := ho'.get (i := i) (by omega)
  have hbl := Heap.lt_of_get hb
  have hRb := hR b; have hWb := hW b hb0
  rw [hl'] at u27 hlen hs
  have hsz : i < c.size := by omega
  simp -implicitDefEqProofs (disch := (first | omega | fail)) only [go_sem, seval, ↓reduceIte, reduceCtorEq, ir19_l2, undefV, u27, u32, ↓hlen, hz, hi0, hb, hWb, hro]
  refine ⟨k - 1, by omega, by rw [hl'], u0, u1, u31, gn, fun b' hb' => by rw [w_set_ne hbl (by rcases hb' with h | h; omega; exact h)]; exact go b' hb', i + 1, l'.set i (.int .u8 102), by omega, by simp, ?_, by rw [List.length_set]; exact hl'⟩
  refine .inr ⟨b, x, c.set i (.int .u8 102), by intro h; have := congrArg List.length h; rw [List.length_set] at this; simp only [List.length_nil] at this; omega, by simp, hb0, w_set_eq hbl rfl _, by rw [Blk.size_set, List.length_set]; omega, by rw [Blk.ro_set]; exact hro, ?_⟩
  rw [List.length_set]
  rw [set_gets, hgs]
 ·have hz : ¬ (i : Int) < (l.length : Int) := by omega
  simp -implicitDefEqProofs (disch := (first | omega | fail)) only [go_sem, seval, ↓reduceIte, ir19_l2, u27, u32, ↓hlen, hz]
  exact hk _ _ (by simp -implicitDefEqProofs (disch := (first | omega | fail)) only [go_sem, seval, ↓reduceIte, reduceCtorEq, u0]) (by simp -implicitDefEqProofs (disch := (first | omega | fail)) only [go_sem, seval, ↓reduceIte, u1]) (by simp -implicitDefEqProofs (disch := (first | omega | fail)) only [go_sem, seval, ↓reduceIte, u31]) gn go
theorem takeB_fit {g : Heap} {M : Set'} (hx : PX g M pp qs S) (a n : Int) : Byt (takeB S a n) ∧ (takeB S a n).length ≤ 64 := by
 unfold takeB
 cases e : lookA S a n with
 | none => exact ⟨fun v h => (by cases h), by simp⟩
 | some x =>
  obtain ⟨i, m, _, _, hS⟩ := lookA_nat e
  have := (hx.fit i m x hS).2
  simp only []
  cases hr : x.ring with
  | nil => exact ⟨fun v h => (by cases h), by simp⟩
  | cons l r => exact this l (by rw [hr]; simp)
set_option maxHeartbeats 4000000 in
theorem do_k4 (hkd : kd = 4 ∨ kd = 5) (q : BothQ hb g0 g0 M0 MD0 pp M0 rd MD0 qs S S) (hc : StB g0 sb kd a n vf vp) (hs : ¬ (M0 sb ∨ MD0 sb)) (hR : ∀ b, R b) (hW : ∀ k, hb.n ≤ k → W k)
  (t0 : tr.get 0 = some (.ptr (some (pp, 0)))) (t1 : tr.get 1 = some (.ptr (some (rd, 0)))) (t5 : tr.get 5 = some (.ptr (some (sb, 0))))
  (hk : ∀ tr' g' pp' M MD, tr'.get 6 = some (.ptr (some (pp', 0))) → tr'.get 7 = some (.ptr (some (rd, 0))) → tr'.get 8 = some (.bool true) → BothQ hb g0 g' M0 MD0 pp' M rd MD qs (if kd = 4 then takeA S a n else S) (if kd = 4 then takeA S a n else S) → Q .ret ⟨⟨275, tr'⟩, []⟩ g') :
  GO ⟨Try.prog, true⟩ R W none Q (It.code ir19_k4 :: t) ⟨⟨275, tr⟩, []⟩ g0 := by
 obtain ⟨hbt, h64⟩ := takeB_fit q.t.p a n
 have hRs := hR sb
 have hst : (if (kd == 5) = true then S else takeA S a n) = if kd = 4 then takeA S a n else S := by rcases hkd with rfl | rfl <;> rfl
 -- from where a told packet is at hand
 have tail : ∀ (tr : Tr V) (g gq : Heap) (M : Set') (v : V), tr.get 0 = some (.ptr (some (pp, 0))) → tr.get 1 = some (.ptr (some (rd, 0))) → tr.get 5 = some (.ptr (some (sb, 0))) → tr.get 27 = some v → tr.get 28 = some (.int .i64 (lookEA qs S a n)) → BothQ hb g0 g M0 MD0 pp M rd MD0 qs (if kd = 4 then takeA S a n else S) S → g0.n ≤ gq.n → gq.n ≤ g.n → (∀ k, M k → k < gq.n) → (∀ k, MD0 k → k < gq.n) → Own gq.n g v (takeB S a n) 5 →
   GO ⟨Try.prog, true⟩ R W none Q (It.code ir19_k4t :: t) ⟨⟨275, tr⟩, []⟩ g := by
  intro tr g gq M v t0 t1 t5 t27 t28 q1 hgq0 hgq hMl hMDl ho
  obtain ⟨c, c1, c2, d0, d1, d2, d3, d4⟩ := (hc.at' hs q1).c
  have hgs := Heap.lt_of_get c1
  simp -implicitDefEqProofs (disch := (first | omega | fail)) only [go_sem, seval, ↓reduceIte, ir19_k4t, t1, t5, c1, c2, d0, d1, d2, hRs]
  refine GCall.of (take_rx q1.t.d hR (fun b h => hW b (q1.t.md b h)) a n (kd == 5)).any ?_
  rintro r g2 ⟨hq2, s, rfl, hs2⟩
  rw [hst] at hq2
  have hkk := hq2.2.1
  have hgn2 := hq2.1
  obtain ⟨MD, q2, hmd⟩ := q1.doc hq2
  have ho2 : Own gq.n g2 v (takeB S a n) 5 := Own.ofS ((Own.toS ho).keep fun b c hb hn => by rw [hkk b (Heap.lt_of_get hb) (fun h => by have := hMDl b h; omega)]; exact hb)
  obtain ⟨r1, hc1⟩ := conv_lr ho2.lr hbt
  obtain ⟨r2, hc2⟩ := conv_lr hs2 hbt
  have hr1 : allB R r1 := allB_of fun b _ => hR b
  have hr2 : allB R r2 := allB_of fun b _ => hR b
  have hse := sb_eql (strB (takeB S a n)) (strB (takeB S a n))
  rw [decide_eq_true rfl] at hse
  have e2 : (lookEA qs S a n == lookEA qs S a n) = true := by simp
  simp -implicitDefEqProofs (disch := (first | omega | fail)) only [go_sem, seval, ↓reduceIte, t27, t28, ↓cvS, hc1, hc2, hr1, hr2, hse]
  refine GCall.of (num_ok _).any ?_
  rintro r g3 ⟨rfl, rfl⟩
  simp -implicitDefEqProofs (disch := (first | omega | fail)) only [go_sem, seval, ↓reduceIte, e2]
  refine fill_l2 (n0 := gq.n) ho2 (by omega) hR (fun b h => hW b (by have := q.hb0; omega)) (by simp -implicitDefEqProofs (disch := (first | omega | fail)) only [go_sem, seval, ↓reduceIte, t27]) (by simp -implicitDefEqProofs (disch := (first | omega | fail)) only [go_sem, seval, ↓reduceIte]) ?_
  intro tr' g4 u0 u1 u31 hn4 hk4
  replace u0 := u0.trans (show _ = some (V.ptr (some (pp, 0))) by simp -implicitDefEqProofs (disch := (first | omega | fail)) only [go_sem, seval, ↓reduceIte, reduceCtorEq, t0])
  replace u1 := u1.trans (show _ = some (V.ptr (some (rd, 0))) by simp -implicitDefEqProofs (disch := (first | omega | fail)) only [go_sem, seval, ↓reduceIte, t1])
  replace u31 := u31.trans (show _ = some (V.bool true) by simp -implicitDefEqProofs (disch := (first | omega | fail)) only [go_sem, seval, ↓reduceIte])
  simp -implicitDefEqProofs (disch := (first | omega | fail)) only [go_sem, seval, ↓reduceIte, u0, u1, u31]
  refine hk _ _ _ _ _ (by simp -implicitDefEqProofs (disch := (first | omega | fail)) only [go_sem, seval, ↓reduceIte]) (by simp -implicitDefEqProofs (disch := (first | omega | fail)) only [go_sem, seval, ↓reduceIte]) (by simp -implicitDefEqProofs (disch := (first | omega | fail)) only [go_sem, seval, ↓reduceIte]) (q2.same (by omega) fun k h1 h2 => hk4 k ?_)
  rcases h2 with h2 | h2 | h2
  ·exact .inl (by omega)
  ·exact .inl (hMl k h2)
  ·rcases hmd k h2 with h3 | h3
   ·exact .inl (hMDl k h3)
   ·rcases (Own.toS ho).sblk with h4 | h4
    ·exact .inr (by omega)
    ·exact .inr (by omega)
 obtain ⟨c, c1, c2, d0, d1, d2, d3, d4⟩ := hc.c
 simp -implicitDefEqProofs (disch := (first | omega | fail)) only [go_sem, seval, ↓reduceIte, ir19_k4, t0, t5, c1, c2, d1, d2, hRs]
 refine GCall.of (look_px q.t.p hR a n) ?_
 rintro r g1 ⟨hn1, hk1, s, rfl, ho, hne⟩
 have q1 := q.push hn1 hk1
 obtain ⟨c, c1, c2, d0, d1, d2, d3, d4⟩ := (hc.at' hs q1).c
 rcases hkd with rfl | rfl
 ·have e4 : ((4 : Int) == 4) = true := rfl
  simp -implicitDefEqProofs (disch := (first | omega | fail)) only [go_sem, seval, ↓reduceIte, reduceCtorEq, t0, t5, c1, c2, d0, d1, d2, hRs]
  refine GCall.of (take_px2 q1.t.p hR (fun b h => hW b (q1.t.mp b h)) a n) ?_
  rintro r g2 ⟨hcg, hx2, s2, rfl, ho2, hne2⟩
  have q2 := q1.prog' hcg hx2 fun k h => .inl h
  have hn2 := hcg.n
  simp -implicitDefEqProofs (disch := (first | omega | fail)) only [go_sem, seval, ↓reduceIte]
  exact tail _ g2 g1 M0 s2 (by simp -implicitDefEqProofs (disch := (first | omega | fail)) only [go_sem, seval, ↓reduceIte, reduceCtorEq, t0]) (by simp -implicitDefEqProofs (disch := (first | omega | fail)) only [go_sem, seval, ↓reduceIte, t1]) (by simp -implicitDefEqProofs (disch := (first | omega | fail)) only [go_sem, seval, ↓reduceIte, t5]) (by simp -implicitDefEqProofs (disch := (first | omega | fail)) only [go_sem, seval, ↓reduceIte]) (by simp -implicitDefEqProofs (disch := (first | omega | fail)) only [go_sem, seval, ↓reduceIte]) q2 hn1 hn2 q1.t.p.lt q1.t.d.lt ho2
 ·simp -implicitDefEqProofs (disch := (first | omega | fail)) only [go_sem, seval, ↓reduceIte, t5, c1, c2, d0, hRs]
  exact tail _ g1 g0 M0 s (by simp -implicitDefEqProofs (disch := (first | omega | fail)) only [go_sem, seval, ↓reduceIte, reduceCtorEq, t0]) (by simp -implicitDefEqProofs (disch := (first | omega | fail)) only [go_sem, seval, ↓reduceIte, t1]) (by simp -implicitDefEqProofs (disch := (first | omega | fail)) only [go_sem, seval, ↓reduceIte, t5]) (by simp -implicitDefEqProofs (disch := (first | omega | fail)) only [go_sem, seval, ↓reduceIte]) (by simp -implicitDefEqProofs (disch := (first | omega | fail)) only [go_sem, seval, ↓reduceIte]) q1 (Nat.le_refl _) hn1 q.t.p.lt q.t.d.lt ho
end Go.Proofs.Ytmimialblhlklaa
