/- The code of this seat struck bare (printed by program). -/
import Derived.Test.YtmimialblhlklaaProg
import Derived.Test.YtmimialblhlklaaV4
import Derived.KernelRfl
set_option linter.unusedVariables false
set_option maxRecDepth 100000
namespace Go.Proofs.Ytmimialblhlklaa
open Go Go.Vm
def ir6_l0 : LC := (.seq (.seq (.ops [⟨some 35, .move (.tmp 10), none⟩,
⟨some 36, .move (.tmp 1), none⟩,
⟨some 37, .call ⟨.builtin .len, #[.tmp 36], #[46]⟩, none⟩,
⟨some 38, .binOp .lss 3 (.tmp 35) (.tmp 37) 3, none⟩,
⟨some 39, .move (.tmp 38), none⟩,
⟨some 40, .move (.tmp 10), some (39, true)⟩,
⟨some 41, .binOp .lss 3 (.tmp 40) (.const (.int .i64 100)) 3, some (39, true)⟩,
⟨some 42, .pick (.tmp 39) (.tmp 41) (.const (.bool false)), none⟩])
(.cond (.tmp 42)
.skip
(.exit 0)))
(.seq (.block 1 (.seq (.ops [⟨some 46, .move (.tmp 7), none⟩,
⟨some 47, .move (.tmp 8), none⟩,
⟨some 48, .move (.tmp 1), none⟩,
⟨some 49, .move (.tmp 10), none⟩,
⟨some 50, .indexAddr 46 (.tmp 48) (.tmp 49), none⟩,
⟨some 51, .load 49 (.tmp 50), none⟩,
⟨some 52, .call ⟨.value (.func 19), #[.tmp 46, .tmp 47, .tmp 51], #[26, 27, 49]⟩, none⟩,
⟨some 45, .move (.tmp 52), none⟩,
⟨some 53, .extract (.tmp 45) 0, none⟩,
⟨some 54, .extract (.tmp 45) 1, none⟩,
⟨some 55, .extract (.tmp 45) 2, none⟩,
⟨some 7, .assign (.tmp 53), none⟩,
⟨some 8, .assign (.tmp 54), none⟩,
⟨some 9, .assign (.tmp 55), none⟩])
(.seq (.ops [⟨some 56, .move (.tmp 9), none⟩,
⟨some 57, .unOp .not 4 (.tmp 56), none⟩,
⟨some 58, .move (.tmp 57), none⟩,
⟨some 59, .move (.tmp 10), some (58, false)⟩,
⟨some 60, .binOp .rem 3 (.tmp 59) (.const (.int .i64 6)) 3, some (58, false)⟩,
⟨some 61, .binOp .eql 3 (.tmp 60) (.const (.int .i64 0)) 3, some (58, false)⟩,
⟨some 62, .move (.tmp 61), some (58, false)⟩,
⟨some 63, .move (.tmp 7), some (62, true)⟩,
⟨some 64, .move (.tmp 8), some (62, true)⟩,
⟨some 65, .move (.tmp 2), some (62, true)⟩,
⟨some 66, .call ⟨.value (.func 23), #[.tmp 63, .tmp 64, .tmp 65], #[26, 27, 3]⟩, some (62, true)⟩,
⟨some 67, .unOp .not 4 (.tmp 66), some (62, true)⟩,
⟨some 68, .pick (.tmp 62) (.tmp 67) (.const (.bool false)), some (58, false)⟩,
⟨some 69, .pick (.tmp 58) (.const (.bool true)) (.tmp 68), none⟩])
(.cond (.tmp 69)
(.seq (.ops [⟨some 6, .assign (.const (.bool false)), none⟩])
.ret)
.skip))))
(.ops [⟨some 43, .move (.tmp 10), none⟩,
⟨some 44, .binOp .add 3 (.tmp 43) (.const (.int .i64 1)) 3, none⟩,
⟨some 10, .assign (.tmp 44), none⟩])))
def ir6 : LC := (.seq (.ops [⟨some 6, .assign (.const (.bool false)), none⟩])
(.seq (.seq (.ops [⟨some 11, .move (.tmp 0), none⟩,
⟨some 12, .call ⟨.builtin .len, #[.tmp 11], #[30]⟩, none⟩,
⟨some 13, .binOp .gtr 3 (.tmp 12) (.const (.int .i64 20)) 3, none⟩,
⟨some 14, .move (.tmp 13), none⟩,
⟨some 15, .move (.tmp 1), some (14, false)⟩,
⟨some 16, .call ⟨.value (.func 15), #[.tmp 15], #[46]⟩, some (14, false)⟩,
⟨some 17, .pick (.tmp 14) (.const (.bool true)) (.tmp 16), none⟩])
(.cond (.tmp 17)
(.seq (.ops [⟨some 18, .call ⟨.value (.func 8), #[], #[]⟩, none⟩,
⟨some 6, .assign (.tmp 18), none⟩])
.ret)
.skip))
(.seq (.ops [⟨some 20, .move (.tmp 0), none⟩,
⟨some 21, .call ⟨.value (.func 9), #[.tmp 20], #[30]⟩, none⟩,
⟨some 19, .move (.tmp 21), none⟩,
⟨some 22, .extract (.tmp 19) 0, none⟩,
⟨some 23, .extract (.tmp 19) 1, none⟩,
⟨some 24, .extract (.tmp 19) 2, none⟩,
⟨some 7, .assign (.tmp 22), none⟩,
⟨some 8, .assign (.tmp 23), none⟩,
⟨some 9, .assign (.tmp 24), none⟩])
(.seq (.seq (.ops [⟨some 25, .move (.tmp 9), none⟩,
⟨some 26, .unOp .not 4 (.tmp 25), none⟩,
⟨some 27, .move (.tmp 26), none⟩,
⟨some 28, .move (.tmp 8), some (27, false)⟩,
⟨some 29, .binOp .eql 27 (.tmp 28) (.const (.pointer none)) 27, some (27, false)⟩,
⟨some 30, .pick (.tmp 27) (.const (.bool true)) (.tmp 29), none⟩])
(.cond (.tmp 30)
(.seq (.ops [⟨some 31, .move (.tmp 9), none⟩,
⟨some 32, .move (.tmp 31), none⟩,
⟨some 33, .call ⟨.value (.func 8), #[], #[]⟩, some (32, true)⟩,
⟨some 34, .pick (.tmp 32) (.tmp 33) (.const (.bool false)), none⟩,
⟨some 6, .assign (.tmp 34), none⟩])
.ret)
.skip))
(.seq (.seq (.ops [⟨some 10, .assign (.const (.int .i64 0)), none⟩])
(.block 0 (.loop ir6_l0)))
(.seq (.ops [⟨some 70, .move (.tmp 7), none⟩,
⟨some 71, .move (.tmp 8), none⟩,
⟨some 72, .move (.tmp 2), none⟩,
⟨some 73, .call ⟨.value (.func 23), #[.tmp 70, .tmp 71, .tmp 72], #[26, 27, 3]⟩, none⟩,
⟨some 74, .move (.tmp 73), none⟩,
⟨some 75, .call ⟨.value (.func 8), #[], #[]⟩, some (74, true)⟩,
⟨some 76, .pick (.tmp 74) (.tmp 75) (.const (.bool false)), none⟩,
⟨some 6, .assign (.tmp 76), none⟩])
.ret))))))
theorem ir6_eq : (Try.f6.body.map low, Try.f6.ntmps, Try.f6.results.toList) = (some ir6, 77, [.tmp 6]) := by kernel_rfl
def ir8_l0 : LC := (.seq (.seq (.ops [⟨some 102, .move (.tmp 29), none⟩,
⟨some 103, .binOp .lss 3 (.tmp 102) (.const (.int .i64 8)) 3, none⟩])
(.cond (.tmp 103)
.skip
(.exit 0)))
(.seq (.block 1 (.ops [⟨some 106, .move (.tmp 5), none⟩,
⟨some 107, .buildSlice 36 1 #[(0, .const (.int .u8 0))], none⟩,
⟨some 108, .call ⟨.value (.func 12), #[.tmp 106, .tmp 107], #[26, 36]⟩, none⟩]))
(.ops [⟨some 104, .move (.tmp 29), none⟩,
⟨some 105, .binOp .add 3 (.tmp 104) (.const (.int .i64 1)) 3, none⟩,
⟨some 29, .assign (.tmp 105), none⟩])))
def ir8 : LC := (.seq (.ops [⟨some 0, .assign (.const (.bool false)), none⟩])
(.seq (.ops [⟨some 31, .buildSlice 30 2 #[(0, .const (.int .i64 9)), (1, .const (.int .i64 8))], none⟩,
⟨some 32, .call ⟨.value (.func 24), #[.tmp 31], #[30]⟩, none⟩,
⟨some 30, .move (.tmp 32), none⟩,
⟨some 33, .extract (.tmp 30) 0, none⟩,
⟨some 34, .extract (.tmp 30) 1, none⟩,
⟨some 1, .assign (.tmp 33), none⟩,
⟨some 2, .assign (.tmp 34), none⟩])
(.seq (.ops [⟨some 36, .call ⟨.value (.func 24), #[.const (.slice none 0 0)], #[30]⟩, none⟩,
⟨some 35, .move (.tmp 36), none⟩,
⟨some 37, .extract (.tmp 35) 0, none⟩,
⟨some 38, .extract (.tmp 35) 1, none⟩,
⟨some 3, .assign (.tmp 37), none⟩,
⟨some 4, .assign (.tmp 38), none⟩])
(.seq (.ops [⟨some 40, .buildSlice 30 2 #[(0, .const (.int .i64 2)), (1, .const (.int .i64 1))], none⟩,
⟨some 41, .call ⟨.value (.func 24), #[.tmp 40], #[30]⟩, none⟩,
⟨some 39, .move (.tmp 41), none⟩,
⟨some 42, .extract (.tmp 39) 0, none⟩,
⟨some 43, .extract (.tmp 39) 1, none⟩,
⟨some 5, .assign (.tmp 42), none⟩,
⟨some 6, .assign (.tmp 43), none⟩])
(.seq (.ops [⟨some 45, .move (.tmp 5), none⟩,
⟨some 46, .call ⟨.value (.func 10), #[.tmp 45, .const (.int .i64 0), .const (.slice none 0 0)], #[26, 3, 22]⟩, none⟩,
⟨some 44, .move (.tmp 46), none⟩,
⟨some 47, .extract (.tmp 44) 0, none⟩,
⟨some 48, .extract (.tmp 44) 1, none⟩,
⟨some 7, .assign (.tmp 47), none⟩,
⟨some 8, .assign (.tmp 48), none⟩])
(.seq (.ops [⟨some 50, .move (.tmp 5), none⟩,
⟨some 51, .call ⟨.value (.func 10), #[.tmp 50, .const (.int .i64 0), .const (.slice none 0 0)], #[26, 3, 22]⟩, none⟩,
⟨some 49, .move (.tmp 51), none⟩,
⟨some 52, .extract (.tmp 49) 0, none⟩,
⟨some 53, .extract (.tmp 49) 1, none⟩,
⟨some 9, .assign (.tmp 52), none⟩,
⟨some 10, .assign (.tmp 53), none⟩])
(.seq (.ops [⟨some 55, .move (.tmp 5), none⟩,
⟨some 56, .call ⟨.value (.func 10), #[.tmp 55, .const (.int .i64 0), .const (.slice none 0 0)], #[26, 3, 22]⟩, none⟩,
⟨some 54, .move (.tmp 56), none⟩,
⟨some 57, .extract (.tmp 54) 0, none⟩,
⟨some 58, .extract (.tmp 54) 1, none⟩,
⟨some 11, .assign (.tmp 57), none⟩,
⟨some 12, .assign (.tmp 58), none⟩])
(.seq (.ops [⟨some 60, .move (.tmp 5), none⟩,
⟨some 61, .call ⟨.value (.func 10), #[.tmp 60, .const (.int .i64 2), .const (.slice none 0 0)], #[26, 3, 22]⟩, none⟩,
⟨some 59, .move (.tmp 61), none⟩,
⟨some 62, .extract (.tmp 59) 0, none⟩,
⟨some 63, .extract (.tmp 59) 1, none⟩,
⟨some 13, .assign (.tmp 62), none⟩,
⟨some 14, .assign (.tmp 63), none⟩])
(.seq (.ops [⟨some 65, .move (.tmp 5), none⟩,
⟨some 66, .buildSlice 36 2 #[(0, .const (.int .u8 0)), (1, .const (.int .u8 7))], none⟩,
⟨some 67, .call ⟨.value (.func 12), #[.tmp 65, .tmp 66], #[26, 36]⟩, none⟩,
⟨some 64, .move (.tmp 67), none⟩,
⟨some 68, .extract (.tmp 64) 0, none⟩,
⟨some 69, .extract (.tmp 64) 1, none⟩,
⟨some 15, .assign (.tmp 68), none⟩,
⟨some 16, .assign (.tmp 69), none⟩])
(.seq (.ops [⟨some 71, .move (.tmp 5), none⟩,
⟨some 72, .call ⟨.value (.func 14), #[.tmp 71, .const (.int .i64 0), .const (.int .i64 0)], #[26, 3, 3]⟩, none⟩,
⟨some 70, .move (.tmp 72), none⟩,
⟨some 73, .extract (.tmp 70) 0, none⟩,
⟨some 74, .extract (.tmp 70) 1, none⟩,
⟨some 17, .assign (.tmp 73), none⟩,
⟨some 18, .assign (.tmp 74), none⟩])
(.seq (.ops [⟨some 76, .move (.tmp 5), none⟩,
⟨some 77, .call ⟨.value (.func 14), #[.tmp 76, .const (.int .i64 0), .const (.int .i64 0)], #[26, 3, 3]⟩, none⟩,
⟨some 75, .move (.tmp 77), none⟩,
⟨some 78, .extract (.tmp 75) 0, none⟩,
⟨some 79, .extract (.tmp 75) 1, none⟩,
⟨some 19, .assign (.tmp 78), none⟩,
⟨some 20, .assign (.tmp 79), none⟩])
(.seq (.ops [⟨some 81, .move (.tmp 5), none⟩,
⟨some 82, .call ⟨.value (.func 17), #[.tmp 81, .const (.int .i64 0), .const (.int .i64 0)], #[26, 3, 3]⟩, none⟩,
⟨some 80, .move (.tmp 82), none⟩,
⟨some 83, .extract (.tmp 80) 0, none⟩,
⟨some 84, .extract (.tmp 80) 1, none⟩,
⟨some 21, .assign (.tmp 83), none⟩,
⟨some 22, .assign (.tmp 84), none⟩])
(.seq (.ops [⟨some 86, .move (.tmp 5), none⟩,
⟨some 87, .buildSlice 36 2 #[(0, .const (.int .u8 1)), (1, .const (.int .u8 5))], none⟩,
⟨some 88, .call ⟨.value (.func 12), #[.tmp 86, .tmp 87], #[26, 36]⟩, none⟩,
⟨some 85, .move (.tmp 88), none⟩,
⟨some 89, .extract (.tmp 85) 0, none⟩,
⟨some 90, .extract (.tmp 85) 1, none⟩,
⟨some 23, .assign (.tmp 89), none⟩,
⟨some 24, .assign (.tmp 90), none⟩])
(.seq (.ops [⟨some 92, .move (.tmp 5), none⟩,
⟨some 93, .call ⟨.value (.func 12), #[.tmp 92, .const (.slice none 0 0)], #[26, 36]⟩, none⟩,
⟨some 91, .move (.tmp 93), none⟩,
⟨some 94, .extract (.tmp 91) 0, none⟩,
⟨some 95, .extract (.tmp 91) 1, none⟩,
⟨some 25, .assign (.tmp 94), none⟩,
⟨some 26, .assign (.tmp 95), none⟩])
(.seq (.ops [⟨some 97, .move (.tmp 5), none⟩,
⟨some 98, .buildSlice 36 1 #[(0, .const (.int .u8 9))], none⟩,
⟨some 99, .call ⟨.value (.func 12), #[.tmp 97, .tmp 98], #[26, 36]⟩, none⟩,
⟨some 96, .move (.tmp 99), none⟩,
⟨some 100, .extract (.tmp 96) 0, none⟩,
⟨some 101, .extract (.tmp 96) 1, none⟩,
⟨some 27, .assign (.tmp 100), none⟩,
⟨some 28, .assign (.tmp 101), none⟩])
(.seq (.seq (.ops [⟨some 29, .assign (.const (.int .i64 0)), none⟩])
(.block 0 (.loop ir8_l0)))
(.seq (.ops [⟨some 109, .move (.tmp 2), none⟩,
⟨some 110, .call ⟨.value (.func 11), #[.tmp 109], #[31]⟩, none⟩,
⟨some 111, .binOp .eql 3 (.tmp 110) (.const (.int .i64 2)) 3, none⟩,
⟨some 112, .move (.tmp 111), none⟩,
⟨some 113, .move (.tmp 4), some (112, true)⟩,
⟨some 114, .call ⟨.value (.func 11), #[.tmp 113], #[31]⟩, some (112, true)⟩,
⟨some 115, .binOp .eql 3 (.tmp 114) (.const (.int .i64 2)) 3, some (112, true)⟩,
⟨some 116, .pick (.tmp 112) (.tmp 115) (.const (.bool false)), none⟩,
⟨some 117, .move (.tmp 116), none⟩,
⟨some 118, .move (.tmp 6), some (117, true)⟩,
⟨some 119, .call ⟨.value (.func 11), #[.tmp 118], #[31]⟩, some (117, true)⟩,
⟨some 120, .move (.tmp 8), some (117, true)⟩,
⟨some 121, .call ⟨.value (.func 11), #[.tmp 120], #[31]⟩, some (117, true)⟩,
⟨some 122, .binOp .add 3 (.tmp 119) (.tmp 121) 3, some (117, true)⟩,
⟨some 123, .move (.tmp 10), some (117, true)⟩,
⟨some 124, .call ⟨.value (.func 11), #[.tmp 123], #[31]⟩, some (117, true)⟩,
⟨some 125, .binOp .add 3 (.tmp 122) (.tmp 124) 3, some (117, true)⟩,
⟨some 126, .move (.tmp 16), some (117, true)⟩,
⟨some 127, .call ⟨.value (.func 11), #[.tmp 126], #[31]⟩, some (117, true)⟩,
⟨some 128, .binOp .add 3 (.tmp 125) (.tmp 127) 3, some (117, true)⟩,
⟨some 129, .move (.tmp 18), some (117, true)⟩,
⟨some 130, .call ⟨.value (.func 11), #[.tmp 129], #[31]⟩, some (117, true)⟩,
⟨some 131, .binOp .add 3 (.tmp 128) (.tmp 130) 3, some (117, true)⟩,
⟨some 132, .move (.tmp 22), some (117, true)⟩,
⟨some 133, .call ⟨.value (.func 11), #[.tmp 132], #[31]⟩, some (117, true)⟩,
⟨some 134, .binOp .add 3 (.tmp 131) (.tmp 133) 3, some (117, true)⟩,
⟨some 135, .move (.tmp 24), some (117, true)⟩,
⟨some 136, .call ⟨.value (.func 11), #[.tmp 135], #[31]⟩, some (117, true)⟩,
⟨some 137, .binOp .add 3 (.tmp 134) (.tmp 136) 3, some (117, true)⟩,
⟨some 138, .move (.tmp 26), some (117, true)⟩,
⟨some 139, .call ⟨.value (.func 11), #[.tmp 138], #[31]⟩, some (117, true)⟩,
⟨some 140, .binOp .add 3 (.tmp 137) (.tmp 139) 3, some (117, true)⟩,
⟨some 141, .move (.tmp 28), some (117, true)⟩,
⟨some 142, .call ⟨.value (.func 11), #[.tmp 141], #[31]⟩, some (117, true)⟩,
⟨some 143, .binOp .add 3 (.tmp 140) (.tmp 142) 3, some (117, true)⟩,
⟨some 144, .binOp .eql 3 (.tmp 143) (.const (.int .i64 0)) 3, some (117, true)⟩,
⟨some 145, .pick (.tmp 117) (.tmp 144) (.const (.bool false)), none⟩,
⟨some 146, .move (.tmp 145), none⟩,
⟨some 147, .move (.tmp 7), some (146, true)⟩,
⟨some 148, .binOp .eql 3 (.tmp 147) (.const (.int .i64 0)) 3, some (146, true)⟩,
⟨some 149, .pick (.tmp 146) (.tmp 148) (.const (.bool false)), none⟩,
⟨some 150, .move (.tmp 149), none⟩,
⟨some 151, .move (.tmp 9), some (150, true)⟩,
⟨some 152, .binOp .eql 3 (.tmp 151) (.const (.int .i64 1)) 3, some (150, true)⟩,
⟨some 153, .pick (.tmp 150) (.tmp 152) (.const (.bool false)), none⟩,
⟨some 154, .move (.tmp 153), none⟩,
⟨some 155, .move (.tmp 12), some (154, true)⟩,
⟨some 156, .call ⟨.value (.func 11), #[.tmp 155], #[31]⟩, some (154, true)⟩,
⟨some 157, .binOp .eql 3 (.tmp 156) (.const (.int .i64 5)) 3, some (154, true)⟩,
⟨some 158, .pick (.tmp 154) (.tmp 157) (.const (.bool false)), none⟩,
⟨some 159, .move (.tmp 158), none⟩,
⟨some 160, .move (.tmp 14), some (159, true)⟩,
⟨some 161, .call ⟨.value (.func 11), #[.tmp 160], #[31]⟩, some (159, true)⟩,
⟨some 162, .binOp .eql 3 (.tmp 161) (.const (.int .i64 2)) 3, some (159, true)⟩,
⟨some 163, .pick (.tmp 159) (.tmp 162) (.const (.bool false)), none⟩,
⟨some 164, .move (.tmp 163), none⟩,
⟨some 165, .move (.tmp 15), some (164, true)⟩,
⟨some 166, .build 41 #[(0, .const (.int .i64 0))], some (164, true)⟩,
⟨some 167, .build 41 #[(0, .const (.int .i64 1))], some (164, true)⟩,
⟨some 168, .buildSlice 37 2 #[(0, .tmp 166), (1, .tmp 167)], some (164, true)⟩,
⟨some 169, .call ⟨.value (.func 28), #[.tmp 165, .tmp 168], #[37, 37]⟩, some (164, true)⟩,
⟨some 170, .pick (.tmp 164) (.tmp 169) (.const (.bool false)), none⟩,
⟨some 171, .move (.tmp 170), none⟩,
⟨some 172, .move (.tmp 17), some (171, true)⟩,
⟨some 173, .convert 36 9 (.tmp 172), some (171, true)⟩,
⟨some 174, .binOp .eql 9 (.tmp 173) (.const (.string { data := #[0, 7] })) 9, some (171, true)⟩,
⟨some 175, .pick (.tmp 171) (.tmp 174) (.const (.bool false)), none⟩,
⟨some 176, .move (.tmp 175), none⟩,
⟨some 177, .move (.tmp 20), some (176, true)⟩,
⟨some 178, .call ⟨.value (.func 11), #[.tmp 177], #[31]⟩, some (176, true)⟩,
⟨some 179, .binOp .eql 3 (.tmp 178) (.const (.int .i64 6)) 3, some (176, true)⟩,
⟨some 180, .pick (.tmp 176) (.tmp 179) (.const (.bool false)), none⟩,
⟨some 181, .move (.tmp 180), none⟩,
⟨some 182, .move (.tmp 21), some (181, true)⟩,
⟨some 183, .binOp .eql 3 (.tmp 182) (.const (.int .i64 0)) 3, some (181, true)⟩,
⟨some 184, .pick (.tmp 181) (.tmp 183) (.const (.bool false)), none⟩,
⟨some 185, .move (.tmp 184), none⟩,
⟨some 186, .move (.tmp 23), some (185, true)⟩,
⟨some 187, .call ⟨.builtin .len, #[.tmp 186], #[37]⟩, some (185, true)⟩,
⟨some 188, .move (.tmp 25), some (185, true)⟩,
⟨some 189, .call ⟨.builtin .len, #[.tmp 188], #[37]⟩, some (185, true)⟩,
⟨some 190, .binOp .add 3 (.tmp 187) (.tmp 189) 3, some (185, true)⟩,
⟨some 191, .move (.tmp 27), some (185, true)⟩,
⟨some 192, .call ⟨.builtin .len, #[.tmp 191], #[37]⟩, some (185, true)⟩,
⟨some 193, .binOp .add 3 (.tmp 190) (.tmp 192) 3, some (185, true)⟩,
⟨some 194, .binOp .eql 3 (.tmp 193) (.const (.int .i64 0)) 3, some (185, true)⟩,
⟨some 195, .pick (.tmp 185) (.tmp 194) (.const (.bool false)), none⟩,
⟨some 196, .move (.tmp 195), none⟩,
⟨some 197, .move (.tmp 5), some (196, true)⟩,
⟨some 198, .call ⟨.value (.func 13), #[.tmp 197, .const (.int .i64 0), .const (.int .i64 1)], #[26, 3, 3]⟩, some (196, true)⟩,
⟨some 199, .binOp .eql 3 (.tmp 198) (.const (.int .i64 8)) 3, some (196, true)⟩,
⟨some 200, .pick (.tmp 196) (.tmp 199) (.const (.bool false)), none⟩,
⟨some 201, .move (.tmp 200), none⟩,
⟨some 202, .move (.tmp 5), some (201, true)⟩,
⟨some 203, .call ⟨.value (.func 26), #[.tmp 202, .const (.int .i64 0), .const (.int .i64 1)], #[26, 3, 3]⟩, some (201, true)⟩,
⟨some 204, .binOp .eql 2 (.tmp 203) (.const (.int .i64 1)) 2, some (201, true)⟩,
⟨some 205, .pick (.tmp 201) (.tmp 204) (.const (.bool false)), none⟩,
⟨some 0, .assign (.tmp 205), none⟩])
.ret)))))))))))))))))
theorem ir8_eq : (Try.f8.body.map low, Try.f8.ntmps, Try.f8.results.toList) = (some ir8, 206, [.tmp 0]) := by kernel_rfl
def ir9_l0 : LC := (.seq (.seq (.ops [⟨some 28, .move (.tmp 10), none⟩,
⟨some 29, .move (.tmp 0), none⟩,
⟨some 30, .call ⟨.builtin .len, #[.tmp 29], #[30]⟩, none⟩,
⟨some 31, .binOp .lss 3 (.tmp 28) (.tmp 30) 3, none⟩])
(.cond (.tmp 31)
.skip
(.exit 0)))
(.seq (.block 1 (.seq (.seq (.draw [⟨some 34, .move (.tmp 5), none⟩,
⟨some 35, .move (.tmp 10), none⟩,
⟨some 36, .indexAddr 30 (.tmp 34) (.tmp 35), none⟩,
⟨some 37, .load 3 (.tmp 36), none⟩,
⟨some 38, .move (.tmp 0), none⟩,
⟨some 39, .move (.tmp 10), none⟩,
⟨some 40, .indexAddr 30 (.tmp 38) (.tmp 39), none⟩,
⟨some 41, .load 3 (.tmp 40), none⟩,
⟨some 42, .binOp .neq 3 (.tmp 37) (.tmp 41) 3, none⟩] [])
(.cond (.tmp 42)
(.seq (.ops [⟨some 2, .assign (.const (.pointer none)), none⟩,
⟨some 3, .assign (.const (.pointer none)), none⟩,
⟨some 4, .assign (.const (.bool false)), none⟩])
.ret)
.skip))
(.ops [⟨some 43, .move (.tmp 5), none⟩,
⟨some 44, .move (.tmp 10), none⟩,
⟨some 45, .indexAddr 30 (.tmp 43) (.tmp 44), none⟩,
⟨none, .store 3 (.tmp 45) (.const (.int .i64 9)), none⟩])))
(.ops [⟨some 32, .move (.tmp 10), none⟩,
⟨some 33, .binOp .add 3 (.tmp 32) (.const (.int .i64 1)) 3, none⟩,
⟨some 10, .assign (.tmp 33), none⟩])))
def ir9 : LC := (.seq (.ops [⟨some 2, .assign (.const (.pointer none)), none⟩,
⟨some 3, .assign (.const (.pointer none)), none⟩,
⟨some 4, .assign (.const (.bool false)), none⟩])
(.seq (.ops [⟨some 11, .move (.tmp 0), none⟩,
⟨some 12, .call ⟨.builtin .append, #[.const (.slice none 0 0), .tmp 11], #[30, 30]⟩, none⟩,
⟨some 13, .buildSlice 30 1 #[(0, .const (.int .i64 77))], none⟩,
⟨some 14, .call ⟨.builtin .append, #[.tmp 12, .tmp 13], #[30, 30]⟩, none⟩,
⟨some 5, .assign (.tmp 14), none⟩])
(.seq (.ops [⟨some 16, .move (.tmp 5), none⟩,
⟨some 17, .move (.tmp 0), none⟩,
⟨some 18, .call ⟨.builtin .len, #[.tmp 17], #[30]⟩, none⟩,
⟨some 19, .slice 30 (.tmp 16) none (some (.tmp 18)) none, none⟩,
⟨some 20, .call ⟨.value (.func 24), #[.tmp 19], #[30]⟩, none⟩,
⟨some 15, .move (.tmp 20), none⟩,
⟨some 21, .extract (.tmp 15) 0, none⟩,
⟨some 22, .extract (.tmp 15) 1, none⟩,
⟨some 6, .assign (.tmp 21), none⟩,
⟨some 7, .assign (.tmp 22), none⟩])
(.seq (.ops [⟨some 24, .move (.tmp 0), none⟩,
⟨some 25, .call ⟨.value (.func 29), #[.tmp 24], #[30]⟩, none⟩,
⟨some 23, .move (.tmp 25), none⟩,
⟨some 26, .extract (.tmp 23) 0, none⟩,
⟨some 27, .extract (.tmp 23) 1, none⟩,
⟨some 8, .assign (.tmp 26), none⟩,
⟨some 9, .assign (.tmp 27), none⟩])
(.seq (.seq (.ops [⟨some 10, .assign (.const (.int .i64 0)), none⟩])
(.block 0 (.loop ir9_l0)))
(.seq (.ops [⟨some 46, .move (.tmp 6), none⟩,
⟨some 47, .move (.tmp 8), none⟩,
⟨some 48, .move (.tmp 6), none⟩,
⟨some 49, .binOp .eql 26 (.tmp 48) (.const (.pointer none)) 26, none⟩,
⟨some 50, .move (.tmp 8), none⟩,
⟨some 51, .binOp .eql 27 (.tmp 50) (.const (.pointer none)) 27, none⟩,
⟨some 52, .binOp .eql 4 (.tmp 49) (.tmp 51) 4, none⟩,
⟨some 53, .move (.tmp 52), none⟩,
⟨some 54, .move (.tmp 7), some (53, true)⟩,
⟨some 55, .call ⟨.value (.func 11), #[.tmp 54], #[31]⟩, some (53, true)⟩,
⟨some 56, .move (.tmp 9), some (53, true)⟩,
⟨some 57, .binOp .eql 3 (.tmp 55) (.tmp 56) 3, some (53, true)⟩,
⟨some 58, .pick (.tmp 53) (.tmp 57) (.const (.bool false)), none⟩,
⟨some 2, .assign (.tmp 46), none⟩,
⟨some 3, .assign (.tmp 47), none⟩,
⟨some 4, .assign (.tmp 58), none⟩])
.ret))))))
theorem ir9_eq : (Try.f9.body.map low, Try.f9.ntmps, Try.f9.results.toList) = (some ir9, 59, [.tmp 2, .tmp 3, .tmp 4]) := by kernel_rfl
def ir10_l0 : LC := (.seq (.ops [⟨some 31, .binOp .lss 3 (.tmp 30) (.tmp 29) 3, none⟩])
(.seq (.cond (.tmp 31)
.skip
(.exit 0))
(.seq (.block 1 (.seq (.ops [⟨some 32, .move (.tmp 30), none⟩,
⟨some 10, .assign (.tmp 32), none⟩])
(.seq (.ops [⟨some 33, .move (.tmp 1), none⟩,
⟨some 34, .move (.tmp 10), none⟩,
⟨some 35, .build 75 #[(0, .tmp 33), (1, .tmp 34)], none⟩,
⟨some 11, .alloc 75, none⟩,
⟨none, .store 75 (.tmp 11) (.tmp 35), none⟩])
(.seq (.draw [⟨some 36, .move (.tmp 0), none⟩,
⟨some 37, .nilCheck (.tmp 36), none⟩,
⟨some 38, .fieldAddr 68 (.tmp 37) 1, none⟩,
⟨some 39, .load 66 (.tmp 38), none⟩,
⟨some 40, .load 75 (.tmp 11), none⟩,
⟨some 41, .lookup 66 (.tmp 39) (.tmp 40) false, none⟩,
⟨some 42, .binOp .eql 76 (.tmp 41) (.const (.pointer none)) 76, none⟩] [])
(.cond (.tmp 42)
(.seq (.draw [⟨some 43, .move (.tmp 0), none⟩,
⟨some 44, .nilCheck (.tmp 43), none⟩,
⟨some 45, .fieldAddr 68 (.tmp 44) 1, none⟩,
⟨some 46, .load 66 (.tmp 45), none⟩,
⟨some 47, .load 75 (.tmp 11), none⟩,
⟨some 48, .move (.tmp 2), none⟩,
⟨some 49, .call ⟨.value (.func 32), #[.tmp 48], #[22]⟩, none⟩,
⟨some 50, .build 82 #[(0, .tmp 49)], none⟩,
⟨some 51, .box 82 (.tmp 50), none⟩,
⟨none, .mapUpdate 66 (.tmp 46) (.tmp 47) (.tmp 51), none⟩] [(0, 6), (1, 6), (2, 6), (3, 6), (4, 6), (0, 8), (1, 8), (2, 8), (3, 8), (4, 8)])
(.seq (.ops [⟨some 52, .move (.tmp 10), none⟩,
⟨some 6, .assign (.tmp 52), none⟩,
⟨some 7, .assign (.const (.int .i64 0)), none⟩])
.ret))
.skip)))))
(.ops [⟨some 53, .binOp .add 3 (.tmp 30) (.const (.int .i64 1)) 3, none⟩,
⟨some 30, .move (.tmp 53), none⟩]))))
def ir10 : LC := (.seq (.ops [⟨some 6, .assign (.const (.int .i64 0)), none⟩,
⟨some 7, .assign (.const (.int .i64 0)), none⟩])
(.seq (.seq (.ops [⟨some 12, .move (.tmp 0), none⟩,
⟨some 13, .move (.tmp 1), none⟩,
⟨some 14, .call ⟨.value (.func 30), #[.tmp 12, .tmp 13], #[26, 3]⟩, none⟩,
⟨some 8, .assign (.tmp 14), none⟩])
(.seq (.ops [⟨some 15, .move (.tmp 8), none⟩,
⟨some 16, .binOp .neq 31 (.tmp 15) (.const (.int .i64 0)) 31, none⟩])
(.cond (.tmp 16)
(.seq (.ops [⟨some 17, .move (.tmp 8), none⟩,
⟨some 6, .assign (.const (.int .i64 0)), none⟩,
⟨some 7, .assign (.tmp 17), none⟩])
.ret)
.skip)))
(.seq (.seq (.ops [⟨some 18, .move (.tmp 2), none⟩,
⟨some 19, .call ⟨.value (.func 31), #[.tmp 18], #[22]⟩, none⟩,
⟨some 9, .assign (.tmp 19), none⟩])
(.seq (.ops [⟨some 20, .move (.tmp 9), none⟩,
⟨some 21, .binOp .neq 31 (.tmp 20) (.const (.int .i64 0)) 31, none⟩])
(.cond (.tmp 21)
(.seq (.ops [⟨some 22, .move (.tmp 9), none⟩,
⟨some 6, .assign (.const (.int .i64 0)), none⟩,
⟨some 7, .assign (.tmp 22), none⟩])
.ret)
.skip)))
(.seq (.seq (.ops [⟨some 23, .move (.tmp 0), none⟩,
⟨some 24, .nilCheck (.tmp 23), none⟩,
⟨some 25, .fieldAddr 68 (.tmp 24) 0, none⟩,
⟨some 26, .load 30 (.tmp 25), none⟩,
⟨some 27, .move (.tmp 1), none⟩,
⟨some 28, .indexAddr 30 (.tmp 26) (.tmp 27), none⟩,
⟨some 29, .load 3 (.tmp 28), none⟩,
⟨some 30, .move (.const (.int .i64 0)), none⟩])
(.block 0 (.loop ir10_l0)))
(.seq (.ops [⟨some 6, .assign (.const (.int .i64 0)), none⟩,
⟨some 7, .assign (.const (.int .i64 5)), none⟩])
.ret)))))
theorem ir10_eq : (Try.f10.body.map low, Try.f10.ntmps, Try.f10.results.toList) = (some ir10, 54, [.tmp 6, .tmp 7]) := by kernel_rfl
def ir11 : LC := (.seq (.ops [⟨some 2, .assign (.const (.int .i64 0)), none⟩])
(.seq (.ops [⟨some 3, .move (.tmp 0), none⟩,
⟨some 2, .assign (.tmp 3), none⟩])
.ret))
theorem ir11_eq : (Try.f11.body.map low, Try.f11.ntmps, Try.f11.results.toList) = (some ir11, 4, [.tmp 2]) := by kernel_rfl
noncomputable def rc12 (i : Nat) : Code × Code := (((Try.f12.body.map rangesOf).getD [])[i]?).getD (.skip, .skip)
noncomputable def ir12_l0 : LC := (.seq (.ops [⟨some 32, .binOp .lss 3 (.tmp 31) (.tmp 30) 3, none⟩])
(.seq (.cond (.tmp 32)
.skip
(.exit 1))
(.seq (.block 2 (.seq (.ops [⟨some 33, .indexAddr 30 (.tmp 29) (.tmp 31), none⟩,
⟨some 34, .load 3 (.tmp 33), none⟩,
⟨some 10, .alloc 3, none⟩,
⟨none, .store 3 (.tmp 10) (.tmp 34), none⟩])
(.seq (.draw [⟨some 35, .move (.tmp 0), none⟩,
⟨some 36, .nilCheck (.tmp 35), none⟩,
⟨some 37, .fieldAddr 68 (.tmp 36) 1, none⟩,
⟨some 38, .load 66 (.tmp 37), none⟩,
⟨some 39, .move (.tmp 6), none⟩,
⟨some 40, .load 3 (.tmp 10), none⟩,
⟨some 41, .build 75 #[(0, .tmp 39), (1, .tmp 40)], none⟩,
⟨some 42, .lookup 66 (.tmp 38) (.tmp 41) false, none⟩,
⟨some 11, .alloc 76, none⟩,
⟨none, .store 76 (.tmp 11) (.tmp 42), none⟩] [(0, 8), (1, 8), (2, 8), (3, 8), (4, 8), (5, 8), (6, 8), (7, 8)])
(.seq (.draw [⟨some 43, .load 76 (.tmp 11), none⟩,
⟨some 44, .nilCheck (.tmp 43), none⟩,
⟨some 45, .fieldAddr 82 (.tmp 44) 0, none⟩,
⟨some 46, .load 22 (.tmp 45), none⟩,
⟨some 47, .load 36 (.tmp 3), none⟩,
⟨some 48, .buildSlice 23 1 #[(0, .tmp 47)], none⟩,
⟨some 49, .call ⟨.value (.func 35), #[.tmp 46, .tmp 48], #[22, 23]⟩, none⟩] [(0, 5), (1, 5), (2, 5), (3, 5)])
(.block 3 (.range (.tmp 49) #[50, 51] (rc12 0).1 (rc12 0).2))))))
(.ops [⟨some 61, .binOp .add 3 (.tmp 31) (.const (.int .i64 1)) 3, none⟩,
⟨some 31, .move (.tmp 61), none⟩]))))
noncomputable def ir12_a0 : LC := .skip
noncomputable def ir12_b0 : LC := (.block 4 (.draw [⟨some 52, .load 37 (.tmp 8), none⟩,
⟨some 53, .load 3 (.tmp 10), none⟩,
⟨some 54, .load 76 (.tmp 11), none⟩,
⟨some 55, .load 36 (.tmp 3), none⟩,
⟨some 56, .call ⟨.value (.func 36), #[.tmp 54, .tmp 55], #[76, 36]⟩, none⟩,
⟨some 57, .unOp .not 4 (.tmp 56), none⟩,
⟨some 58, .build 41 #[(0, .tmp 53), (1, .tmp 57)], none⟩,
⟨some 59, .buildSlice 37 1 #[(0, .tmp 58)], none⟩,
⟨some 60, .call ⟨.builtin .append, #[.tmp 52, .tmp 59], #[37, 37]⟩, none⟩,
⟨none, .store 37 (.tmp 8) (.tmp 60), none⟩] [(0, 4), (1, 4), (0, 7)]))
theorem ir12_a0_eq : low (rc12 0).1 = ir12_a0 := by kernel_rfl
theorem ir12_b0_eq : low (rc12 0).2 = ir12_b0 := by kernel_rfl
noncomputable def ir12 : LC := (.seq (.ops [⟨some 3, .box 36 (.tmp 1), none⟩,
⟨some 4, .assign (.const (.slice none 0 0)), none⟩,
⟨some 5, .assign (.const (.int .i64 0)), none⟩])
(.seq (.block 0 (.seq (.ops [⟨some 13, .move (.tmp 0), none⟩,
⟨some 14, .call ⟨.value (.func 33), #[.tmp 13], #[26]⟩, none⟩,
⟨some 15, .unOp .not 4 (.tmp 14), none⟩,
⟨some 12, .assign (.tmp 15), none⟩])
(.cond (.tmp 12)
(.seq (.ops [⟨some 4, .assign (.const (.slice none 0 0)), none⟩,
⟨some 5, .assign (.const (.int .i64 1)), none⟩])
.ret)
(.seq (.ops [⟨some 17, .load 36 (.tmp 3), none⟩,
⟨some 18, .call ⟨.builtin .len, #[.tmp 17], #[36]⟩, none⟩,
⟨some 19, .binOp .gtr 3 (.tmp 18) (.const (.int .i64 64)) 3, none⟩,
⟨some 16, .assign (.tmp 19), none⟩])
(.cond (.tmp 16)
(.seq (.ops [⟨some 4, .assign (.const (.slice none 0 0)), none⟩,
⟨some 5, .assign (.const (.int .i64 3)), none⟩])
.ret)
.skip)))))
(.seq (.ops [⟨some 21, .load 36 (.tmp 3), none⟩,
⟨some 22, .call ⟨.value (.func 16), #[.tmp 21], #[36]⟩, none⟩,
⟨some 20, .move (.tmp 22), none⟩,
⟨some 23, .extract (.tmp 20) 0, none⟩,
⟨some 24, .extract (.tmp 20) 1, none⟩,
⟨some 6, .assign (.tmp 23), none⟩,
⟨some 7, .assign (.tmp 24), none⟩])
(.seq (.seq (.ops [⟨some 25, .move (.tmp 7), none⟩,
⟨some 26, .unOp .not 4 (.tmp 25), none⟩])
(.cond (.tmp 26)
(.seq (.ops [⟨some 4, .assign (.const (.slice none 0 0)), none⟩,
⟨some 5, .assign (.const (.int .i64 0)), none⟩])
.ret)
.skip))
(.seq (.ops [⟨some 8, .alloc 37, none⟩])
(.seq (.seq (.ops [⟨some 27, .move (.tmp 0), none⟩,
⟨some 28, .move (.tmp 6), none⟩,
⟨some 29, .call ⟨.value (.func 34), #[.tmp 27, .tmp 28], #[26, 3]⟩, none⟩,
⟨some 30, .call ⟨.builtin .len, #[.tmp 29], #[30]⟩, none⟩,
⟨some 31, .move (.const (.int .i64 0)), none⟩])
(.block 1 (.loop ir12_l0)))
(.seq (.ops [⟨some 62, .load 37 (.tmp 8), none⟩,
⟨some 4, .assign (.tmp 62), none⟩,
⟨some 5, .assign (.const (.int .i64 0)), none⟩])
.ret)))))))
theorem ir12_eq : (Try.f12.body.map low, Try.f12.ntmps, Try.f12.results.toList) = (some ir12, 63, [.tmp 4, .tmp 5]) := by kernel_rfl
def ir13 : LC := (.seq (.ops [⟨some 6, .assign (.const (.int .i64 0)), none⟩])
(.seq (.ops [⟨some 10, .move (.tmp 0), none⟩,
⟨some 11, .move (.tmp 1), none⟩,
⟨some 12, .move (.tmp 2), none⟩,
⟨some 13, .call ⟨.value (.func 37), #[.tmp 10, .tmp 11, .tmp 12], #[26, 3, 3]⟩, none⟩,
⟨some 9, .move (.tmp 13), none⟩,
⟨some 14, .extract (.tmp 9) 0, none⟩,
⟨some 15, .extract (.tmp 9) 1, none⟩,
⟨some 7, .assign (.tmp 14), none⟩,
⟨some 8, .assign (.tmp 15), none⟩])
(.seq (.seq (.ops [⟨some 16, .move (.tmp 8), none⟩,
⟨some 17, .binOp .neq 31 (.tmp 16) (.const (.int .i64 0)) 31, none⟩])
(.cond (.tmp 17)
(.seq (.ops [⟨some 6, .assign (.const (.int .i64 0)), none⟩])
.ret)
.skip))
(.seq (.ops [⟨some 18, .move (.tmp 7), none⟩,
⟨some 19, .nilCheck (.tmp 18), none⟩,
⟨some 20, .fieldAddr 82 (.tmp 19) 3, none⟩,
⟨some 21, .load 3 (.tmp 20), none⟩,
⟨some 6, .assign (.tmp 21), none⟩])
.ret))))
theorem ir13_eq : (Try.f13.body.map low, Try.f13.ntmps, Try.f13.results.toList) = (some ir13, 22, [.tmp 6]) := by kernel_rfl
def ir14 : LC := (.seq (.ops [⟨some 6, .assign (.const (.slice none 0 0)), none⟩,
⟨some 7, .assign (.const (.int .i64 0)), none⟩])
(.seq (.ops [⟨some 12, .move (.tmp 0), none⟩,
⟨some 13, .move (.tmp 1), none⟩,
⟨some 14, .move (.tmp 2), none⟩,
⟨some 15, .call ⟨.value (.func 38), #[.tmp 12, .tmp 13, .tmp 14], #[26, 3, 3]⟩, none⟩,
⟨some 11, .move (.tmp 15), none⟩,
⟨some 16, .extract (.tmp 11) 0, none⟩,
⟨some 17, .extract (.tmp 11) 1, none⟩,
⟨some 8, .assign (.tmp 16), none⟩,
⟨some 9, .assign (.tmp 17), none⟩])
(.seq (.seq (.ops [⟨some 18, .move (.tmp 9), none⟩,
⟨some 19, .binOp .neq 31 (.tmp 18) (.const (.int .i64 0)) 31, none⟩])
(.cond (.tmp 19)
(.seq (.ops [⟨some 20, .move (.tmp 9), none⟩,
⟨some 6, .assign (.const (.slice none 0 0)), none⟩,
⟨some 7, .assign (.tmp 20), none⟩])
.ret)
.skip))
(.seq (.ops [⟨some 21, .move (.tmp 0), none⟩,
⟨some 22, .nilCheck (.tmp 21), none⟩,
⟨some 23, .fieldAddr 68 (.tmp 22) 1, none⟩,
⟨some 24, .load 66 (.tmp 23), none⟩,
⟨some 25, .move (.tmp 1), none⟩,
⟨some 26, .move (.tmp 2), none⟩,
⟨some 27, .build 75 #[(0, .tmp 25), (1, .tmp 26)], none⟩,
⟨some 28, .lookup 66 (.tmp 24) (.tmp 27) false, none⟩,
⟨some 10, .assign (.tmp 28), none⟩])
(.seq (.ops [⟨some 29, .move (.tmp 10), none⟩,
⟨some 30, .move (.tmp 10), none⟩,
⟨some 31, .nilCheck (.tmp 30), none⟩,
⟨some 32, .fieldAddr 82 (.tmp 31) 2, none⟩,
⟨some 33, .load 3 (.tmp 32), none⟩,
⟨some 34, .binOp .add 3 (.tmp 33) (.const (.int .i64 1)) 3, none⟩,
⟨some 35, .binOp .rem 3 (.tmp 34) (.const (.int .i64 8)) 3, none⟩,
⟨some 36, .nilCheck (.tmp 29), none⟩,
⟨some 37, .fieldAddr 82 (.tmp 36) 2, none⟩,
⟨none, .store 3 (.tmp 37) (.tmp 35), none⟩])
(.seq (.ops [⟨some 38, .move (.tmp 10), none⟩,
⟨some 39, .nilCheck (.tmp 38), none⟩,
⟨some 40, .fieldAddr 82 (.tmp 39) 3, none⟩,
⟨some 41, .load 3 (.tmp 40), none⟩,
⟨some 42, .binOp .sub 3 (.tmp 41) (.const (.int .i64 1)) 3, none⟩,
⟨some 43, .nilCheck (.tmp 38), none⟩,
⟨some 44, .fieldAddr 82 (.tmp 43) 3, none⟩,
⟨none, .store 3 (.tmp 44) (.tmp 42), none⟩])
(.seq (.ops [⟨some 45, .move (.tmp 8), none⟩,
⟨some 6, .assign (.tmp 45), none⟩,
⟨some 7, .assign (.const (.int .i64 0)), none⟩])
.ret)))))))
theorem ir14_eq : (Try.f14.body.map low, Try.f14.ntmps, Try.f14.results.toList) = (some ir14, 46, [.tmp 6, .tmp 7]) := by kernel_rfl
def ir15_l0 : LC := (.seq (.seq (.ops [⟨some 5, .move (.tmp 4), none⟩,
⟨some 6, .move (.tmp 0), none⟩,
⟨some 7, .call ⟨.builtin .len, #[.tmp 6], #[46]⟩, none⟩,
⟨some 8, .binOp .lss 3 (.tmp 5) (.tmp 7) 3, none⟩,
⟨some 9, .move (.tmp 8), none⟩,
⟨some 10, .move (.tmp 4), some (9, true)⟩,
⟨some 11, .binOp .lss 3 (.tmp 10) (.const (.int .i64 100)) 3, some (9, true)⟩,
⟨some 12, .pick (.tmp 9) (.tmp 11) (.const (.bool false)), none⟩])
(.cond (.tmp 12)
.skip
(.exit 0)))
(.seq (.block 1 (.draw [⟨some 15, .move (.tmp 3), none⟩,
⟨some 16, .move (.tmp 0), none⟩,
⟨some 17, .move (.tmp 4), none⟩,
⟨some 18, .indexAddr 46 (.tmp 16) (.tmp 17), none⟩,
⟨some 19, .fieldAddr 49 (.tmp 18) 3, none⟩,
⟨some 20, .load 22 (.tmp 19), none⟩,
⟨some 21, .call ⟨.builtin .len, #[.tmp 20], #[22]⟩, none⟩,
⟨some 22, .call ⟨.builtin .min, #[.tmp 21, .const (.int .i64 9000)], #[3, 3]⟩, none⟩,
⟨some 23, .binOp .add 3 (.tmp 15) (.tmp 22) 3, none⟩,
⟨some 24, .move (.tmp 0), none⟩,
⟨some 25, .move (.tmp 4), none⟩,
⟨some 26, .indexAddr 46 (.tmp 24) (.tmp 25), none⟩,
⟨some 27, .fieldAddr 49 (.tmp 26) 4, none⟩,
⟨some 28, .load 36 (.tmp 27), none⟩,
⟨some 29, .call ⟨.builtin .len, #[.tmp 28], #[36]⟩, none⟩,
⟨some 30, .call ⟨.builtin .min, #[.tmp 29, .const (.int .i64 9000)], #[3, 3]⟩, none⟩,
⟨some 31, .binOp .add 3 (.tmp 23) (.tmp 30) 3, none⟩,
⟨some 3, .assign (.tmp 31), none⟩] []))
(.ops [⟨some 13, .move (.tmp 4), none⟩,
⟨some 14, .binOp .add 3 (.tmp 13) (.const (.int .i64 1)) 3, none⟩,
⟨some 4, .assign (.tmp 14), none⟩])))
def ir15 : LC := (.seq (.ops [⟨some 2, .assign (.const (.bool false)), none⟩])
(.seq (.ops [⟨some 3, .assign (.const (.int .i64 0)), none⟩])
(.seq (.seq (.ops [⟨some 4, .assign (.const (.int .i64 0)), none⟩])
(.block 0 (.loop ir15_l0)))
(.seq (.ops [⟨some 32, .move (.tmp 3), none⟩,
⟨some 33, .binOp .gtr 3 (.tmp 32) (.const (.int .i64 30000)) 3, none⟩,
⟨some 2, .assign (.tmp 33), none⟩])
.ret))))
theorem ir15_eq : (Try.f15.body.map low, Try.f15.ntmps, Try.f15.results.toList) = (some ir15, 34, [.tmp 2]) := by kernel_rfl
def ir16 : LC := (.seq (.ops [⟨some 2, .assign (.const (.int .i64 0)), none⟩,
⟨some 3, .assign (.const (.bool false)), none⟩])
(.seq (.seq (.ops [⟨some 4, .move (.tmp 0), none⟩,
⟨some 5, .call ⟨.builtin .len, #[.tmp 4], #[36]⟩, none⟩,
⟨some 6, .binOp .eql 3 (.tmp 5) (.const (.int .i64 0)) 3, none⟩,
⟨some 7, .move (.tmp 6), none⟩,
⟨some 8, .move (.tmp 0), some (7, false)⟩,
⟨some 9, .indexAddr 36 (.tmp 8) (.const (.int .i64 0)), some (7, false)⟩,
⟨some 10, .load 5 (.tmp 9), some (7, false)⟩,
⟨some 11, .binOp .geq 5 (.tmp 10) (.const (.int .u8 8)) 5, some (7, false)⟩,
⟨some 12, .pick (.tmp 7) (.const (.bool true)) (.tmp 11), none⟩])
(.cond (.tmp 12)
(.seq (.ops [⟨some 2, .assign (.const (.int .i64 0)), none⟩,
⟨some 3, .assign (.const (.bool false)), none⟩])
.ret)
.skip))
(.seq (.ops [⟨some 13, .move (.tmp 0), none⟩,
⟨some 14, .indexAddr 36 (.tmp 13) (.const (.int .i64 0)), none⟩,
⟨some 15, .load 5 (.tmp 14), none⟩,
⟨some 16, .convert 5 3 (.tmp 15), none⟩,
⟨some 2, .assign (.tmp 16), none⟩,
⟨some 3, .assign (.const (.bool true)), none⟩])
.ret)))
theorem ir16_eq : (Try.f16.body.map low, Try.f16.ntmps, Try.f16.results.toList) = (some ir16, 17, [.tmp 2, .tmp 3]) := by kernel_rfl
def ir17 : LC := (.seq (.ops [⟨some 6, .assign (.const (.int .i64 0)), none⟩,
⟨some 7, .assign (.const (.int .i64 0)), none⟩])
(.seq (.ops [⟨some 11, .move (.tmp 0), none⟩,
⟨some 12, .move (.tmp 1), none⟩,
⟨some 13, .move (.tmp 2), none⟩,
⟨some 14, .call ⟨.value (.func 37), #[.tmp 11, .tmp 12, .tmp 13], #[26, 3, 3]⟩, none⟩,
⟨some 10, .move (.tmp 14), none⟩,
⟨some 15, .extract (.tmp 10) 0, none⟩,
⟨some 16, .extract (.tmp 10) 1, none⟩,
⟨some 8, .assign (.tmp 15), none⟩,
⟨some 9, .assign (.tmp 16), none⟩])
(.seq (.seq (.ops [⟨some 17, .move (.tmp 9), none⟩,
⟨some 18, .binOp .neq 31 (.tmp 17) (.const (.int .i64 0)) 31, none⟩])
(.cond (.tmp 18)
(.seq (.ops [⟨some 19, .move (.tmp 9), none⟩,
⟨some 6, .assign (.const (.int .i64 0)), none⟩,
⟨some 7, .assign (.tmp 19), none⟩])
.ret)
.skip))
(.seq (.ops [⟨some 20, .move (.tmp 0), none⟩,
⟨some 21, .nilCheck (.tmp 20), none⟩,
⟨some 22, .fieldAddr 68 (.tmp 21) 1, none⟩,
⟨some 23, .load 66 (.tmp 22), none⟩,
⟨some 24, .move (.tmp 1), none⟩,
⟨some 25, .move (.tmp 2), none⟩,
⟨some 26, .build 75 #[(0, .tmp 24), (1, .tmp 25)], none⟩,
⟨none, .call ⟨.builtin .delete, #[.tmp 23, .tmp 26], #[66, 75]⟩, none⟩])
(.seq (.ops [⟨some 27, .move (.tmp 8), none⟩,
⟨some 28, .nilCheck (.tmp 27), none⟩,
⟨some 29, .fieldAddr 82 (.tmp 28) 3, none⟩,
⟨some 30, .load 3 (.tmp 29), none⟩,
⟨some 6, .assign (.tmp 30), none⟩,
⟨some 7, .assign (.const (.int .i64 0)), none⟩])
.ret)))))
theorem ir17_eq : (Try.f17.body.map low, Try.f17.ntmps, Try.f17.results.toList) = (some ir17, 31, [.tmp 6, .tmp 7]) := by kernel_rfl
def ir19_l0 : LC := (.seq (.seq (.ops [⟨some 84, .move (.tmp 15), none⟩,
⟨some 85, .move (.tmp 9), none⟩,
⟨some 86, .call ⟨.builtin .len, #[.tmp 85], #[22]⟩, none⟩,
⟨some 87, .binOp .lss 3 (.tmp 84) (.tmp 86) 3, none⟩])
(.cond (.tmp 87)
.skip
(.exit 1)))
(.seq (.block 2 (.ops [⟨some 90, .move (.tmp 9), none⟩,
⟨some 91, .move (.tmp 15), none⟩,
⟨some 92, .build 79 #[], none⟩,
⟨some 93, .indexAddr 22 (.tmp 90) (.tmp 91), none⟩,
⟨none, .store 79 (.tmp 93) (.tmp 92), none⟩]))
(.ops [⟨some 88, .move (.tmp 15), none⟩,
⟨some 89, .binOp .add 3 (.tmp 88) (.const (.int .i64 1)) 3, none⟩,
⟨some 15, .assign (.tmp 89), none⟩])))
def ir19_l1 : LC := (.seq (.seq (.ops [⟨some 170, .move (.tmp 26), none⟩,
⟨some 171, .move (.tmp 20), none⟩,
⟨some 172, .call ⟨.builtin .len, #[.tmp 171], #[36]⟩, none⟩,
⟨some 173, .binOp .lss 3 (.tmp 170) (.tmp 172) 3, none⟩])
(.cond (.tmp 173)
.skip
(.exit 3)))
(.seq (.block 4 (.ops [⟨some 176, .move (.tmp 20), none⟩,
⟨some 177, .move (.tmp 26), none⟩,
⟨some 178, .indexAddr 36 (.tmp 176) (.tmp 177), none⟩,
⟨none, .store 5 (.tmp 178) (.const (.int .u8 102)), none⟩]))
(.ops [⟨some 174, .move (.tmp 26), none⟩,
⟨some 175, .binOp .add 3 (.tmp 174) (.const (.int .i64 1)) 3, none⟩,
⟨some 26, .assign (.tmp 175), none⟩])))
def ir19_l2 : LC := (.seq (.seq (.ops [⟨some 240, .move (.tmp 32), none⟩,
⟨some 241, .move (.tmp 27), none⟩,
⟨some 242, .call ⟨.builtin .len, #[.tmp 241], #[36]⟩, none⟩,
⟨some 243, .binOp .lss 3 (.tmp 240) (.tmp 242) 3, none⟩])
(.cond (.tmp 243)
.skip
(.exit 5)))
(.seq (.block 6 (.ops [⟨some 246, .move (.tmp 27), none⟩,
⟨some 247, .move (.tmp 32), none⟩,
⟨some 248, .indexAddr 36 (.tmp 246) (.tmp 247), none⟩,
⟨none, .store 5 (.tmp 248) (.const (.int .u8 102)), none⟩]))
(.ops [⟨some 244, .move (.tmp 32), none⟩,
⟨some 245, .binOp .add 3 (.tmp 244) (.const (.int .i64 1)) 3, none⟩,
⟨some 32, .assign (.tmp 245), none⟩])))
def ir19 : LC := (.seq (.ops [⟨some 5, .box 49 (.tmp 2), none⟩,
⟨some 6, .assign (.const (.pointer none)), none⟩,
⟨some 7, .assign (.const (.pointer none)), none⟩,
⟨some 8, .assign (.const (.bool false)), none⟩])
(.seq (.seq (.ops [⟨some 35, .fieldAddr 49 (.tmp 5) 0, none⟩,
⟨some 36, .load 3 (.tmp 35), none⟩])
(.block 0 (.seq (.ops [⟨some 38, .binOp .eql 3 (.tmp 36) (.const (.int .i64 1)) 3, none⟩,
⟨some 37, .assign (.tmp 38), none⟩])
(.cond (.tmp 37)
(.seq (.ops [⟨some 39, .fieldAddr 49 (.tmp 5) 3, none⟩,
⟨some 40, .load 22 (.tmp 39), none⟩,
⟨some 41, .call ⟨.value (.func 40), #[.tmp 40], #[22]⟩, none⟩,
⟨some 42, .build 79 #[(0, .const (.int .i64 77))], none⟩,
⟨some 43, .buildSlice 22 1 #[(0, .tmp 42)], none⟩,
⟨some 44, .call ⟨.builtin .append, #[.tmp 41, .tmp 43], #[22, 22]⟩, none⟩,
⟨some 9, .assign (.tmp 44), none⟩])
(.seq (.draw [⟨some 46, .move (.tmp 0), none⟩,
⟨some 47, .fieldAddr 49 (.tmp 5) 1, none⟩,
⟨some 48, .load 3 (.tmp 47), none⟩,
⟨some 49, .move (.tmp 9), none⟩,
⟨some 50, .fieldAddr 49 (.tmp 5) 3, none⟩,
⟨some 51, .load 22 (.tmp 50), none⟩,
⟨some 52, .call ⟨.builtin .len, #[.tmp 51], #[22]⟩, none⟩,
⟨some 53, .slice 22 (.tmp 49) none (some (.tmp 52)) none, none⟩,
⟨some 54, .call ⟨.value (.func 10), #[.tmp 46, .tmp 48, .tmp 53], #[26, 3, 22]⟩, none⟩,
⟨some 45, .move (.tmp 54), none⟩,
⟨some 55, .extract (.tmp 45) 0, none⟩,
⟨some 56, .extract (.tmp 45) 1, none⟩,
⟨some 10, .assign (.tmp 55), none⟩,
⟨some 11, .assign (.tmp 56), none⟩] [])
(.seq (.ops [⟨some 58, .move (.tmp 1), none⟩,
⟨some 59, .fieldAddr 49 (.tmp 5) 1, none⟩,
⟨some 60, .load 3 (.tmp 59), none⟩,
⟨some 61, .fieldAddr 49 (.tmp 5) 3, none⟩,
⟨some 62, .load 22 (.tmp 61), none⟩,
⟨some 63, .call ⟨.value (.func 41), #[.tmp 58, .tmp 60, .tmp 62], #[27, 3, 22]⟩, none⟩,
⟨some 57, .move (.tmp 63), none⟩,
⟨some 64, .extract (.tmp 57) 0, none⟩,
⟨some 65, .extract (.tmp 57) 1, none⟩,
⟨some 12, .assign (.tmp 64), none⟩,
⟨some 13, .assign (.tmp 65), none⟩])
(.seq (.draw [⟨some 66, .move (.tmp 9), none⟩,
⟨some 67, .fieldAddr 49 (.tmp 5) 3, none⟩,
⟨some 68, .load 22 (.tmp 67), none⟩,
⟨some 69, .call ⟨.builtin .len, #[.tmp 68], #[22]⟩, none⟩,
⟨some 70, .slice 22 (.tmp 66) none (some (.tmp 69)) none, none⟩,
⟨some 71, .fieldAddr 49 (.tmp 5) 3, none⟩,
⟨some 72, .load 22 (.tmp 71), none⟩,
⟨some 73, .call ⟨.value (.func 42), #[.tmp 70, .tmp 72], #[22, 22]⟩, none⟩,
⟨some 74, .move (.tmp 73), none⟩,
⟨some 75, .move (.tmp 9), some (74, true)⟩,
⟨some 76, .fieldAddr 49 (.tmp 5) 3, some (74, true)⟩,
⟨some 77, .load 22 (.tmp 76), some (74, true)⟩,
⟨some 78, .call ⟨.builtin .len, #[.tmp 77], #[22]⟩, some (74, true)⟩,
⟨some 79, .indexAddr 22 (.tmp 75) (.tmp 78), some (74, true)⟩,
⟨some 80, .fieldAddr 79 (.tmp 79) 0, some (74, true)⟩,
⟨some 81, .load 3 (.tmp 80), some (74, true)⟩,
⟨some 82, .binOp .eql 3 (.tmp 81) (.const (.int .i64 77)) 3, some (74, true)⟩,
⟨some 83, .pick (.tmp 74) (.tmp 82) (.const (.bool false)), none⟩,
⟨some 14, .assign (.tmp 83), none⟩] [])
(.seq (.seq (.ops [⟨some 15, .assign (.const (.int .i64 0)), none⟩])
(.block 1 (.loop ir19_l0)))
(.seq (.ops [⟨some 94, .move (.tmp 0), none⟩,
⟨some 95, .move (.tmp 1), none⟩,
⟨some 96, .move (.tmp 14), none⟩,
⟨some 97, .move (.tmp 96), none⟩,
⟨some 98, .move (.tmp 10), some (97, true)⟩,
⟨some 99, .move (.tmp 12), some (97, true)⟩,
⟨some 100, .binOp .eql 3 (.tmp 98) (.tmp 99) 3, some (97, true)⟩,
⟨some 101, .pick (.tmp 97) (.tmp 100) (.const (.bool false)), none⟩,
⟨some 102, .move (.tmp 101), none⟩,
⟨some 103, .move (.tmp 11), some (102, true)⟩,
⟨some 104, .call ⟨.value (.func 11), #[.tmp 103], #[31]⟩, some (102, true)⟩,
⟨some 105, .move (.tmp 13), some (102, true)⟩,
⟨some 106, .binOp .eql 3 (.tmp 104) (.tmp 105) 3, some (102, true)⟩,
⟨some 107, .pick (.tmp 102) (.tmp 106) (.const (.bool false)), none⟩,
⟨some 6, .assign (.tmp 94), none⟩,
⟨some 7, .assign (.tmp 95), none⟩,
⟨some 8, .assign (.tmp 107), none⟩])
.ret))))))
(.seq (.ops [⟨some 109, .binOp .eql 3 (.tmp 36) (.const (.int .i64 2)) 3, none⟩,
⟨some 108, .assign (.tmp 109), none⟩])
(.cond (.tmp 108)
(.seq (.ops [⟨some 111, .move (.tmp 0), none⟩,
⟨some 112, .fieldAddr 49 (.tmp 5) 1, none⟩,
⟨some 113, .load 3 (.tmp 112), none⟩,
⟨some 114, .fieldAddr 49 (.tmp 5) 2, none⟩,
⟨some 115, .load 3 (.tmp 114), none⟩,
⟨some 116, .call ⟨.value (.func 17), #[.tmp 111, .tmp 113, .tmp 115], #[26, 3, 3]⟩, none⟩,
⟨some 110, .move (.tmp 116), none⟩,
⟨some 117, .extract (.tmp 110) 0, none⟩,
⟨some 118, .extract (.tmp 110) 1, none⟩,
⟨some 16, .assign (.tmp 117), none⟩,
⟨some 17, .assign (.tmp 118), none⟩])
(.seq (.ops [⟨some 120, .move (.tmp 1), none⟩,
⟨some 121, .fieldAddr 49 (.tmp 5) 1, none⟩,
⟨some 122, .load 3 (.tmp 121), none⟩,
⟨some 123, .fieldAddr 49 (.tmp 5) 2, none⟩,
⟨some 124, .load 3 (.tmp 123), none⟩,
⟨some 125, .call ⟨.value (.func 43), #[.tmp 120, .tmp 122, .tmp 124], #[27, 3, 3]⟩, none⟩,
⟨some 119, .move (.tmp 125), none⟩,
⟨some 126, .extract (.tmp 119) 0, none⟩,
⟨some 127, .extract (.tmp 119) 1, none⟩,
⟨some 18, .assign (.tmp 126), none⟩,
⟨some 19, .assign (.tmp 127), none⟩])
(.seq (.ops [⟨some 128, .move (.tmp 0), none⟩,
⟨some 129, .move (.tmp 1), none⟩,
⟨some 130, .move (.tmp 16), none⟩,
⟨some 131, .move (.tmp 18), none⟩,
⟨some 132, .binOp .eql 3 (.tmp 130) (.tmp 131) 3, none⟩,
⟨some 133, .move (.tmp 132), none⟩,
⟨some 134, .move (.tmp 17), some (133, true)⟩,
⟨some 135, .call ⟨.value (.func 11), #[.tmp 134], #[31]⟩, some (133, true)⟩,
⟨some 136, .move (.tmp 19), some (133, true)⟩,
⟨some 137, .binOp .eql 3 (.tmp 135) (.tmp 136) 3, some (133, true)⟩,
⟨some 138, .pick (.tmp 133) (.tmp 137) (.const (.bool false)), none⟩,
⟨some 6, .assign (.tmp 128), none⟩,
⟨some 7, .assign (.tmp 129), none⟩,
⟨some 8, .assign (.tmp 138), none⟩])
.ret)))
(.seq (.ops [⟨some 140, .binOp .eql 3 (.tmp 36) (.const (.int .i64 3)) 3, none⟩,
⟨some 139, .assign (.tmp 140), none⟩])
(.cond (.tmp 139)
(.seq (.ops [⟨some 141, .fieldAddr 49 (.tmp 5) 4, none⟩,
⟨some 142, .load 36 (.tmp 141), none⟩,
⟨some 143, .call ⟨.builtin .append, #[.const (.slice none 0 0), .tmp 142], #[36, 36]⟩, none⟩,
⟨some 144, .buildSlice 36 1 #[(0, .const (.int .u8 119))], none⟩,
⟨some 145, .call ⟨.builtin .append, #[.tmp 143, .tmp 144], #[36, 36]⟩, none⟩,
⟨some 20, .assign (.tmp 145), none⟩])
(.seq (.ops [⟨some 147, .move (.tmp 0), none⟩,
⟨some 148, .move (.tmp 20), none⟩,
⟨some 149, .fieldAddr 49 (.tmp 5) 4, none⟩,
⟨some 150, .load 36 (.tmp 149), none⟩,
⟨some 151, .call ⟨.builtin .len, #[.tmp 150], #[36]⟩, none⟩,
⟨some 152, .slice 36 (.tmp 148) none (some (.tmp 151)) none, none⟩,
⟨some 153, .call ⟨.value (.func 12), #[.tmp 147, .tmp 152], #[26, 36]⟩, none⟩,
⟨some 146, .move (.tmp 153), none⟩,
⟨some 154, .extract (.tmp 146) 0, none⟩,
⟨some 155, .extract (.tmp 146) 1, none⟩,
⟨some 21, .assign (.tmp 154), none⟩,
⟨some 22, .assign (.tmp 155), none⟩])
(.seq (.ops [⟨some 157, .move (.tmp 1), none⟩,
⟨some 158, .fieldAddr 49 (.tmp 5) 4, none⟩,
⟨some 159, .load 36 (.tmp 158), none⟩,
⟨some 160, .call ⟨.value (.func 44), #[.tmp 157, .tmp 159], #[27, 36]⟩, none⟩,
⟨some 156, .move (.tmp 160), none⟩,
⟨some 161, .extract (.tmp 156) 0, none⟩,
⟨some 162, .extract (.tmp 156) 1, none⟩,
⟨some 23, .assign (.tmp 161), none⟩,
⟨some 24, .assign (.tmp 162), none⟩])
(.seq (.ops [⟨some 163, .move (.tmp 20), none⟩,
⟨some 164, .convert 36 9 (.tmp 163), none⟩,
⟨some 165, .fieldAddr 49 (.tmp 5) 4, none⟩,
⟨some 166, .load 36 (.tmp 165), none⟩,
⟨some 167, .convert 36 9 (.tmp 166), none⟩,
⟨some 168, .binOp .add 9 (.tmp 167) (.const (.string { data := #[119] })) 9, none⟩,
⟨some 169, .binOp .eql 9 (.tmp 164) (.tmp 168) 9, none⟩,
⟨some 25, .assign (.tmp 169), none⟩])
(.seq (.seq (.ops [⟨some 26, .assign (.const (.int .i64 0)), none⟩])
(.block 3 (.loop ir19_l1)))
(.seq (.ops [⟨some 179, .move (.tmp 0), none⟩,
⟨some 180, .move (.tmp 1), none⟩,
⟨some 181, .move (.tmp 25), none⟩,
⟨some 182, .move (.tmp 181), none⟩,
⟨some 183, .move (.tmp 21), some (182, true)⟩,
⟨some 184, .move (.tmp 23), some (182, true)⟩,
⟨some 185, .call ⟨.value (.func 28), #[.tmp 183, .tmp 184], #[37, 37]⟩, some (182, true)⟩,
⟨some 186, .pick (.tmp 182) (.tmp 185) (.const (.bool false)), none⟩,
⟨some 187, .move (.tmp 186), none⟩,
⟨some 188, .move (.tmp 22), some (187, true)⟩,
⟨some 189, .call ⟨.value (.func 11), #[.tmp 188], #[31]⟩, some (187, true)⟩,
⟨some 190, .move (.tmp 24), some (187, true)⟩,
⟨some 191, .binOp .eql 3 (.tmp 189) (.tmp 190) 3, some (187, true)⟩,
⟨some 192, .pick (.tmp 187) (.tmp 191) (.const (.bool false)), none⟩,
⟨some 6, .assign (.tmp 179), none⟩,
⟨some 7, .assign (.tmp 180), none⟩,
⟨some 8, .assign (.tmp 192), none⟩])
.ret))))))
(.seq (.seq (.ops [⟨some 194, .binOp .eql 3 (.tmp 36) (.const (.int .i64 4)) 3, none⟩,
⟨some 193, .assign (.tmp 194), none⟩])
(.cond (.tmp 193)
.skip
(.ops [⟨some 195, .binOp .eql 3 (.tmp 36) (.const (.int .i64 5)) 3, none⟩,
⟨some 193, .assign (.tmp 195), none⟩])))
(.cond (.tmp 193)
(.seq (.ops [⟨some 197, .move (.tmp 0), none⟩,
⟨some 198, .fieldAddr 49 (.tmp 5) 1, none⟩,
⟨some 199, .load 3 (.tmp 198), none⟩,
⟨some 200, .fieldAddr 49 (.tmp 5) 2, none⟩,
⟨some 201, .load 3 (.tmp 200), none⟩,
⟨some 202, .call ⟨.value (.func 38), #[.tmp 197, .tmp 199, .tmp 201], #[26, 3, 3]⟩, none⟩,
⟨some 196, .move (.tmp 202), none⟩,
⟨some 203, .extract (.tmp 196) 0, none⟩,
⟨some 204, .extract (.tmp 196) 1, none⟩,
⟨some 27, .assign (.tmp 203), none⟩,
⟨some 28, .assign (.tmp 204), none⟩])
(.seq (.seq (.ops [⟨some 205, .fieldAddr 49 (.tmp 5) 0, none⟩,
⟨some 206, .load 3 (.tmp 205), none⟩,
⟨some 207, .binOp .eql 3 (.tmp 206) (.const (.int .i64 4)) 3, none⟩])
(.cond (.tmp 207)
(.ops [⟨some 209, .move (.tmp 0), none⟩,
⟨some 210, .fieldAddr 49 (.tmp 5) 1, none⟩,
⟨some 211, .load 3 (.tmp 210), none⟩,
⟨some 212, .fieldAddr 49 (.tmp 5) 2, none⟩,
⟨some 213, .load 3 (.tmp 212), none⟩,
⟨some 214, .call ⟨.value (.func 14), #[.tmp 209, .tmp 211, .tmp 213], #[26, 3, 3]⟩, none⟩,
⟨some 208, .move (.tmp 214), none⟩,
⟨some 215, .extract (.tmp 208) 0, none⟩,
⟨some 216, .extract (.tmp 208) 1, none⟩,
⟨some 27, .assign (.tmp 215), none⟩,
⟨some 28, .assign (.tmp 216), none⟩])
.skip))
(.seq (.ops [⟨some 218, .move (.tmp 1), none⟩,
⟨some 219, .fieldAddr 49 (.tmp 5) 1, none⟩,
⟨some 220, .load 3 (.tmp 219), none⟩,
⟨some 221, .fieldAddr 49 (.tmp 5) 2, none⟩,
⟨some 222, .load 3 (.tmp 221), none⟩,
⟨some 223, .fieldAddr 49 (.tmp 5) 0, none⟩,
⟨some 224, .load 3 (.tmp 223), none⟩,
⟨some 225, .binOp .eql 3 (.tmp 224) (.const (.int .i64 5)) 3, none⟩,
⟨some 226, .call ⟨.value (.func 45), #[.tmp 218, .tmp 220, .tmp 222, .tmp 225], #[27, 3, 3, 4]⟩, none⟩,
⟨some 217, .move (.tmp 226), none⟩,
⟨some 227, .extract (.tmp 217) 0, none⟩,
⟨some 228, .extract (.tmp 217) 1, none⟩,
⟨some 29, .assign (.tmp 227), none⟩,
⟨some 30, .assign (.tmp 228), none⟩])
(.seq (.ops [⟨some 229, .move (.tmp 27), none⟩,
⟨some 230, .convert 36 9 (.tmp 229), none⟩,
⟨some 231, .move (.tmp 29), none⟩,
⟨some 232, .convert 36 9 (.tmp 231), none⟩,
⟨some 233, .binOp .eql 9 (.tmp 230) (.tmp 232) 9, none⟩,
⟨some 234, .move (.tmp 233), none⟩,
⟨some 235, .move (.tmp 28), some (234, true)⟩,
⟨some 236, .call ⟨.value (.func 11), #[.tmp 235], #[31]⟩, some (234, true)⟩,
⟨some 237, .move (.tmp 30), some (234, true)⟩,
⟨some 238, .binOp .eql 3 (.tmp 236) (.tmp 237) 3, some (234, true)⟩,
⟨some 239, .pick (.tmp 234) (.tmp 238) (.const (.bool false)), none⟩,
⟨some 31, .assign (.tmp 239), none⟩])
(.seq (.seq (.ops [⟨some 32, .assign (.const (.int .i64 0)), none⟩])
(.block 5 (.loop ir19_l2)))
(.seq (.ops [⟨some 249, .move (.tmp 0), none⟩,
⟨some 250, .move (.tmp 1), none⟩,
⟨some 251, .move (.tmp 31), none⟩,
⟨some 6, .assign (.tmp 249), none⟩,
⟨some 7, .assign (.tmp 250), none⟩,
⟨some 8, .assign (.tmp 251), none⟩])
.ret))))))
(.seq (.ops [⟨some 253, .binOp .eql 3 (.tmp 36) (.const (.int .i64 6)) 3, none⟩,
⟨some 252, .assign (.tmp 253), none⟩])
(.cond (.tmp 252)
(.seq (.ops [⟨some 254, .move (.tmp 0), none⟩,
⟨some 255, .call ⟨.value (.func 25), #[.tmp 254], #[26]⟩, none⟩,
⟨some 33, .assign (.tmp 255), none⟩])
(.seq (.ops [⟨some 256, .move (.tmp 33), none⟩,
⟨some 257, .binOp .neq 26 (.tmp 256) (.const (.pointer none)) 26, none⟩,
⟨some 258, .move (.tmp 257), none⟩,
⟨some 259, .move (.tmp 33), some (258, true)⟩,
⟨some 260, .move (.tmp 0), some (258, true)⟩,
⟨some 261, .call ⟨.value (.func 21), #[.tmp 259, .tmp 260], #[26, 26]⟩, some (258, true)⟩,
⟨some 262, .pick (.tmp 258) (.tmp 261) (.const (.bool false)), none⟩,
⟨some 34, .assign (.tmp 262), none⟩])
(.seq (.ops [⟨some 263, .move (.tmp 0), none⟩,
⟨some 264, .buildSlice 36 1 #[(0, .const (.int .u8 0))], none⟩,
⟨some 265, .call ⟨.value (.func 12), #[.tmp 263, .tmp 264], #[26, 36]⟩, none⟩])
(.seq (.ops [⟨some 266, .move (.tmp 0), none⟩,
⟨some 267, .call ⟨.value (.func 10), #[.tmp 266, .const (.int .i64 0), .const (.slice none 0 0)], #[26, 3, 22]⟩, none⟩])
(.seq (.ops [⟨some 268, .move (.tmp 0), none⟩,
⟨some 269, .call ⟨.value (.func 14), #[.tmp 268, .const (.int .i64 0), .const (.int .i64 0)], #[26, 3, 3]⟩, none⟩])
(.seq (.ops [⟨some 270, .move (.tmp 33), none⟩,
⟨some 271, .move (.tmp 1), none⟩,
⟨some 272, .move (.tmp 34), none⟩,
⟨some 6, .assign (.tmp 270), none⟩,
⟨some 7, .assign (.tmp 271), none⟩,
⟨some 8, .assign (.tmp 272), none⟩])
.ret))))))
.skip))))))))))))
(.seq (.ops [⟨some 273, .move (.tmp 0), none⟩,
⟨some 274, .move (.tmp 1), none⟩,
⟨some 6, .assign (.tmp 273), none⟩,
⟨some 7, .assign (.tmp 274), none⟩,
⟨some 8, .assign (.const (.bool true)), none⟩])
.ret)))
theorem ir19_eq : (Try.f19.body.map low, Try.f19.ntmps, Try.f19.results.toList) = (some ir19, 275, [.tmp 6, .tmp 7, .tmp 8]) := by kernel_rfl
def ir20 : LC := (.seq (.ops [⟨some 2, .assign (.const (.int .i64 0)), none⟩,
⟨some 3, .assign (.const (.bool false)), none⟩])
(.seq (.seq (.ops [⟨some 4, .move (.tmp 0), none⟩,
⟨some 5, .call ⟨.builtin .len, #[.tmp 4], #[36]⟩, none⟩,
⟨some 6, .binOp .eql 3 (.tmp 5) (.const (.int .i64 0)) 3, none⟩,
⟨some 7, .move (.tmp 6), none⟩,
⟨some 8, .move (.tmp 0), some (7, false)⟩,
⟨some 9, .indexAddr 36 (.tmp 8) (.const (.int .i64 0)), some (7, false)⟩,
⟨some 10, .load 5 (.tmp 9), some (7, false)⟩,
⟨some 11, .binOp .geq 5 (.tmp 10) (.const (.int .u8 8)) 5, some (7, false)⟩,
⟨some 12, .pick (.tmp 7) (.const (.bool true)) (.tmp 11), none⟩])
(.cond (.tmp 12)
(.seq (.ops [⟨some 2, .assign (.const (.int .i64 0)), none⟩,
⟨some 3, .assign (.const (.bool false)), none⟩])
.ret)
.skip))
(.seq (.ops [⟨some 13, .move (.tmp 0), none⟩,
⟨some 14, .indexAddr 36 (.tmp 13) (.const (.int .i64 0)), none⟩,
⟨some 15, .load 5 (.tmp 14), none⟩,
⟨some 16, .convert 5 3 (.tmp 15), none⟩,
⟨some 2, .assign (.tmp 16), none⟩,
⟨some 3, .assign (.const (.bool true)), none⟩])
.ret)))
theorem ir20_eq : (Try.f20.body.map low, Try.f20.ntmps, Try.f20.results.toList) = (some ir20, 17, [.tmp 2, .tmp 3]) := by kernel_rfl
def ir21 : LC := (.seq (.ops [⟨some 4, .assign (.const (.bool false)), none⟩])
(.seq (.seq (.ops [⟨some 5, .move (.tmp 0), none⟩,
⟨some 6, .call ⟨.value (.func 33), #[.tmp 5], #[26]⟩, none⟩,
⟨some 7, .unOp .not 4 (.tmp 6), none⟩,
⟨some 8, .move (.tmp 7), none⟩,
⟨some 9, .move (.tmp 1), some (8, false)⟩,
⟨some 10, .call ⟨.value (.func 33), #[.tmp 9], #[26]⟩, some (8, false)⟩,
⟨some 11, .unOp .not 4 (.tmp 10), some (8, false)⟩,
⟨some 12, .pick (.tmp 8) (.const (.bool true)) (.tmp 11), none⟩])
(.cond (.tmp 12)
(.seq (.ops [⟨some 13, .move (.tmp 0), none⟩,
⟨some 14, .call ⟨.value (.func 33), #[.tmp 13], #[26]⟩, none⟩,
⟨some 15, .move (.tmp 1), none⟩,
⟨some 16, .call ⟨.value (.func 33), #[.tmp 15], #[26]⟩, none⟩,
⟨some 17, .binOp .eql 4 (.tmp 14) (.tmp 16) 4, none⟩,
⟨some 4, .assign (.tmp 17), none⟩])
.ret)
.skip))
(.seq (.draw [⟨some 18, .move (.tmp 0), none⟩,
⟨some 19, .nilCheck (.tmp 18), none⟩,
⟨some 20, .fieldAddr 68 (.tmp 19) 0, none⟩,
⟨some 21, .load 30 (.tmp 20), none⟩,
⟨some 22, .move (.tmp 1), none⟩,
⟨some 23, .nilCheck (.tmp 22), none⟩,
⟨some 24, .fieldAddr 68 (.tmp 23) 0, none⟩,
⟨some 25, .load 30 (.tmp 24), none⟩,
⟨some 26, .call ⟨.value (.func 46), #[.tmp 21, .tmp 25], #[30, 30]⟩, none⟩,
⟨some 27, .move (.tmp 26), none⟩,
⟨some 28, .move (.tmp 0), some (27, true)⟩,
⟨some 29, .nilCheck (.tmp 28), some (27, true)⟩,
⟨some 30, .fieldAddr 68 (.tmp 29) 1, some (27, true)⟩,
⟨some 31, .load 66 (.tmp 30), some (27, true)⟩,
⟨some 32, .move (.tmp 1), some (27, true)⟩,
⟨some 33, .nilCheck (.tmp 32), some (27, true)⟩,
⟨some 34, .fieldAddr 68 (.tmp 33) 1, some (27, true)⟩,
⟨some 35, .load 66 (.tmp 34), some (27, true)⟩,
⟨some 36, .call ⟨.value (.func 47), #[.tmp 31, .tmp 35, .func 48], #[66, 66, 103]⟩, some (27, true)⟩,
⟨some 37, .pick (.tmp 27) (.tmp 36) (.const (.bool false)), none⟩,
⟨some 4, .assign (.tmp 37), none⟩] [])
.ret)))
theorem ir21_eq : (Try.f21.body.map low, Try.f21.ntmps, Try.f21.results.toList) = (some ir21, 38, [.tmp 4]) := by kernel_rfl
def ir23_l0 : LC := (.seq (.seq (.ops [⟨some 92, .move (.tmp 13), none⟩,
⟨some 93, .move (.tmp 11), none⟩,
⟨some 94, .call ⟨.builtin .len, #[.tmp 93], #[22]⟩, none⟩,
⟨some 95, .binOp .lss 3 (.tmp 92) (.tmp 94) 3, none⟩])
(.cond (.tmp 95)
.skip
(.exit 4)))
(.seq (.block 5 (.ops [⟨some 98, .move (.tmp 11), none⟩,
⟨some 99, .move (.tmp 13), none⟩,
⟨some 100, .build 79 #[], none⟩,
⟨some 101, .indexAddr 22 (.tmp 98) (.tmp 99), none⟩,
⟨none, .store 79 (.tmp 101) (.tmp 100), none⟩]))
(.ops [⟨some 96, .move (.tmp 13), none⟩,
⟨some 97, .binOp .add 3 (.tmp 96) (.const (.int .i64 1)) 3, none⟩,
⟨some 13, .assign (.tmp 97), none⟩])))
def ir23_l1 : LC := (.seq (.seq (.ops [⟨some 35, .move (.tmp 8), none⟩,
⟨some 36, .binOp .leq 3 (.tmp 35) (.const (.int .i64 16)) 3, none⟩])
(.cond (.tmp 36)
.skip
(.exit 2)))
(.seq (.block 3 (.seq (.ops [⟨some 40, .move (.tmp 1), none⟩,
⟨some 41, .move (.tmp 7), none⟩,
⟨some 42, .move (.tmp 8), none⟩,
⟨some 43, .call ⟨.value (.func 57), #[.tmp 40, .tmp 41, .tmp 42], #[27, 3, 3]⟩, none⟩,
⟨some 39, .move (.tmp 43), none⟩,
⟨some 44, .extract (.tmp 39) 0, none⟩,
⟨some 45, .extract (.tmp 39) 1, none⟩,
⟨some 9, .alloc 109, none⟩,
⟨none, .store 109 (.tmp 9) (.tmp 44), none⟩,
⟨some 10, .assign (.tmp 45), none⟩])
(.seq (.ops [⟨some 47, .move (.tmp 0), none⟩,
⟨some 48, .move (.tmp 7), none⟩,
⟨some 49, .move (.tmp 8), none⟩,
⟨some 50, .call ⟨.value (.func 58), #[.tmp 47, .tmp 48, .tmp 49], #[26, 3, 3]⟩, none⟩,
⟨some 46, .move (.tmp 50), none⟩,
⟨some 51, .extract (.tmp 46) 0, none⟩,
⟨some 52, .extract (.tmp 46) 1, none⟩,
⟨some 11, .assign (.tmp 51), none⟩,
⟨some 12, .assign (.tmp 52), none⟩])
(.seq (.seq (.draw [⟨some 53, .move (.tmp 12), none⟩,
⟨some 54, .move (.tmp 10), none⟩,
⟨some 55, .binOp .neq 4 (.tmp 53) (.tmp 54) 4, none⟩,
⟨some 56, .move (.tmp 55), none⟩,
⟨some 57, .move (.tmp 11), some (56, false)⟩,
⟨some 58, .fieldAddr 109 (.tmp 9) 1, some (56, false)⟩,
⟨some 59, .load 22 (.tmp 58), some (56, false)⟩,
⟨some 60, .call ⟨.value (.func 42), #[.tmp 57, .tmp 59], #[22, 22]⟩, some (56, false)⟩,
⟨some 61, .unOp .not 4 (.tmp 60), some (56, false)⟩,
⟨some 62, .pick (.tmp 56) (.const (.bool true)) (.tmp 61), none⟩,
⟨some 63, .move (.tmp 62), none⟩,
⟨some 64, .move (.tmp 0), some (63, false)⟩,
⟨some 65, .move (.tmp 7), some (63, false)⟩,
⟨some 66, .move (.tmp 8), some (63, false)⟩,
⟨some 67, .call ⟨.value (.func 13), #[.tmp 64, .tmp 65, .tmp 66], #[26, 3, 3]⟩, some (63, false)⟩,
⟨some 68, .fieldAddr 109 (.tmp 9) 2, some (63, false)⟩,
⟨some 69, .load 23 (.tmp 68), some (63, false)⟩,
⟨some 70, .call ⟨.builtin .len, #[.tmp 69], #[23]⟩, some (63, false)⟩,
⟨some 71, .binOp .neq 3 (.tmp 67) (.tmp 70) 3, some (63, false)⟩,
⟨some 72, .pick (.tmp 63) (.const (.bool true)) (.tmp 71), none⟩,
⟨some 73, .move (.tmp 72), none⟩,
⟨some 74, .move (.tmp 0), some (73, false)⟩,
⟨some 75, .move (.tmp 7), some (73, false)⟩,
⟨some 76, .move (.tmp 8), some (73, false)⟩,
⟨some 77, .call ⟨.value (.func 26), #[.tmp 74, .tmp 75, .tmp 76], #[26, 3, 3]⟩, some (73, false)⟩,
⟨some 78, .fieldAddr 109 (.tmp 9) 3, some (73, false)⟩,
⟨some 79, .load 2 (.tmp 78), some (73, false)⟩,
⟨some 80, .binOp .neq 2 (.tmp 77) (.tmp 79) 2, some (73, false)⟩,
⟨some 81, .pick (.tmp 73) (.const (.bool true)) (.tmp 80), none⟩,
⟨some 82, .move (.tmp 81), none⟩,
⟨some 83, .move (.tmp 0), some (82, false)⟩,
⟨some 84, .move (.tmp 7), some (82, false)⟩,
⟨some 85, .move (.tmp 8), some (82, false)⟩,
⟨some 86, .fieldAddr 109 (.tmp 9) 2, some (82, false)⟩,
⟨some 87, .load 23 (.tmp 86), some (82, false)⟩,
⟨some 88, .move (.tmp 2), some (82, false)⟩,
⟨some 89, .call ⟨.value (.func 59), #[.tmp 83, .tmp 84, .tmp 85, .tmp 87, .tmp 88], #[26, 3, 3, 23, 3]⟩, some (82, false)⟩,
⟨some 90, .unOp .not 4 (.tmp 89), some (82, false)⟩,
⟨some 91, .pick (.tmp 82) (.const (.bool true)) (.tmp 90), none⟩] [(14, 15), (14, 16), (14, 17), (24, 25), (24, 26)])
(.cond (.tmp 91)
(.seq (.ops [⟨some 6, .assign (.const (.bool false)), none⟩])
.ret)
.skip))
(.seq (.ops [⟨some 13, .assign (.const (.int .i64 0)), none⟩])
(.block 4 (.loop ir23_l0)))))))
(.ops [⟨some 37, .move (.tmp 8), none⟩,
⟨some 38, .binOp .add 3 (.tmp 37) (.const (.int .i64 1)) 3, none⟩,
⟨some 8, .assign (.tmp 38), none⟩])))
def ir23_l2 : LC := (.seq (.seq (.ops [⟨some 14, .move (.tmp 7), none⟩,
⟨some 15, .binOp .leq 3 (.tmp 14) (.const (.int .i64 8)) 3, none⟩])
(.cond (.tmp 15)
.skip
(.exit 0)))
(.seq (.block 1 (.seq (.seq (.ops [⟨some 18, .move (.tmp 0), none⟩,
⟨some 19, .move (.tmp 7), none⟩,
⟨some 20, .call ⟨.value (.func 54), #[.tmp 18, .tmp 19], #[26, 3]⟩, none⟩,
⟨some 21, .move (.tmp 1), none⟩,
⟨some 22, .move (.tmp 7), none⟩,
⟨some 23, .call ⟨.value (.func 55), #[.tmp 21, .tmp 22], #[27, 3]⟩, none⟩,
⟨some 24, .binOp .neq 3 (.tmp 20) (.tmp 23) 3, none⟩,
⟨some 25, .move (.tmp 24), none⟩,
⟨some 26, .move (.tmp 0), some (25, false)⟩,
⟨some 27, .move (.tmp 7), some (25, false)⟩,
⟨some 28, .call ⟨.value (.func 34), #[.tmp 26, .tmp 27], #[26, 3]⟩, some (25, false)⟩,
⟨some 29, .move (.tmp 1), some (25, false)⟩,
⟨some 30, .move (.tmp 7), some (25, false)⟩,
⟨some 31, .call ⟨.value (.func 56), #[.tmp 29, .tmp 30], #[27, 3]⟩, some (25, false)⟩,
⟨some 32, .call ⟨.value (.func 39), #[.tmp 28, .tmp 31], #[30, 30]⟩, some (25, false)⟩,
⟨some 33, .unOp .not 4 (.tmp 32), some (25, false)⟩,
⟨some 34, .pick (.tmp 25) (.const (.bool true)) (.tmp 33), none⟩])
(.cond (.tmp 34)
(.seq (.ops [⟨some 6, .assign (.const (.bool false)), none⟩])
.ret)
.skip))
(.seq (.ops [⟨some 8, .assign (.const (.int .i64 (-1))), none⟩])
(.block 2 (.loop ir23_l1)))))
(.ops [⟨some 16, .move (.tmp 7), none⟩,
⟨some 17, .binOp .add 3 (.tmp 16) (.const (.int .i64 1)) 3, none⟩,
⟨some 7, .assign (.tmp 17), none⟩])))
def ir23 : LC := (.seq (.ops [⟨some 6, .assign (.const (.bool false)), none⟩])
(.seq (.seq (.ops [⟨some 7, .assign (.const (.int .i64 (-1))), none⟩])
(.block 0 (.loop ir23_l2)))
(.seq (.ops [⟨some 6, .assign (.const (.bool true)), none⟩])
.ret)))
theorem ir23_eq : (Try.f23.body.map low, Try.f23.ntmps, Try.f23.results.toList) = (some ir23, 102, [.tmp 6]) := by kernel_rfl
def ir24_l0 : LC := (.seq (.ops [⟨some 18, .binOp .lss 3 (.tmp 17) (.tmp 16) 3, none⟩])
(.seq (.cond (.tmp 18)
.skip
(.exit 0))
(.seq (.block 1 (.seq (.ops [⟨some 19, .indexAddr 30 (.tmp 15) (.tmp 17), none⟩,
⟨some 20, .load 3 (.tmp 19), none⟩,
⟨some 6, .assign (.tmp 20), none⟩])
(.seq (.seq (.ops [⟨some 21, .move (.tmp 6), none⟩,
⟨some 22, .binOp .lss 3 (.tmp 21) (.const (.int .i64 0)) 3, none⟩,
⟨some 23, .move (.tmp 22), none⟩,
⟨some 24, .move (.tmp 6), some (23, false)⟩,
⟨some 25, .move (.tmp 4), some (23, false)⟩,
⟨some 26, .binOp .gtr 3 (.tmp 24) (.tmp 25) 3, some (23, false)⟩,
⟨some 27, .pick (.tmp 23) (.const (.bool true)) (.tmp 26), none⟩])
(.cond (.tmp 27)
(.seq (.ops [⟨some 2, .assign (.const (.pointer none)), none⟩,
⟨some 3, .assign (.const (.int .i64 2)), none⟩])
.ret)
.skip))
(.ops [⟨some 28, .move (.tmp 4), none⟩,
⟨some 29, .move (.tmp 6), none⟩,
⟨some 30, .binOp .sub 3 (.tmp 28) (.tmp 29) 3, none⟩,
⟨some 4, .assign (.tmp 30), none⟩]))))
(.ops [⟨some 31, .binOp .add 3 (.tmp 17) (.const (.int .i64 1)) 3, none⟩,
⟨some 17, .move (.tmp 31), none⟩]))))
def ir24 : LC := (.seq (.ops [⟨some 2, .assign (.const (.pointer none)), none⟩,
⟨some 3, .assign (.const (.int .i64 0)), none⟩])
(.seq (.seq (.ops [⟨some 7, .move (.tmp 0), none⟩,
⟨some 8, .call ⟨.builtin .len, #[.tmp 7], #[30]⟩, none⟩,
⟨some 9, .binOp .eql 3 (.tmp 8) (.const (.int .i64 0)) 3, none⟩,
⟨some 10, .move (.tmp 9), none⟩,
⟨some 11, .move (.tmp 0), some (10, false)⟩,
⟨some 12, .call ⟨.builtin .len, #[.tmp 11], #[30]⟩, some (10, false)⟩,
⟨some 13, .binOp .gtr 3 (.tmp 12) (.const (.int .i64 8)) 3, some (10, false)⟩,
⟨some 14, .pick (.tmp 10) (.const (.bool true)) (.tmp 13), none⟩])
(.cond (.tmp 14)
(.seq (.ops [⟨some 2, .assign (.const (.pointer none)), none⟩,
⟨some 3, .assign (.const (.int .i64 2)), none⟩])
.ret)
.skip))
(.seq (.ops [⟨some 4, .assign (.const (.int .i64 16)), none⟩])
(.seq (.seq (.ops [⟨some 15, .move (.tmp 0), none⟩,
⟨some 16, .call ⟨.builtin .len, #[.tmp 15], #[30]⟩, none⟩,
⟨some 17, .move (.const (.int .i64 0)), none⟩])
(.block 0 (.loop ir24_l0)))
(.seq (.ops [⟨some 32, .move (.tmp 0), none⟩,
⟨some 33, .call ⟨.value (.func 60), #[.tmp 32], #[30]⟩, none⟩,
⟨some 34, .makeMap 66 none, none⟩,
⟨some 35, .build 68 #[(0, .tmp 33), (1, .tmp 34)], none⟩,
⟨some 36, .box 68 (.tmp 35), none⟩,
⟨some 2, .assign (.tmp 36), none⟩,
⟨some 3, .assign (.const (.int .i64 0)), none⟩])
.ret)))))
theorem ir24_eq : (Try.f24.body.map low, Try.f24.ntmps, Try.f24.results.toList) = (some ir24, 37, [.tmp 2, .tmp 3]) := by kernel_rfl
def ir25_l0 : LC := (.seq (.ops [⟨some 22, .next (.tmp 21) false, none⟩,
⟨some 23, .extract (.tmp 22) 0, none⟩])
(.seq (.cond (.tmp 23)
.skip
(.exit 0))
(.block 1 (.seq (.ops [⟨some 24, .entry (.tmp 21), none⟩,
⟨some 25, .extract (.tmp 24) 0, none⟩,
⟨some 26, .extract (.tmp 24) 1, none⟩,
⟨some 4, .alloc 75, none⟩,
⟨none, .store 75 (.tmp 4) (.tmp 25), none⟩,
⟨some 5, .assign (.tmp 26), none⟩])
(.seq (.ops [⟨some 27, .move (.tmp 5), none⟩,
⟨some 28, .nilCheck (.tmp 27), none⟩,
⟨some 29, .load 82 (.tmp 28), none⟩,
⟨some 6, .alloc 82, none⟩,
⟨none, .store 82 (.tmp 6) (.tmp 29), none⟩])
(.draw [⟨some 30, .move (.tmp 3), none⟩,
⟨some 31, .nilCheck (.tmp 30), none⟩,
⟨some 32, .fieldAddr 68 (.tmp 31) 1, none⟩,
⟨some 33, .load 66 (.tmp 32), none⟩,
⟨some 34, .load 75 (.tmp 4), none⟩,
⟨none, .mapUpdate 66 (.tmp 33) (.tmp 34) (.tmp 6), none⟩] []))))))
def ir25 : LC := (.seq (.ops [⟨some 2, .assign (.const (.pointer none)), none⟩])
(.seq (.seq (.ops [⟨some 7, .move (.tmp 0), none⟩,
⟨some 8, .call ⟨.value (.func 33), #[.tmp 7], #[26]⟩, none⟩,
⟨some 9, .unOp .not 4 (.tmp 8), none⟩])
(.cond (.tmp 9)
(.seq (.ops [⟨some 2, .assign (.const (.pointer none)), none⟩])
.ret)
.skip))
(.seq (.ops [⟨some 10, .move (.tmp 0), none⟩,
⟨some 11, .nilCheck (.tmp 10), none⟩,
⟨some 12, .fieldAddr 68 (.tmp 11) 0, none⟩,
⟨some 13, .load 30 (.tmp 12), none⟩,
⟨some 14, .makeMap 66 none, none⟩,
⟨some 15, .build 68 #[(0, .tmp 13), (1, .tmp 14)], none⟩,
⟨some 16, .box 68 (.tmp 15), none⟩,
⟨some 3, .assign (.tmp 16), none⟩])
(.seq (.seq (.ops [⟨some 17, .move (.tmp 0), none⟩,
⟨some 18, .nilCheck (.tmp 17), none⟩,
⟨some 19, .fieldAddr 68 (.tmp 18) 1, none⟩,
⟨some 20, .load 66 (.tmp 19), none⟩,
⟨some 21, .range 66 (.tmp 20), none⟩])
(.block 0 (.loop ir25_l0)))
(.seq (.ops [⟨some 35, .move (.tmp 3), none⟩,
⟨some 2, .assign (.tmp 35), none⟩])
.ret)))))
theorem ir25_eq : (Try.f25.body.map low, Try.f25.ntmps, Try.f25.results.toList) = (some ir25, 36, [.tmp 2]) := by kernel_rfl
def ir26 : LC := (.seq (.ops [⟨some 6, .assign (.const (.int .i64 0)), none⟩])
(.seq (.ops [⟨some 10, .move (.tmp 0), none⟩,
⟨some 11, .move (.tmp 1), none⟩,
⟨some 12, .move (.tmp 2), none⟩,
⟨some 13, .call ⟨.value (.func 37), #[.tmp 10, .tmp 11, .tmp 12], #[26, 3, 3]⟩, none⟩,
⟨some 9, .move (.tmp 13), none⟩,
⟨some 14, .extract (.tmp 9) 0, none⟩,
⟨some 15, .extract (.tmp 9) 1, none⟩,
⟨some 7, .assign (.tmp 14), none⟩,
⟨some 8, .assign (.tmp 15), none⟩])
(.seq (.seq (.ops [⟨some 16, .move (.tmp 8), none⟩,
⟨some 17, .binOp .neq 31 (.tmp 16) (.const (.int .i64 0)) 31, none⟩])
(.cond (.tmp 17)
(.seq (.ops [⟨some 6, .assign (.const (.int .i64 0)), none⟩])
.ret)
.skip))
(.seq (.ops [⟨some 18, .move (.tmp 7), none⟩,
⟨some 19, .nilCheck (.tmp 18), none⟩,
⟨some 20, .fieldAddr 82 (.tmp 19) 4, none⟩,
⟨some 21, .load 2 (.tmp 20), none⟩,
⟨some 6, .assign (.tmp 21), none⟩])
.ret))))
theorem ir26_eq : (Try.f26.body.map low, Try.f26.ntmps, Try.f26.results.toList) = (some ir26, 22, [.tmp 6]) := by kernel_rfl
def ir28_l0 : LC := (.seq (.seq (.ops [⟨some 11, .move (.tmp 5), none⟩,
⟨some 12, .move (.tmp 0), none⟩,
⟨some 13, .call ⟨.builtin .len, #[.tmp 12], #[37]⟩, none⟩,
⟨some 14, .binOp .lss 3 (.tmp 11) (.tmp 13) 3, none⟩])
(.cond (.tmp 14)
.skip
(.exit 0)))
(.seq (.block 1 (.seq (.draw [⟨some 17, .move (.tmp 0), none⟩,
⟨some 18, .move (.tmp 5), none⟩,
⟨some 19, .indexAddr 37 (.tmp 17) (.tmp 18), none⟩,
⟨some 20, .load 41 (.tmp 19), none⟩,
⟨some 21, .move (.tmp 1), none⟩,
⟨some 22, .move (.tmp 5), none⟩,
⟨some 23, .indexAddr 37 (.tmp 21) (.tmp 22), none⟩,
⟨some 24, .load 41 (.tmp 23), none⟩,
⟨some 25, .binOp .neq 41 (.tmp 20) (.tmp 24) 41, none⟩] [])
(.cond (.tmp 25)
(.seq (.ops [⟨some 4, .assign (.const (.bool false)), none⟩])
.ret)
.skip)))
(.ops [⟨some 15, .move (.tmp 5), none⟩,
⟨some 16, .binOp .add 3 (.tmp 15) (.const (.int .i64 1)) 3, none⟩,
⟨some 5, .assign (.tmp 16), none⟩])))
def ir28 : LC := (.seq (.ops [⟨some 4, .assign (.const (.bool false)), none⟩])
(.seq (.seq (.ops [⟨some 6, .move (.tmp 0), none⟩,
⟨some 7, .call ⟨.builtin .len, #[.tmp 6], #[37]⟩, none⟩,
⟨some 8, .move (.tmp 1), none⟩,
⟨some 9, .call ⟨.builtin .len, #[.tmp 8], #[37]⟩, none⟩,
⟨some 10, .binOp .neq 3 (.tmp 7) (.tmp 9) 3, none⟩])
(.cond (.tmp 10)
(.seq (.ops [⟨some 4, .assign (.const (.bool false)), none⟩])
.ret)
.skip))
(.seq (.seq (.ops [⟨some 5, .assign (.const (.int .i64 0)), none⟩])
(.block 0 (.loop ir28_l0)))
(.seq (.ops [⟨some 4, .assign (.const (.bool true)), none⟩])
.ret))))
theorem ir28_eq : (Try.f28.body.map low, Try.f28.ntmps, Try.f28.results.toList) = (some ir28, 26, [.tmp 4]) := by kernel_rfl
def ir29_l0 : LC := (.seq (.seq (.ops [⟨some 17, .move (.tmp 6), none⟩,
⟨some 18, .move (.tmp 0), none⟩,
⟨some 19, .call ⟨.builtin .len, #[.tmp 18], #[30]⟩, none⟩,
⟨some 20, .binOp .lss 3 (.tmp 17) (.tmp 19) 3, none⟩])
(.cond (.tmp 20)
.skip
(.exit 0)))
(.seq (.block 1 (.seq (.seq (.ops [⟨some 23, .move (.tmp 0), none⟩,
⟨some 24, .move (.tmp 6), none⟩,
⟨some 25, .indexAddr 30 (.tmp 23) (.tmp 24), none⟩,
⟨some 26, .load 3 (.tmp 25), none⟩,
⟨some 27, .binOp .lss 3 (.tmp 26) (.const (.int .i64 0)) 3, none⟩,
⟨some 28, .move (.tmp 27), none⟩,
⟨some 29, .move (.tmp 0), some (28, false)⟩,
⟨some 30, .move (.tmp 6), some (28, false)⟩,
⟨some 31, .indexAddr 30 (.tmp 29) (.tmp 30), some (28, false)⟩,
⟨some 32, .load 3 (.tmp 31), some (28, false)⟩,
⟨some 33, .move (.tmp 5), some (28, false)⟩,
⟨some 34, .binOp .gtr 3 (.tmp 32) (.tmp 33) 3, some (28, false)⟩,
⟨some 35, .pick (.tmp 28) (.const (.bool true)) (.tmp 34), none⟩])
(.cond (.tmp 35)
(.seq (.ops [⟨some 2, .assign (.const (.pointer none)), none⟩,
⟨some 3, .assign (.const (.int .i64 2)), none⟩])
.ret)
.skip))
(.seq (.ops [⟨some 36, .move (.tmp 5), none⟩,
⟨some 37, .move (.tmp 0), none⟩,
⟨some 38, .move (.tmp 6), none⟩,
⟨some 39, .indexAddr 30 (.tmp 37) (.tmp 38), none⟩,
⟨some 40, .load 3 (.tmp 39), none⟩,
⟨some 41, .binOp .sub 3 (.tmp 36) (.tmp 40) 3, none⟩,
⟨some 5, .assign (.tmp 41), none⟩])
(.draw [⟨some 42, .move (.tmp 4), none⟩,
⟨some 43, .move (.tmp 4), none⟩,
⟨some 44, .nilCheck (.tmp 43), none⟩,
⟨some 45, .fieldAddr 106 (.tmp 44) 0, none⟩,
⟨some 46, .load 104 (.tmp 45), none⟩,
⟨some 47, .move (.tmp 0), none⟩,
⟨some 48, .move (.tmp 6), none⟩,
⟨some 49, .indexAddr 30 (.tmp 47) (.tmp 48), none⟩,
⟨some 50, .load 3 (.tmp 49), none⟩,
⟨some 51, .makeSlice 107 (.tmp 50) (.tmp 50), none⟩,
⟨some 52, .buildSlice 104 1 #[(0, .tmp 51)], none⟩,
⟨some 53, .call ⟨.builtin .append, #[.tmp 46, .tmp 52], #[104, 104]⟩, none⟩,
⟨some 54, .nilCheck (.tmp 42), none⟩,
⟨some 55, .fieldAddr 106 (.tmp 54) 0, none⟩,
⟨none, .store 104 (.tmp 55) (.tmp 53), none⟩] [(0, 9), (1, 9), (2, 9), (3, 9), (4, 9), (0, 10), (1, 10), (2, 10), (3, 10), (4, 10), (0, 11)]))))
(.ops [⟨some 21, .move (.tmp 6), none⟩,
⟨some 22, .binOp .add 3 (.tmp 21) (.const (.int .i64 1)) 3, none⟩,
⟨some 6, .assign (.tmp 22), none⟩])))
def ir29 : LC := (.seq (.ops [⟨some 2, .assign (.const (.pointer none)), none⟩,
⟨some 3, .assign (.const (.int .i64 0)), none⟩])
(.seq (.seq (.ops [⟨some 7, .move (.tmp 0), none⟩,
⟨some 8, .call ⟨.builtin .len, #[.tmp 7], #[30]⟩, none⟩,
⟨some 9, .binOp .eql 3 (.tmp 8) (.const (.int .i64 0)) 3, none⟩,
⟨some 10, .move (.tmp 9), none⟩,
⟨some 11, .move (.tmp 0), some (10, false)⟩,
⟨some 12, .call ⟨.builtin .len, #[.tmp 11], #[30]⟩, some (10, false)⟩,
⟨some 13, .binOp .gtr 3 (.tmp 12) (.const (.int .i64 8)) 3, some (10, false)⟩,
⟨some 14, .pick (.tmp 10) (.const (.bool true)) (.tmp 13), none⟩])
(.cond (.tmp 14)
(.seq (.ops [⟨some 2, .assign (.const (.pointer none)), none⟩,
⟨some 3, .assign (.const (.int .i64 2)), none⟩])
.ret)
.skip))
(.seq (.ops [⟨some 15, .build 106 #[], none⟩,
⟨some 16, .box 106 (.tmp 15), none⟩,
⟨some 4, .assign (.tmp 16), none⟩])
(.seq (.ops [⟨some 5, .assign (.const (.int .i64 16)), none⟩])
(.seq (.seq (.ops [⟨some 6, .assign (.const (.int .i64 0)), none⟩])
(.block 0 (.loop ir29_l0)))
(.seq (.ops [⟨some 56, .move (.tmp 4), none⟩,
⟨some 2, .assign (.tmp 56), none⟩,
⟨some 3, .assign (.const (.int .i64 0)), none⟩])
.ret))))))
theorem ir29_eq : (Try.f29.body.map low, Try.f29.ntmps, Try.f29.results.toList) = (some ir29, 57, [.tmp 2, .tmp 3]) := by kernel_rfl
def ir30 : LC := (.seq (.ops [⟨some 4, .assign (.const (.int .i64 0)), none⟩])
(.seq (.block 0 (.seq (.ops [⟨some 6, .move (.tmp 0), none⟩,
⟨some 7, .call ⟨.value (.func 33), #[.tmp 6], #[26]⟩, none⟩,
⟨some 8, .unOp .not 4 (.tmp 7), none⟩,
⟨some 5, .assign (.tmp 8), none⟩])
(.cond (.tmp 5)
(.seq (.ops [⟨some 4, .assign (.const (.int .i64 1)), none⟩])
.ret)
(.seq (.ops [⟨some 10, .move (.tmp 1), none⟩,
⟨some 11, .binOp .lss 3 (.tmp 10) (.const (.int .i64 0)) 3, none⟩,
⟨some 12, .move (.tmp 11), none⟩,
⟨some 13, .move (.tmp 1), some (12, false)⟩,
⟨some 14, .move (.tmp 0), some (12, false)⟩,
⟨some 15, .nilCheck (.tmp 14), some (12, false)⟩,
⟨some 16, .fieldAddr 68 (.tmp 15) 0, some (12, false)⟩,
⟨some 17, .load 30 (.tmp 16), some (12, false)⟩,
⟨some 18, .call ⟨.builtin .len, #[.tmp 17], #[30]⟩, some (12, false)⟩,
⟨some 19, .binOp .geq 3 (.tmp 13) (.tmp 18) 3, some (12, false)⟩,
⟨some 20, .pick (.tmp 12) (.const (.bool true)) (.tmp 19), none⟩,
⟨some 9, .assign (.tmp 20), none⟩])
(.cond (.tmp 9)
(.seq (.ops [⟨some 4, .assign (.const (.int .i64 2)), none⟩])
.ret)
.skip)))))
(.seq (.ops [⟨some 4, .assign (.const (.int .i64 0)), none⟩])
.ret)))
theorem ir30_eq : (Try.f30.body.map low, Try.f30.ntmps, Try.f30.results.toList) = (some ir30, 21, [.tmp 4]) := by kernel_rfl
def ir31_l0 : LC := (.seq (.ops [⟨some 11, .binOp .lss 3 (.tmp 10) (.tmp 9) 3, none⟩])
(.seq (.cond (.tmp 11)
.skip
(.exit 0))
(.seq (.block 1 (.seq (.ops [⟨some 12, .indexAddr 22 (.tmp 8) (.tmp 10), none⟩,
⟨some 13, .load 79 (.tmp 12), none⟩,
⟨some 4, .alloc 79, none⟩,
⟨none, .store 79 (.tmp 4) (.tmp 13), none⟩])
(.seq (.ops [⟨some 14, .fieldAddr 79 (.tmp 4) 0, none⟩,
⟨some 15, .load 3 (.tmp 14), none⟩,
⟨some 16, .binOp .lss 3 (.tmp 15) (.const (.int .i64 0)) 3, none⟩,
⟨some 17, .move (.tmp 16), none⟩,
⟨some 18, .fieldAddr 79 (.tmp 4) 0, some (17, false)⟩,
⟨some 19, .load 3 (.tmp 18), some (17, false)⟩,
⟨some 20, .binOp .geq 3 (.tmp 19) (.const (.int .i64 64)) 3, some (17, false)⟩,
⟨some 21, .pick (.tmp 17) (.const (.bool true)) (.tmp 20), none⟩,
⟨some 22, .move (.tmp 21), none⟩,
⟨some 23, .fieldAddr 79 (.tmp 4) 1, some (22, false)⟩,
⟨some 24, .load 3 (.tmp 23), some (22, false)⟩,
⟨some 25, .binOp .shr 3 (.tmp 24) (.const (.int .u64 8)) 118, some (22, false)⟩,
⟨some 26, .binOp .neq 3 (.tmp 25) (.const (.int .i64 0)) 3, some (22, false)⟩,
⟨some 27, .pick (.tmp 22) (.const (.bool true)) (.tmp 26), none⟩,
⟨some 28, .move (.tmp 27), none⟩,
⟨some 29, .fieldAddr 79 (.tmp 4) 2, some (28, false)⟩,
⟨some 30, .load 3 (.tmp 29), some (28, false)⟩,
⟨some 31, .binOp .shr 3 (.tmp 30) (.const (.int .u64 8)) 118, some (28, false)⟩,
⟨some 32, .binOp .neq 3 (.tmp 31) (.const (.int .i64 0)) 3, some (28, false)⟩,
⟨some 33, .pick (.tmp 28) (.const (.bool true)) (.tmp 32), none⟩])
(.cond (.tmp 33)
(.seq (.ops [⟨some 2, .assign (.const (.int .i64 2)), none⟩])
.ret)
.skip))))
(.ops [⟨some 34, .binOp .add 3 (.tmp 10) (.const (.int .i64 1)) 3, none⟩,
⟨some 10, .move (.tmp 34), none⟩]))))
def ir31 : LC := (.seq (.ops [⟨some 2, .assign (.const (.int .i64 0)), none⟩])
(.seq (.seq (.ops [⟨some 5, .move (.tmp 0), none⟩,
⟨some 6, .call ⟨.builtin .len, #[.tmp 5], #[22]⟩, none⟩,
⟨some 7, .binOp .gtr 3 (.tmp 6) (.const (.int .i64 8)) 3, none⟩])
(.cond (.tmp 7)
(.seq (.ops [⟨some 2, .assign (.const (.int .i64 2)), none⟩])
.ret)
.skip))
(.seq (.seq (.ops [⟨some 8, .move (.tmp 0), none⟩,
⟨some 9, .call ⟨.builtin .len, #[.tmp 8], #[22]⟩, none⟩,
⟨some 10, .move (.const (.int .i64 0)), none⟩])
(.block 0 (.loop ir31_l0)))
(.seq (.ops [⟨some 2, .assign (.const (.int .i64 0)), none⟩])
.ret))))
theorem ir31_eq : (Try.f31.body.map low, Try.f31.ntmps, Try.f31.results.toList) = (some ir31, 35, [.tmp 2]) := by kernel_rfl
def ir32 : LC := (.seq (.ops [⟨some 2, .assign (.const (.slice none 0 0)), none⟩])
(.seq (.seq (.ops [⟨some 3, .move (.tmp 0), none⟩,
⟨some 4, .binOp .eql 22 (.tmp 3) (.const (.slice none 0 0)) 22, none⟩])
(.cond (.tmp 4)
(.seq (.ops [⟨some 2, .assign (.const (.slice none 0 0)), none⟩])
.ret)
.skip))
(.seq (.ops [⟨some 5, .buildSlice 22 0 #[], none⟩,
⟨some 6, .move (.tmp 0), none⟩,
⟨some 7, .call ⟨.builtin .append, #[.tmp 5, .tmp 6], #[22, 22]⟩, none⟩,
⟨some 2, .assign (.tmp 7), none⟩])
.ret)))
theorem ir32_eq : (Try.f32.body.map low, Try.f32.ntmps, Try.f32.results.toList) = (some ir32, 8, [.tmp 2]) := by kernel_rfl
def ir33 : LC := (.seq (.ops [⟨some 2, .assign (.const (.bool false)), none⟩])
(.seq (.ops [⟨some 3, .move (.tmp 0), none⟩,
⟨some 4, .binOp .neq 26 (.tmp 3) (.const (.pointer none)) 26, none⟩,
⟨some 5, .move (.tmp 4), none⟩,
⟨some 6, .move (.tmp 0), some (5, true)⟩,
⟨some 7, .nilCheck (.tmp 6), some (5, true)⟩,
⟨some 8, .fieldAddr 68 (.tmp 7) 1, some (5, true)⟩,
⟨some 9, .load 66 (.tmp 8), some (5, true)⟩,
⟨some 10, .binOp .neq 66 (.tmp 9) (.const (.map none)) 66, some (5, true)⟩,
⟨some 11, .pick (.tmp 5) (.tmp 10) (.const (.bool false)), none⟩,
⟨some 2, .assign (.tmp 11), none⟩])
.ret))
theorem ir33_eq : (Try.f33.body.map low, Try.f33.ntmps, Try.f33.results.toList) = (some ir33, 12, [.tmp 2]) := by kernel_rfl
noncomputable def rc34 (i : Nat) : Code × Code := (((Try.f34.body.map rangesOf).getD [])[i]?).getD (.skip, .skip)
noncomputable def ir34_a0 : LC := (.ops [⟨some 6, .alloc 75, none⟩,
⟨none, .store 75 (.tmp 6) (.tmp 15), none⟩])
noncomputable def ir34_b0 : LC := (.block 1 (.seq (.ops [⟨some 16, .fieldAddr 75 (.tmp 6) 0, none⟩,
⟨some 17, .load 3 (.tmp 16), none⟩,
⟨some 18, .load 3 (.tmp 3), none⟩,
⟨some 19, .binOp .eql 3 (.tmp 17) (.tmp 18) 3, none⟩])
(.cond (.tmp 19)
(.ops [⟨some 20, .load 30 (.tmp 5), none⟩,
⟨some 21, .fieldAddr 75 (.tmp 6) 1, none⟩,
⟨some 22, .load 3 (.tmp 21), none⟩,
⟨some 23, .buildSlice 30 1 #[(0, .tmp 22)], none⟩,
⟨some 24, .call ⟨.builtin .append, #[.tmp 20, .tmp 23], #[30, 30]⟩, none⟩,
⟨none, .store 30 (.tmp 5) (.tmp 24), none⟩])
.skip)))
theorem ir34_a0_eq : low (rc34 0).1 = ir34_a0 := by kernel_rfl
theorem ir34_b0_eq : low (rc34 0).2 = ir34_b0 := by kernel_rfl
noncomputable def ir34 : LC := (.seq (.ops [⟨some 3, .box 3 (.tmp 1), none⟩,
⟨some 4, .assign (.const (.slice none 0 0)), none⟩])
(.seq (.ops [⟨some 5, .alloc 30, none⟩])
(.seq (.seq (.ops [⟨some 7, .move (.tmp 0), none⟩,
⟨some 8, .call ⟨.value (.func 33), #[.tmp 7], #[26]⟩, none⟩,
⟨some 9, .unOp .not 4 (.tmp 8), none⟩])
(.cond (.tmp 9)
(.seq (.ops [⟨some 4, .assign (.const (.slice none 0 0)), none⟩])
.ret)
.skip))
(.seq (.seq (.ops [⟨some 10, .move (.tmp 0), none⟩,
⟨some 11, .nilCheck (.tmp 10), none⟩,
⟨some 12, .fieldAddr 68 (.tmp 11) 1, none⟩,
⟨some 13, .load 66 (.tmp 12), none⟩,
⟨some 14, .call ⟨.value (.func 61), #[.tmp 13], #[66]⟩, none⟩])
(.block 0 (.range (.tmp 14) #[15] (rc34 0).1 (rc34 0).2)))
(.seq (.ops [⟨some 25, .load 30 (.tmp 5), none⟩,
⟨some 26, .call ⟨.value (.func 62), #[.tmp 25], #[30]⟩, none⟩])
(.seq (.ops [⟨some 27, .load 30 (.tmp 5), none⟩,
⟨some 4, .assign (.tmp 27), none⟩])
.ret))))))
theorem ir34_eq : (Try.f34.body.map low, Try.f34.ntmps, Try.f34.results.toList) = (some ir34, 28, [.tmp 4]) := by kernel_rfl
def ir35_l0 : LC := (.seq (.ops [⟨some 13, .binOp .lss 3 (.tmp 12) (.tmp 11) 3, none⟩])
(.seq (.cond (.tmp 13)
.skip
(.exit 0))
(.seq (.block 1 (.seq (.ops [⟨some 14, .indexAddr 23 (.tmp 10) (.tmp 12), none⟩,
⟨some 15, .load 36 (.tmp 14), none⟩,
⟨some 7, .assign (.tmp 15), none⟩])
(.draw [⟨some 16, .load 23 (.tmp 5), none⟩,
⟨some 17, .move (.tmp 7), none⟩,
⟨some 18, .call ⟨.value (.func 63), #[.tmp 17], #[36]⟩, none⟩,
⟨some 19, .buildSlice 23 1 #[(0, .tmp 18)], none⟩,
⟨some 20, .call ⟨.builtin .append, #[.tmp 16, .tmp 19], #[23, 23]⟩, none⟩,
⟨none, .store 23 (.tmp 5) (.tmp 20), none⟩] [(0, 2), (0, 3)])))
(.ops [⟨some 21, .binOp .add 3 (.tmp 12) (.const (.int .i64 1)) 3, none⟩,
⟨some 12, .move (.tmp 21), none⟩]))))
def ir35 : LC := (.seq (.ops [⟨some 2, .box 22 (.tmp 0), none⟩,
⟨some 4, .assign (.const .nilFunc), none⟩])
(.seq (.ops [⟨some 8, .load 22 (.tmp 2), none⟩,
⟨some 9, .call ⟨.value (.func 32), #[.tmp 8], #[22]⟩, none⟩,
⟨none, .store 22 (.tmp 2) (.tmp 9), none⟩])
(.seq (.ops [⟨some 5, .alloc 23, none⟩])
(.seq (.seq (.ops [⟨some 10, .move (.tmp 1), none⟩,
⟨some 11, .call ⟨.builtin .len, #[.tmp 10], #[23]⟩, none⟩,
⟨some 12, .move (.const (.int .i64 0)), none⟩])
(.block 0 (.loop ir35_l0)))
(.seq (.ops [⟨some 22, .makeFunc (Fn.func 64) #[] #[.tmp 5, .tmp 2], none⟩,
⟨some 4, .assign (.tmp 22), none⟩])
.ret)))))
theorem ir35_eq : (Try.f35.body.map low, Try.f35.ntmps, Try.f35.results.toList) = (some ir35, 23, [.tmp 4]) := by kernel_rfl
def ir36 : LC := (.seq (.ops [⟨some 4, .assign (.const (.bool false)), none⟩])
(.seq (.seq (.ops [⟨some 5, .move (.tmp 0), none⟩,
⟨some 6, .nilCheck (.tmp 5), none⟩,
⟨some 7, .fieldAddr 82 (.tmp 6) 3, none⟩,
⟨some 8, .load 3 (.tmp 7), none⟩,
⟨some 9, .binOp .eql 3 (.tmp 8) (.const (.int .i64 8)) 3, none⟩])
(.cond (.tmp 9)
(.seq (.ops [⟨some 10, .move (.tmp 0), none⟩,
⟨some 11, .nilCheck (.tmp 10), none⟩,
⟨some 12, .fieldAddr 82 (.tmp 11) 4, none⟩,
⟨some 13, .load 2 (.tmp 12), none⟩,
⟨some 14, .binOp .add 2 (.tmp 13) (.const (.int .i64 1)) 2, none⟩,
⟨some 15, .nilCheck (.tmp 10), none⟩,
⟨some 16, .fieldAddr 82 (.tmp 15) 4, none⟩,
⟨none, .store 2 (.tmp 16) (.tmp 14), none⟩])
(.seq (.ops [⟨some 4, .assign (.const (.bool false)), none⟩])
.ret))
.skip))
(.seq (.draw [⟨some 17, .move (.tmp 0), none⟩,
⟨some 18, .move (.tmp 0), none⟩,
⟨some 19, .nilCheck (.tmp 18), none⟩,
⟨some 20, .fieldAddr 82 (.tmp 19) 2, none⟩,
⟨some 21, .load 3 (.tmp 20), none⟩,
⟨some 22, .move (.tmp 0), none⟩,
⟨some 23, .nilCheck (.tmp 22), none⟩,
⟨some 24, .fieldAddr 82 (.tmp 23) 3, none⟩,
⟨some 25, .load 3 (.tmp 24), none⟩,
⟨some 26, .binOp .add 3 (.tmp 21) (.tmp 25) 3, none⟩,
⟨some 27, .binOp .rem 3 (.tmp 26) (.const (.int .i64 8)) 3, none⟩,
⟨some 28, .move (.tmp 1), none⟩,
⟨some 29, .call ⟨.value (.func 67), #[.tmp 28], #[36]⟩, none⟩,
⟨some 30, .nilCheck (.tmp 17), none⟩,
⟨some 31, .fieldAddr 82 (.tmp 30) 1, none⟩,
⟨some 32, .indexAddr 80 (.tmp 31) (.tmp 27), none⟩,
⟨none, .store 36 (.tmp 32) (.tmp 29), none⟩] [(0, 12), (1, 12), (2, 12), (3, 12), (4, 12), (5, 12), (6, 12), (7, 12), (8, 12), (9, 12), (10, 12), (12, 13), (12, 14)])
(.seq (.ops [⟨some 33, .move (.tmp 0), none⟩,
⟨some 34, .nilCheck (.tmp 33), none⟩,
⟨some 35, .fieldAddr 82 (.tmp 34) 3, none⟩,
⟨some 36, .load 3 (.tmp 35), none⟩,
⟨some 37, .binOp .add 3 (.tmp 36) (.const (.int .i64 1)) 3, none⟩,
⟨some 38, .nilCheck (.tmp 33), none⟩,
⟨some 39, .fieldAddr 82 (.tmp 38) 3, none⟩,
⟨none, .store 3 (.tmp 39) (.tmp 37), none⟩])
(.seq (.ops [⟨some 4, .assign (.const (.bool true)), none⟩])
.ret)))))
theorem ir36_eq : (Try.f36.body.map low, Try.f36.ntmps, Try.f36.results.toList) = (some ir36, 40, [.tmp 4]) := by kernel_rfl
def ir37 : LC := (.seq (.ops [⟨some 6, .assign (.const (.pointer none)), none⟩,
⟨some 7, .assign (.const (.int .i64 0)), none⟩])
(.seq (.seq (.ops [⟨some 10, .move (.tmp 0), none⟩,
⟨some 11, .move (.tmp 1), none⟩,
⟨some 12, .call ⟨.value (.func 30), #[.tmp 10, .tmp 11], #[26, 3]⟩, none⟩,
⟨some 8, .assign (.tmp 12), none⟩])
(.seq (.ops [⟨some 13, .move (.tmp 8), none⟩,
⟨some 14, .binOp .neq 31 (.tmp 13) (.const (.int .i64 0)) 31, none⟩])
(.cond (.tmp 14)
(.seq (.ops [⟨some 15, .move (.tmp 8), none⟩,
⟨some 6, .assign (.const (.pointer none)), none⟩,
⟨some 7, .assign (.tmp 15), none⟩])
.ret)
.skip)))
(.seq (.ops [⟨some 16, .move (.tmp 0), none⟩,
⟨some 17, .nilCheck (.tmp 16), none⟩,
⟨some 18, .fieldAddr 68 (.tmp 17) 1, none⟩,
⟨some 19, .load 66 (.tmp 18), none⟩,
⟨some 20, .move (.tmp 1), none⟩,
⟨some 21, .move (.tmp 2), none⟩,
⟨some 22, .build 75 #[(0, .tmp 20), (1, .tmp 21)], none⟩,
⟨some 23, .lookup 66 (.tmp 19) (.tmp 22) false, none⟩,
⟨some 9, .assign (.tmp 23), none⟩])
(.seq (.seq (.ops [⟨some 24, .move (.tmp 9), none⟩,
⟨some 25, .binOp .eql 76 (.tmp 24) (.const (.pointer none)) 76, none⟩])
(.cond (.tmp 25)
(.seq (.ops [⟨some 6, .assign (.const (.pointer none)), none⟩,
⟨some 7, .assign (.const (.int .i64 6)), none⟩])
.ret)
.skip))
(.seq (.ops [⟨some 26, .move (.tmp 9), none⟩,
⟨some 6, .assign (.tmp 26), none⟩,
⟨some 7, .assign (.const (.int .i64 0)), none⟩])
.ret)))))
theorem ir37_eq : (Try.f37.body.map low, Try.f37.ntmps, Try.f37.results.toList) = (some ir37, 27, [.tmp 6, .tmp 7]) := by kernel_rfl
def ir38 : LC := (.seq (.ops [⟨some 6, .assign (.const (.slice none 0 0)), none⟩,
⟨some 7, .assign (.const (.int .i64 0)), none⟩])
(.seq (.ops [⟨some 11, .move (.tmp 0), none⟩,
⟨some 12, .move (.tmp 1), none⟩,
⟨some 13, .move (.tmp 2), none⟩,
⟨some 14, .call ⟨.value (.func 37), #[.tmp 11, .tmp 12, .tmp 13], #[26, 3, 3]⟩, none⟩,
⟨some 10, .move (.tmp 14), none⟩,
⟨some 15, .extract (.tmp 10) 0, none⟩,
⟨some 16, .extract (.tmp 10) 1, none⟩,
⟨some 8, .assign (.tmp 15), none⟩,
⟨some 9, .assign (.tmp 16), none⟩])
(.seq (.block 0 (.seq (.ops [⟨some 18, .move (.tmp 9), none⟩,
⟨some 19, .binOp .neq 31 (.tmp 18) (.const (.int .i64 0)) 31, none⟩,
⟨some 17, .assign (.tmp 19), none⟩])
(.cond (.tmp 17)
(.seq (.ops [⟨some 20, .move (.tmp 9), none⟩,
⟨some 6, .assign (.const (.slice none 0 0)), none⟩,
⟨some 7, .assign (.tmp 20), none⟩])
.ret)
(.seq (.ops [⟨some 22, .move (.tmp 8), none⟩,
⟨some 23, .nilCheck (.tmp 22), none⟩,
⟨some 24, .fieldAddr 82 (.tmp 23) 3, none⟩,
⟨some 25, .load 3 (.tmp 24), none⟩,
⟨some 26, .binOp .eql 3 (.tmp 25) (.const (.int .i64 0)) 3, none⟩,
⟨some 21, .assign (.tmp 26), none⟩])
(.cond (.tmp 21)
(.seq (.ops [⟨some 6, .assign (.const (.slice none 0 0)), none⟩,
⟨some 7, .assign (.const (.int .i64 6)), none⟩])
.ret)
.skip)))))
(.seq (.draw [⟨some 27, .move (.tmp 8), none⟩,
⟨some 28, .move (.tmp 8), none⟩,
⟨some 29, .nilCheck (.tmp 28), none⟩,
⟨some 30, .fieldAddr 82 (.tmp 29) 2, none⟩,
⟨some 31, .load 3 (.tmp 30), none⟩,
⟨some 32, .nilCheck (.tmp 27), none⟩,
⟨some 33, .fieldAddr 82 (.tmp 32) 1, none⟩,
⟨some 34, .indexAddr 80 (.tmp 33) (.tmp 31), none⟩,
⟨some 35, .load 36 (.tmp 34), none⟩,
⟨some 36, .call ⟨.value (.func 67), #[.tmp 35], #[36]⟩, none⟩,
⟨some 6, .assign (.tmp 36), none⟩,
⟨some 7, .assign (.const (.int .i64 0)), none⟩] [])
.ret))))
theorem ir38_eq : (Try.f38.body.map low, Try.f38.ntmps, Try.f38.results.toList) = (some ir38, 37, [.tmp 6, .tmp 7]) := by kernel_rfl
def ir39_l0 : LC := (.seq (.seq (.ops [⟨some 11, .move (.tmp 5), none⟩,
⟨some 12, .move (.tmp 0), none⟩,
⟨some 13, .call ⟨.builtin .len, #[.tmp 12], #[30]⟩, none⟩,
⟨some 14, .binOp .lss 3 (.tmp 11) (.tmp 13) 3, none⟩])
(.cond (.tmp 14)
.skip
(.exit 0)))
(.seq (.block 1 (.seq (.draw [⟨some 17, .move (.tmp 0), none⟩,
⟨some 18, .move (.tmp 5), none⟩,
⟨some 19, .indexAddr 30 (.tmp 17) (.tmp 18), none⟩,
⟨some 20, .load 3 (.tmp 19), none⟩,
⟨some 21, .move (.tmp 1), none⟩,
⟨some 22, .move (.tmp 5), none⟩,
⟨some 23, .indexAddr 30 (.tmp 21) (.tmp 22), none⟩,
⟨some 24, .load 3 (.tmp 23), none⟩,
⟨some 25, .binOp .neq 3 (.tmp 20) (.tmp 24) 3, none⟩] [])
(.cond (.tmp 25)
(.seq (.ops [⟨some 4, .assign (.const (.bool false)), none⟩])
.ret)
.skip)))
(.ops [⟨some 15, .move (.tmp 5), none⟩,
⟨some 16, .binOp .add 3 (.tmp 15) (.const (.int .i64 1)) 3, none⟩,
⟨some 5, .assign (.tmp 16), none⟩])))
def ir39 : LC := (.seq (.ops [⟨some 4, .assign (.const (.bool false)), none⟩])
(.seq (.seq (.ops [⟨some 6, .move (.tmp 0), none⟩,
⟨some 7, .call ⟨.builtin .len, #[.tmp 6], #[30]⟩, none⟩,
⟨some 8, .move (.tmp 1), none⟩,
⟨some 9, .call ⟨.builtin .len, #[.tmp 8], #[30]⟩, none⟩,
⟨some 10, .binOp .neq 3 (.tmp 7) (.tmp 9) 3, none⟩])
(.cond (.tmp 10)
(.seq (.ops [⟨some 4, .assign (.const (.bool false)), none⟩])
.ret)
.skip))
(.seq (.seq (.ops [⟨some 5, .assign (.const (.int .i64 0)), none⟩])
(.block 0 (.loop ir39_l0)))
(.seq (.ops [⟨some 4, .assign (.const (.bool true)), none⟩])
.ret))))
theorem ir39_eq : (Try.f39.body.map low, Try.f39.ntmps, Try.f39.results.toList) = (some ir39, 26, [.tmp 4]) := by kernel_rfl
def ir40 : LC := (.seq (.ops [⟨some 2, .assign (.const (.slice none 0 0)), none⟩])
(.seq (.ops [⟨some 3, .move (.tmp 0), none⟩,
⟨some 4, .call ⟨.builtin .append, #[.const (.slice none 0 0), .tmp 3], #[22, 22]⟩, none⟩,
⟨some 2, .assign (.tmp 4), none⟩])
.ret))
theorem ir40_eq : (Try.f40.body.map low, Try.f40.ntmps, Try.f40.results.toList) = (some ir40, 5, [.tmp 2]) := by kernel_rfl
def ir41_l0 : LC := (.seq (.seq (.ops [⟨some 18, .move (.tmp 8), none⟩,
⟨some 19, .move (.tmp 0), none⟩,
⟨some 20, .nilCheck (.tmp 19), none⟩,
⟨some 21, .fieldAddr 106 (.tmp 20) 0, none⟩,
⟨some 22, .load 104 (.tmp 21), none⟩,
⟨some 23, .move (.tmp 1), none⟩,
⟨some 24, .indexAddr 104 (.tmp 22) (.tmp 23), none⟩,
⟨some 25, .load 107 (.tmp 24), none⟩,
⟨some 26, .call ⟨.builtin .len, #[.tmp 25], #[107]⟩, none⟩,
⟨some 27, .binOp .lss 3 (.tmp 18) (.tmp 26) 3, none⟩])
(.cond (.tmp 27)
.skip
(.exit 0)))
(.seq (.block 1 (.seq (.ops [⟨some 30, .move (.tmp 0), none⟩,
⟨some 31, .nilCheck (.tmp 30), none⟩,
⟨some 32, .fieldAddr 106 (.tmp 31) 0, none⟩,
⟨some 33, .load 104 (.tmp 32), none⟩,
⟨some 34, .move (.tmp 1), none⟩,
⟨some 35, .indexAddr 104 (.tmp 33) (.tmp 34), none⟩,
⟨some 36, .load 107 (.tmp 35), none⟩,
⟨some 37, .move (.tmp 8), none⟩,
⟨some 38, .indexAddr 107 (.tmp 36) (.tmp 37), none⟩,
⟨some 39, .fieldAddr 109 (.tmp 38) 0, none⟩,
⟨some 40, .load 4 (.tmp 39), none⟩,
⟨some 41, .unOp .not 4 (.tmp 40), none⟩])
(.cond (.tmp 41)
(.seq (.draw [⟨some 42, .move (.tmp 0), none⟩,
⟨some 43, .nilCheck (.tmp 42), none⟩,
⟨some 44, .fieldAddr 106 (.tmp 43) 0, none⟩,
⟨some 45, .load 104 (.tmp 44), none⟩,
⟨some 46, .move (.tmp 1), none⟩,
⟨some 47, .indexAddr 104 (.tmp 45) (.tmp 46), none⟩,
⟨some 48, .load 107 (.tmp 47), none⟩,
⟨some 49, .move (.tmp 8), none⟩,
⟨some 50, .move (.tmp 2), none⟩,
⟨some 51, .call ⟨.value (.func 40), #[.tmp 50], #[22]⟩, none⟩,
⟨some 52, .build 109 #[(0, .const (.bool true)), (1, .tmp 51)], none⟩,
⟨some 53, .indexAddr 107 (.tmp 48) (.tmp 49), none⟩,
⟨none, .store 109 (.tmp 53) (.tmp 52), none⟩] [(0, 9), (1, 9), (2, 9), (3, 9), (4, 9), (5, 9), (6, 9), (7, 9)])
(.seq (.ops [⟨some 54, .move (.tmp 8), none⟩,
⟨some 6, .assign (.tmp 54), none⟩,
⟨some 7, .assign (.const (.int .i64 0)), none⟩])
.ret))
.skip)))
(.ops [⟨some 28, .move (.tmp 8), none⟩,
⟨some 29, .binOp .add 3 (.tmp 28) (.const (.int .i64 1)) 3, none⟩,
⟨some 8, .assign (.tmp 29), none⟩])))
def ir41 : LC := (.seq (.ops [⟨some 6, .assign (.const (.int .i64 0)), none⟩,
⟨some 7, .assign (.const (.int .i64 0)), none⟩])
(.seq (.seq (.ops [⟨some 9, .move (.tmp 0), none⟩,
⟨some 10, .binOp .eql 27 (.tmp 9) (.const (.pointer none)) 27, none⟩])
(.cond (.tmp 10)
(.seq (.ops [⟨some 6, .assign (.const (.int .i64 0)), none⟩,
⟨some 7, .assign (.const (.int .i64 1)), none⟩])
.ret)
.skip))
(.seq (.seq (.ops [⟨some 11, .move (.tmp 0), none⟩,
⟨some 12, .move (.tmp 1), none⟩,
⟨some 13, .call ⟨.value (.func 68), #[.tmp 11, .tmp 12], #[27, 3]⟩, none⟩,
⟨some 14, .unOp .not 4 (.tmp 13), none⟩])
(.cond (.tmp 14)
(.seq (.ops [⟨some 6, .assign (.const (.int .i64 0)), none⟩,
⟨some 7, .assign (.const (.int .i64 2)), none⟩])
.ret)
.skip))
(.seq (.seq (.ops [⟨some 15, .move (.tmp 2), none⟩,
⟨some 16, .call ⟨.value (.func 69), #[.tmp 15], #[22]⟩, none⟩,
⟨some 17, .unOp .not 4 (.tmp 16), none⟩])
(.cond (.tmp 17)
(.seq (.ops [⟨some 6, .assign (.const (.int .i64 0)), none⟩,
⟨some 7, .assign (.const (.int .i64 2)), none⟩])
.ret)
.skip))
(.seq (.seq (.ops [⟨some 8, .assign (.const (.int .i64 0)), none⟩])
(.block 0 (.loop ir41_l0)))
(.seq (.ops [⟨some 6, .assign (.const (.int .i64 0)), none⟩,
⟨some 7, .assign (.const (.int .i64 5)), none⟩])
.ret))))))
theorem ir41_eq : (Try.f41.body.map low, Try.f41.ntmps, Try.f41.results.toList) = (some ir41, 55, [.tmp 6, .tmp 7]) := by kernel_rfl
def ir42_l0 : LC := (.seq (.seq (.ops [⟨some 11, .move (.tmp 5), none⟩,
⟨some 12, .move (.tmp 0), none⟩,
⟨some 13, .call ⟨.builtin .len, #[.tmp 12], #[22]⟩, none⟩,
⟨some 14, .binOp .lss 3 (.tmp 11) (.tmp 13) 3, none⟩])
(.cond (.tmp 14)
.skip
(.exit 0)))
(.seq (.block 1 (.seq (.draw [⟨some 17, .move (.tmp 0), none⟩,
⟨some 18, .move (.tmp 5), none⟩,
⟨some 19, .indexAddr 22 (.tmp 17) (.tmp 18), none⟩,
⟨some 20, .load 79 (.tmp 19), none⟩,
⟨some 21, .move (.tmp 1), none⟩,
⟨some 22, .move (.tmp 5), none⟩,
⟨some 23, .indexAddr 22 (.tmp 21) (.tmp 22), none⟩,
⟨some 24, .load 79 (.tmp 23), none⟩,
⟨some 25, .binOp .neq 79 (.tmp 20) (.tmp 24) 79, none⟩] [])
(.cond (.tmp 25)
(.seq (.ops [⟨some 4, .assign (.const (.bool false)), none⟩])
.ret)
.skip)))
(.ops [⟨some 15, .move (.tmp 5), none⟩,
⟨some 16, .binOp .add 3 (.tmp 15) (.const (.int .i64 1)) 3, none⟩,
⟨some 5, .assign (.tmp 16), none⟩])))
def ir42 : LC := (.seq (.ops [⟨some 4, .assign (.const (.bool false)), none⟩])
(.seq (.seq (.ops [⟨some 6, .move (.tmp 0), none⟩,
⟨some 7, .call ⟨.builtin .len, #[.tmp 6], #[22]⟩, none⟩,
⟨some 8, .move (.tmp 1), none⟩,
⟨some 9, .call ⟨.builtin .len, #[.tmp 8], #[22]⟩, none⟩,
⟨some 10, .binOp .neq 3 (.tmp 7) (.tmp 9) 3, none⟩])
(.cond (.tmp 10)
(.seq (.ops [⟨some 4, .assign (.const (.bool false)), none⟩])
.ret)
.skip))
(.seq (.seq (.ops [⟨some 5, .assign (.const (.int .i64 0)), none⟩])
(.block 0 (.loop ir42_l0)))
(.seq (.ops [⟨some 4, .assign (.const (.bool true)), none⟩])
.ret))))
theorem ir42_eq : (Try.f42.body.map low, Try.f42.ntmps, Try.f42.results.toList) = (some ir42, 26, [.tmp 4]) := by kernel_rfl
def ir43 : LC := (.seq (.ops [⟨some 6, .assign (.const (.int .i64 0)), none⟩,
⟨some 7, .assign (.const (.int .i64 0)), none⟩])
(.seq (.seq (.ops [⟨some 10, .move (.tmp 0), none⟩,
⟨some 11, .move (.tmp 1), none⟩,
⟨some 12, .move (.tmp 2), none⟩,
⟨some 13, .call ⟨.value (.func 70), #[.tmp 10, .tmp 11, .tmp 12], #[27, 3, 3]⟩, none⟩,
⟨some 8, .assign (.tmp 13), none⟩])
(.seq (.ops [⟨some 14, .move (.tmp 8), none⟩,
⟨some 15, .binOp .neq 3 (.tmp 14) (.const (.int .i64 0)) 3, none⟩])
(.cond (.tmp 15)
(.seq (.ops [⟨some 16, .move (.tmp 8), none⟩,
⟨some 6, .assign (.const (.int .i64 0)), none⟩,
⟨some 7, .assign (.tmp 16), none⟩])
.ret)
.skip)))
(.seq (.ops [⟨some 17, .move (.tmp 0), none⟩,
⟨some 18, .nilCheck (.tmp 17), none⟩,
⟨some 19, .fieldAddr 106 (.tmp 18) 0, none⟩,
⟨some 20, .load 104 (.tmp 19), none⟩,
⟨some 21, .move (.tmp 1), none⟩,
⟨some 22, .indexAddr 104 (.tmp 20) (.tmp 21), none⟩,
⟨some 23, .load 107 (.tmp 22), none⟩,
⟨some 24, .move (.tmp 2), none⟩,
⟨some 25, .indexAddr 107 (.tmp 23) (.tmp 24), none⟩,
⟨some 26, .fieldAddr 109 (.tmp 25) 2, none⟩,
⟨some 27, .load 23 (.tmp 26), none⟩,
⟨some 28, .call ⟨.builtin .len, #[.tmp 27], #[23]⟩, none⟩,
⟨some 9, .assign (.tmp 28), none⟩])
(.seq (.ops [⟨some 29, .move (.tmp 0), none⟩,
⟨some 30, .nilCheck (.tmp 29), none⟩,
⟨some 31, .fieldAddr 106 (.tmp 30) 0, none⟩,
⟨some 32, .load 104 (.tmp 31), none⟩,
⟨some 33, .move (.tmp 1), none⟩,
⟨some 34, .indexAddr 104 (.tmp 32) (.tmp 33), none⟩,
⟨some 35, .load 107 (.tmp 34), none⟩,
⟨some 36, .move (.tmp 2), none⟩,
⟨some 37, .build 109 #[], none⟩,
⟨some 38, .indexAddr 107 (.tmp 35) (.tmp 36), none⟩,
⟨none, .store 109 (.tmp 38) (.tmp 37), none⟩])
(.seq (.ops [⟨some 39, .move (.tmp 9), none⟩,
⟨some 6, .assign (.tmp 39), none⟩,
⟨some 7, .assign (.const (.int .i64 0)), none⟩])
.ret)))))
theorem ir43_eq : (Try.f43.body.map low, Try.f43.ntmps, Try.f43.results.toList) = (some ir43, 40, [.tmp 6, .tmp 7]) := by kernel_rfl
def ir44_l0 : LC := (.seq (.seq (.ops [⟨some 22, .move (.tmp 7), none⟩,
⟨some 23, .move (.tmp 22), none⟩,
⟨some 24, .move (.tmp 0), some (23, true)⟩,
⟨some 25, .move (.tmp 6), some (23, true)⟩,
⟨some 26, .call ⟨.value (.func 68), #[.tmp 24, .tmp 25], #[27, 3]⟩, some (23, true)⟩,
⟨some 27, .pick (.tmp 23) (.tmp 26) (.const (.bool false)), none⟩,
⟨some 28, .move (.tmp 27), none⟩,
⟨some 29, .move (.tmp 9), some (28, true)⟩,
⟨some 30, .move (.tmp 0), some (28, true)⟩,
⟨some 31, .nilCheck (.tmp 30), some (28, true)⟩,
⟨some 32, .fieldAddr 106 (.tmp 31) 0, some (28, true)⟩,
⟨some 33, .load 104 (.tmp 32), some (28, true)⟩,
⟨some 34, .move (.tmp 6), some (28, true)⟩,
⟨some 35, .indexAddr 104 (.tmp 33) (.tmp 34), some (28, true)⟩,
⟨some 36, .load 107 (.tmp 35), some (28, true)⟩,
⟨some 37, .call ⟨.builtin .len, #[.tmp 36], #[107]⟩, some (28, true)⟩,
⟨some 38, .binOp .lss 3 (.tmp 29) (.tmp 37) 3, some (28, true)⟩,
⟨some 39, .pick (.tmp 28) (.tmp 38) (.const (.bool false)), none⟩])
(.cond (.tmp 39)
.skip
(.exit 0)))
(.seq (.block 1 (.seq (.ops [⟨some 42, .move (.tmp 0), none⟩,
⟨some 43, .nilCheck (.tmp 42), none⟩,
⟨some 44, .fieldAddr 106 (.tmp 43) 0, none⟩,
⟨some 45, .load 104 (.tmp 44), none⟩,
⟨some 46, .move (.tmp 6), none⟩,
⟨some 47, .indexAddr 104 (.tmp 45) (.tmp 46), none⟩,
⟨some 48, .load 107 (.tmp 47), none⟩,
⟨some 49, .move (.tmp 9), none⟩,
⟨some 50, .indexAddr 107 (.tmp 48) (.tmp 49), none⟩,
⟨some 51, .load 109 (.tmp 50), none⟩,
⟨some 10, .alloc 109, none⟩,
⟨none, .store 109 (.tmp 10) (.tmp 51), none⟩])
(.seq (.seq (.ops [⟨some 52, .fieldAddr 109 (.tmp 10) 0, none⟩,
⟨some 53, .load 4 (.tmp 52), none⟩,
⟨some 54, .unOp .not 4 (.tmp 53), none⟩,
⟨some 55, .move (.tmp 54), none⟩,
⟨some 56, .fieldAddr 109 (.tmp 10) 1, some (55, false)⟩,
⟨some 57, .load 22 (.tmp 56), some (55, false)⟩,
⟨some 58, .move (.tmp 1), some (55, false)⟩,
⟨some 59, .call ⟨.value (.func 71), #[.tmp 57, .tmp 58], #[22, 36]⟩, some (55, false)⟩,
⟨some 60, .unOp .not 4 (.tmp 59), some (55, false)⟩,
⟨some 61, .pick (.tmp 55) (.const (.bool true)) (.tmp 60), none⟩])
(.cond (.tmp 61)
(.exit 1)
.skip))
(.seq (.ops [⟨some 62, .fieldAddr 109 (.tmp 10) 2, none⟩,
⟨some 63, .load 23 (.tmp 62), none⟩,
⟨some 64, .call ⟨.builtin .len, #[.tmp 63], #[23]⟩, none⟩,
⟨some 65, .binOp .eql 3 (.tmp 64) (.const (.int .i64 8)) 3, none⟩,
⟨some 11, .assign (.tmp 65), none⟩])
(.seq (.seq (.ops [⟨some 66, .move (.tmp 11), none⟩])
(.cond (.tmp 66)
(.ops [⟨some 67, .move (.tmp 0), none⟩,
⟨some 68, .nilCheck (.tmp 67), none⟩,
⟨some 69, .fieldAddr 106 (.tmp 68) 0, none⟩,
⟨some 70, .load 104 (.tmp 69), none⟩,
⟨some 71, .move (.tmp 6), none⟩,
⟨some 72, .indexAddr 104 (.tmp 70) (.tmp 71), none⟩,
⟨some 73, .load 107 (.tmp 72), none⟩,
⟨some 74, .move (.tmp 9), none⟩,
⟨some 75, .indexAddr 107 (.tmp 73) (.tmp 74), none⟩,
⟨some 76, .fieldAddr 109 (.tmp 75) 3, none⟩,
⟨some 77, .load 2 (.tmp 76), none⟩,
⟨some 78, .binOp .add 2 (.tmp 77) (.const (.int .i64 1)) 2, none⟩,
⟨some 79, .indexAddr 107 (.tmp 73) (.tmp 74), none⟩,
⟨some 80, .fieldAddr 109 (.tmp 79) 3, none⟩,
⟨none, .store 2 (.tmp 80) (.tmp 78), none⟩])
(.draw [⟨some 81, .move (.tmp 0), none⟩,
⟨some 82, .nilCheck (.tmp 81), none⟩,
⟨some 83, .fieldAddr 106 (.tmp 82) 0, none⟩,
⟨some 84, .load 104 (.tmp 83), none⟩,
⟨some 85, .move (.tmp 6), none⟩,
⟨some 86, .indexAddr 104 (.tmp 84) (.tmp 85), none⟩,
⟨some 87, .load 107 (.tmp 86), none⟩,
⟨some 88, .move (.tmp 9), none⟩,
⟨some 89, .fieldAddr 109 (.tmp 10) 2, none⟩,
⟨some 90, .load 23 (.tmp 89), none⟩,
⟨some 91, .call ⟨.builtin .append, #[.const (.slice none 0 0), .tmp 90], #[23, 23]⟩, none⟩,
⟨some 92, .move (.tmp 1), none⟩,
⟨some 93, .call ⟨.builtin .append, #[.const (.slice none 0 0), .tmp 92], #[36, 36]⟩, none⟩,
⟨some 94, .buildSlice 23 1 #[(0, .tmp 93)], none⟩,
⟨some 95, .call ⟨.builtin .append, #[.tmp 91, .tmp 94], #[23, 23]⟩, none⟩,
⟨some 96, .indexAddr 107 (.tmp 87) (.tmp 88), none⟩,
⟨some 97, .fieldAddr 109 (.tmp 96) 2, none⟩,
⟨none, .store 23 (.tmp 97) (.tmp 95), none⟩] [(0, 10), (1, 10), (2, 10), (3, 10), (4, 10), (5, 10), (6, 10), (7, 10), (10, 11), (0, 12), (1, 12), (2, 12), (3, 12), (4, 12), (5, 12), (6, 12), (7, 12), (0, 13), (1, 13), (2, 13), (3, 13), (4, 13), (5, 13), (6, 13), (7, 13), (0, 14), (1, 14), (2, 14), (3, 14), (4, 14), (5, 14), (6, 14), (7, 14)])))
(.ops [⟨some 98, .move (.tmp 8), none⟩,
⟨some 99, .move (.tmp 9), none⟩,
⟨some 100, .move (.tmp 11), none⟩,
⟨some 101, .build 41 #[(0, .tmp 99), (1, .tmp 100)], none⟩,
⟨some 102, .buildSlice 37 1 #[(0, .tmp 101)], none⟩,
⟨some 103, .call ⟨.builtin .append, #[.tmp 98, .tmp 102], #[37, 37]⟩, none⟩,
⟨some 8, .assign (.tmp 103), none⟩]))))))
(.ops [⟨some 40, .move (.tmp 9), none⟩,
⟨some 41, .binOp .add 3 (.tmp 40) (.const (.int .i64 1)) 3, none⟩,
⟨some 9, .assign (.tmp 41), none⟩])))
def ir44 : LC := (.seq (.ops [⟨some 4, .assign (.const (.slice none 0 0)), none⟩,
⟨some 5, .assign (.const (.int .i64 0)), none⟩])
(.seq (.seq (.ops [⟨some 12, .move (.tmp 0), none⟩,
⟨some 13, .binOp .eql 27 (.tmp 12) (.const (.pointer none)) 27, none⟩])
(.cond (.tmp 13)
(.seq (.ops [⟨some 4, .assign (.const (.slice none 0 0)), none⟩,
⟨some 5, .assign (.const (.int .i64 1)), none⟩])
.ret)
.skip))
(.seq (.seq (.ops [⟨some 14, .move (.tmp 1), none⟩,
⟨some 15, .call ⟨.builtin .len, #[.tmp 14], #[36]⟩, none⟩,
⟨some 16, .binOp .gtr 3 (.tmp 15) (.const (.int .i64 64)) 3, none⟩])
(.cond (.tmp 16)
(.seq (.ops [⟨some 4, .assign (.const (.slice none 0 0)), none⟩,
⟨some 5, .assign (.const (.int .i64 3)), none⟩])
.ret)
.skip))
(.seq (.ops [⟨some 18, .move (.tmp 1), none⟩,
⟨some 19, .call ⟨.value (.func 20), #[.tmp 18], #[36]⟩, none⟩,
⟨some 17, .move (.tmp 19), none⟩,
⟨some 20, .extract (.tmp 17) 0, none⟩,
⟨some 21, .extract (.tmp 17) 1, none⟩,
⟨some 6, .assign (.tmp 20), none⟩,
⟨some 7, .assign (.tmp 21), none⟩])
(.seq (.ops [⟨some 8, .assign (.const (.slice none 0 0)), none⟩])
(.seq (.seq (.ops [⟨some 9, .assign (.const (.int .i64 0)), none⟩])
(.block 0 (.loop ir44_l0)))
(.seq (.ops [⟨some 104, .move (.tmp 8), none⟩,
⟨some 4, .assign (.tmp 104), none⟩,
⟨some 5, .assign (.const (.int .i64 0)), none⟩])
.ret)))))))
theorem ir44_eq : (Try.f44.body.map low, Try.f44.ntmps, Try.f44.results.toList) = (some ir44, 105, [.tmp 4, .tmp 5]) := by kernel_rfl
def ir45 : LC := (.seq (.ops [⟨some 8, .assign (.const (.slice none 0 0)), none⟩,
⟨some 9, .assign (.const (.int .i64 0)), none⟩])
(.seq (.seq (.ops [⟨some 12, .move (.tmp 0), none⟩,
⟨some 13, .move (.tmp 1), none⟩,
⟨some 14, .move (.tmp 2), none⟩,
⟨some 15, .call ⟨.value (.func 70), #[.tmp 12, .tmp 13, .tmp 14], #[27, 3, 3]⟩, none⟩,
⟨some 10, .assign (.tmp 15), none⟩])
(.seq (.ops [⟨some 16, .move (.tmp 10), none⟩,
⟨some 17, .binOp .neq 3 (.tmp 16) (.const (.int .i64 0)) 3, none⟩])
(.cond (.tmp 17)
(.seq (.ops [⟨some 18, .move (.tmp 10), none⟩,
⟨some 8, .assign (.const (.slice none 0 0)), none⟩,
⟨some 9, .assign (.tmp 18), none⟩])
.ret)
.skip)))
(.seq (.seq (.ops [⟨some 19, .move (.tmp 0), none⟩,
⟨some 20, .nilCheck (.tmp 19), none⟩,
⟨some 21, .fieldAddr 106 (.tmp 20) 0, none⟩,
⟨some 22, .load 104 (.tmp 21), none⟩,
⟨some 23, .move (.tmp 1), none⟩,
⟨some 24, .indexAddr 104 (.tmp 22) (.tmp 23), none⟩,
⟨some 25, .load 107 (.tmp 24), none⟩,
⟨some 26, .move (.tmp 2), none⟩,
⟨some 27, .indexAddr 107 (.tmp 25) (.tmp 26), none⟩,
⟨some 28, .fieldAddr 109 (.tmp 27) 2, none⟩,
⟨some 29, .load 23 (.tmp 28), none⟩,
⟨some 30, .call ⟨.builtin .len, #[.tmp 29], #[23]⟩, none⟩,
⟨some 31, .binOp .eql 3 (.tmp 30) (.const (.int .i64 0)) 3, none⟩])
(.cond (.tmp 31)
(.seq (.ops [⟨some 8, .assign (.const (.slice none 0 0)), none⟩,
⟨some 9, .assign (.const (.int .i64 6)), none⟩])
.ret)
.skip))
(.seq (.ops [⟨some 32, .move (.tmp 0), none⟩,
⟨some 33, .nilCheck (.tmp 32), none⟩,
⟨some 34, .fieldAddr 106 (.tmp 33) 0, none⟩,
⟨some 35, .load 104 (.tmp 34), none⟩,
⟨some 36, .move (.tmp 1), none⟩,
⟨some 37, .indexAddr 104 (.tmp 35) (.tmp 36), none⟩,
⟨some 38, .load 107 (.tmp 37), none⟩,
⟨some 39, .move (.tmp 2), none⟩,
⟨some 40, .indexAddr 107 (.tmp 38) (.tmp 39), none⟩,
⟨some 41, .fieldAddr 109 (.tmp 40) 2, none⟩,
⟨some 42, .load 23 (.tmp 41), none⟩,
⟨some 43, .indexAddr 23 (.tmp 42) (.const (.int .i64 0)), none⟩,
⟨some 44, .load 36 (.tmp 43), none⟩,
⟨some 11, .assign (.tmp 44), none⟩])
(.seq (.seq (.ops [⟨some 45, .move (.tmp 3), none⟩,
⟨some 46, .unOp .not 4 (.tmp 45), none⟩])
(.cond (.tmp 46)
(.draw [⟨some 47, .move (.tmp 0), none⟩,
⟨some 48, .nilCheck (.tmp 47), none⟩,
⟨some 49, .fieldAddr 106 (.tmp 48) 0, none⟩,
⟨some 50, .load 104 (.tmp 49), none⟩,
⟨some 51, .move (.tmp 1), none⟩,
⟨some 52, .indexAddr 104 (.tmp 50) (.tmp 51), none⟩,
⟨some 53, .load 107 (.tmp 52), none⟩,
⟨some 54, .move (.tmp 2), none⟩,
⟨some 55, .move (.tmp 0), none⟩,
⟨some 56, .nilCheck (.tmp 55), none⟩,
⟨some 57, .fieldAddr 106 (.tmp 56) 0, none⟩,
⟨some 58, .load 104 (.tmp 57), none⟩,
⟨some 59, .move (.tmp 1), none⟩,
⟨some 60, .indexAddr 104 (.tmp 58) (.tmp 59), none⟩,
⟨some 61, .load 107 (.tmp 60), none⟩,
⟨some 62, .move (.tmp 2), none⟩,
⟨some 63, .indexAddr 107 (.tmp 61) (.tmp 62), none⟩,
⟨some 64, .fieldAddr 109 (.tmp 63) 2, none⟩,
⟨some 65, .load 23 (.tmp 64), none⟩,
⟨some 66, .slice 23 (.tmp 65) (some (.const (.int .i64 1))) none none, none⟩,
⟨some 67, .indexAddr 107 (.tmp 53) (.tmp 54), none⟩,
⟨some 68, .fieldAddr 109 (.tmp 67) 2, none⟩,
⟨none, .store 23 (.tmp 68) (.tmp 66), none⟩] [])
.skip))
(.seq (.ops [⟨some 69, .move (.tmp 11), none⟩,
⟨some 8, .assign (.tmp 69), none⟩,
⟨some 9, .assign (.const (.int .i64 0)), none⟩])
.ret))))))
theorem ir45_eq : (Try.f45.body.map low, Try.f45.ntmps, Try.f45.results.toList) = (some ir45, 70, [.tmp 8, .tmp 9]) := by kernel_rfl
def ir46_l0 : LC := (.seq (.ops [⟨some 14, .binOp .lss 3 (.tmp 13) (.tmp 12) 3, none⟩])
(.seq (.cond (.tmp 14)
.skip
(.exit 0))
(.seq (.block 1 (.seq (.ops [⟨some 15, .move (.tmp 13), none⟩,
⟨some 5, .assign (.tmp 15), none⟩])
(.seq (.draw [⟨some 16, .move (.tmp 0), none⟩,
⟨some 17, .move (.tmp 5), none⟩,
⟨some 18, .indexAddr 30 (.tmp 16) (.tmp 17), none⟩,
⟨some 19, .load 3 (.tmp 18), none⟩,
⟨some 20, .move (.tmp 1), none⟩,
⟨some 21, .move (.tmp 5), none⟩,
⟨some 22, .indexAddr 30 (.tmp 20) (.tmp 21), none⟩,
⟨some 23, .load 3 (.tmp 22), none⟩,
⟨some 24, .binOp .neq 3 (.tmp 19) (.tmp 23) 3, none⟩] [])
(.cond (.tmp 24)
(.seq (.ops [⟨some 4, .assign (.const (.bool false)), none⟩])
.ret)
.skip))))
(.ops [⟨some 25, .binOp .add 3 (.tmp 13) (.const (.int .i64 1)) 3, none⟩,
⟨some 13, .move (.tmp 25), none⟩]))))
def ir46 : LC := (.seq (.ops [⟨some 4, .assign (.const (.bool false)), none⟩])
(.seq (.seq (.ops [⟨some 6, .move (.tmp 0), none⟩,
⟨some 7, .call ⟨.builtin .len, #[.tmp 6], #[30]⟩, none⟩,
⟨some 8, .move (.tmp 1), none⟩,
⟨some 9, .call ⟨.builtin .len, #[.tmp 8], #[30]⟩, none⟩,
⟨some 10, .binOp .neq 3 (.tmp 7) (.tmp 9) 3, none⟩])
(.cond (.tmp 10)
(.seq (.ops [⟨some 4, .assign (.const (.bool false)), none⟩])
.ret)
.skip))
(.seq (.seq (.ops [⟨some 11, .move (.tmp 0), none⟩,
⟨some 12, .call ⟨.builtin .len, #[.tmp 11], #[30]⟩, none⟩,
⟨some 13, .move (.const (.int .i64 0)), none⟩])
(.block 0 (.loop ir46_l0)))
(.seq (.ops [⟨some 4, .assign (.const (.bool true)), none⟩])
.ret))))
theorem ir46_eq : (Try.f46.body.map low, Try.f46.ntmps, Try.f46.results.toList) = (some ir46, 26, [.tmp 4]) := by kernel_rfl
def ir47_l0 : LC := (.seq (.ops [⟨some 18, .next (.tmp 17) false, none⟩,
⟨some 19, .extract (.tmp 18) 0, none⟩])
(.seq (.cond (.tmp 19)
.skip
(.exit 0))
(.block 1 (.seq (.ops [⟨some 20, .entry (.tmp 17), none⟩,
⟨some 21, .extract (.tmp 20) 0, none⟩,
⟨some 22, .extract (.tmp 20) 1, none⟩,
⟨some 7, .alloc 75, none⟩,
⟨none, .store 75 (.tmp 7) (.tmp 21), none⟩,
⟨some 8, .assign (.tmp 22), none⟩])
(.seq (.ops [⟨some 24, .move (.tmp 1), none⟩,
⟨some 25, .load 75 (.tmp 7), none⟩,
⟨some 26, .lookup 66 (.tmp 24) (.tmp 25) true, none⟩,
⟨some 23, .move (.tmp 26), none⟩,
⟨some 27, .extract (.tmp 23) 0, none⟩,
⟨some 28, .extract (.tmp 23) 1, none⟩,
⟨some 9, .assign (.tmp 27), none⟩,
⟨some 10, .assign (.tmp 28), none⟩])
(.seq (.ops [⟨some 29, .move (.tmp 10), none⟩,
⟨some 30, .unOp .not 4 (.tmp 29), none⟩,
⟨some 31, .move (.tmp 30), none⟩,
⟨some 32, .move (.tmp 2), some (31, false)⟩,
⟨some 33, .move (.tmp 8), some (31, false)⟩,
⟨some 34, .move (.tmp 9), some (31, false)⟩,
⟨some 35, .call ⟨.value (.tmp 32), #[.tmp 33, .tmp 34], #[76, 76]⟩, some (31, false)⟩,
⟨some 36, .unOp .not 4 (.tmp 35), some (31, false)⟩,
⟨some 37, .pick (.tmp 31) (.const (.bool true)) (.tmp 36), none⟩])
(.cond (.tmp 37)
(.seq (.ops [⟨some 6, .assign (.const (.bool false)), none⟩])
.ret)
.skip)))))))
def ir47 : LC := (.seq (.ops [⟨some 6, .assign (.const (.bool false)), none⟩])
(.seq (.seq (.ops [⟨some 11, .move (.tmp 0), none⟩,
⟨some 12, .call ⟨.builtin .len, #[.tmp 11], #[66]⟩, none⟩,
⟨some 13, .move (.tmp 1), none⟩,
⟨some 14, .call ⟨.builtin .len, #[.tmp 13], #[66]⟩, none⟩,
⟨some 15, .binOp .neq 3 (.tmp 12) (.tmp 14) 3, none⟩])
(.cond (.tmp 15)
(.seq (.ops [⟨some 6, .assign (.const (.bool false)), none⟩])
.ret)
.skip))
(.seq (.seq (.ops [⟨some 16, .move (.tmp 0), none⟩,
⟨some 17, .range 66 (.tmp 16), none⟩])
(.block 0 (.loop ir47_l0)))
(.seq (.ops [⟨some 6, .assign (.const (.bool true)), none⟩])
.ret))))
theorem ir47_eq : (Try.f47.body.map low, Try.f47.ntmps, Try.f47.results.toList) = (some ir47, 38, [.tmp 6]) := by kernel_rfl
def ir48 : LC := (.seq (.ops [⟨some 4, .assign (.const (.bool false)), none⟩])
(.seq (.draw [⟨some 5, .move (.tmp 0), none⟩,
⟨some 6, .nilCheck (.tmp 5), none⟩,
⟨some 7, .fieldAddr 82 (.tmp 6) 4, none⟩,
⟨some 8, .load 2 (.tmp 7), none⟩,
⟨some 9, .move (.tmp 1), none⟩,
⟨some 10, .nilCheck (.tmp 9), none⟩,
⟨some 11, .fieldAddr 82 (.tmp 10) 4, none⟩,
⟨some 12, .load 2 (.tmp 11), none⟩,
⟨some 13, .binOp .eql 2 (.tmp 8) (.tmp 12) 2, none⟩,
⟨some 14, .move (.tmp 13), none⟩,
⟨some 15, .move (.tmp 0), some (14, true)⟩,
⟨some 16, .nilCheck (.tmp 15), some (14, true)⟩,
⟨some 17, .fieldAddr 82 (.tmp 16) 0, some (14, true)⟩,
⟨some 18, .load 22 (.tmp 17), some (14, true)⟩,
⟨some 19, .move (.tmp 1), some (14, true)⟩,
⟨some 20, .nilCheck (.tmp 19), some (14, true)⟩,
⟨some 21, .fieldAddr 82 (.tmp 20) 0, some (14, true)⟩,
⟨some 22, .load 22 (.tmp 21), some (14, true)⟩,
⟨some 23, .call ⟨.value (.func 49), #[.tmp 18, .tmp 22], #[22, 22]⟩, some (14, true)⟩,
⟨some 24, .pick (.tmp 14) (.tmp 23) (.const (.bool false)), none⟩,
⟨some 25, .move (.tmp 24), none⟩,
⟨some 26, .move (.tmp 0), some (25, true)⟩,
⟨some 27, .call ⟨.value (.func 51), #[.tmp 26], #[76]⟩, some (25, true)⟩,
⟨some 28, .move (.tmp 1), some (25, true)⟩,
⟨some 29, .call ⟨.value (.func 51), #[.tmp 28], #[76]⟩, some (25, true)⟩,
⟨some 30, .call ⟨.value (.func 50), #[.tmp 27, .tmp 29, .func 52], #[23, 23, 102]⟩, some (25, true)⟩,
⟨some 31, .pick (.tmp 25) (.tmp 30) (.const (.bool false)), none⟩,
⟨some 4, .assign (.tmp 31), none⟩] [(22, 23)])
.ret))
theorem ir48_eq : (Try.f48.body.map low, Try.f48.ntmps, Try.f48.results.toList) = (some ir48, 32, [.tmp 4]) := by kernel_rfl
def ir49_l0 : LC := (.seq (.ops [⟨some 14, .binOp .lss 3 (.tmp 13) (.tmp 12) 3, none⟩])
(.seq (.cond (.tmp 14)
.skip
(.exit 0))
(.seq (.block 1 (.seq (.ops [⟨some 15, .move (.tmp 13), none⟩,
⟨some 5, .assign (.tmp 15), none⟩])
(.seq (.draw [⟨some 16, .move (.tmp 0), none⟩,
⟨some 17, .move (.tmp 5), none⟩,
⟨some 18, .indexAddr 22 (.tmp 16) (.tmp 17), none⟩,
⟨some 19, .load 79 (.tmp 18), none⟩,
⟨some 20, .move (.tmp 1), none⟩,
⟨some 21, .move (.tmp 5), none⟩,
⟨some 22, .indexAddr 22 (.tmp 20) (.tmp 21), none⟩,
⟨some 23, .load 79 (.tmp 22), none⟩,
⟨some 24, .binOp .neq 79 (.tmp 19) (.tmp 23) 79, none⟩] [])
(.cond (.tmp 24)
(.seq (.ops [⟨some 4, .assign (.const (.bool false)), none⟩])
.ret)
.skip))))
(.ops [⟨some 25, .binOp .add 3 (.tmp 13) (.const (.int .i64 1)) 3, none⟩,
⟨some 13, .move (.tmp 25), none⟩]))))
def ir49 : LC := (.seq (.ops [⟨some 4, .assign (.const (.bool false)), none⟩])
(.seq (.seq (.ops [⟨some 6, .move (.tmp 0), none⟩,
⟨some 7, .call ⟨.builtin .len, #[.tmp 6], #[22]⟩, none⟩,
⟨some 8, .move (.tmp 1), none⟩,
⟨some 9, .call ⟨.builtin .len, #[.tmp 8], #[22]⟩, none⟩,
⟨some 10, .binOp .neq 3 (.tmp 7) (.tmp 9) 3, none⟩])
(.cond (.tmp 10)
(.seq (.ops [⟨some 4, .assign (.const (.bool false)), none⟩])
.ret)
.skip))
(.seq (.seq (.ops [⟨some 11, .move (.tmp 0), none⟩,
⟨some 12, .call ⟨.builtin .len, #[.tmp 11], #[22]⟩, none⟩,
⟨some 13, .move (.const (.int .i64 0)), none⟩])
(.block 0 (.loop ir49_l0)))
(.seq (.ops [⟨some 4, .assign (.const (.bool true)), none⟩])
.ret))))
theorem ir49_eq : (Try.f49.body.map low, Try.f49.ntmps, Try.f49.results.toList) = (some ir49, 26, [.tmp 4]) := by kernel_rfl
def ir50_l0 : LC := (.seq (.ops [⟨some 18, .binOp .lss 3 (.tmp 17) (.tmp 16) 3, none⟩])
(.seq (.cond (.tmp 18)
.skip
(.exit 0))
(.seq (.block 1 (.seq (.ops [⟨some 19, .move (.tmp 17), none⟩,
⟨some 20, .indexAddr 23 (.tmp 15) (.tmp 17), none⟩,
⟨some 21, .load 36 (.tmp 20), none⟩,
⟨some 7, .assign (.tmp 19), none⟩,
⟨some 8, .assign (.tmp 21), none⟩])
(.seq (.ops [⟨some 22, .move (.tmp 1), none⟩,
⟨some 23, .move (.tmp 7), none⟩,
⟨some 24, .indexAddr 23 (.tmp 22) (.tmp 23), none⟩,
⟨some 25, .load 36 (.tmp 24), none⟩,
⟨some 9, .assign (.tmp 25), none⟩])
(.seq (.ops [⟨some 26, .move (.tmp 2), none⟩,
⟨some 27, .move (.tmp 8), none⟩,
⟨some 28, .move (.tmp 9), none⟩,
⟨some 29, .call ⟨.value (.tmp 26), #[.tmp 27, .tmp 28], #[36, 36]⟩, none⟩,
⟨some 30, .unOp .not 4 (.tmp 29), none⟩])
(.cond (.tmp 30)
(.seq (.ops [⟨some 6, .assign (.const (.bool false)), none⟩])
.ret)
.skip)))))
(.ops [⟨some 31, .binOp .add 3 (.tmp 17) (.const (.int .i64 1)) 3, none⟩,
⟨some 17, .move (.tmp 31), none⟩]))))
def ir50 : LC := (.seq (.ops [⟨some 6, .assign (.const (.bool false)), none⟩])
(.seq (.seq (.ops [⟨some 10, .move (.tmp 0), none⟩,
⟨some 11, .call ⟨.builtin .len, #[.tmp 10], #[23]⟩, none⟩,
⟨some 12, .move (.tmp 1), none⟩,
⟨some 13, .call ⟨.builtin .len, #[.tmp 12], #[23]⟩, none⟩,
⟨some 14, .binOp .neq 3 (.tmp 11) (.tmp 13) 3, none⟩])
(.cond (.tmp 14)
(.seq (.ops [⟨some 6, .assign (.const (.bool false)), none⟩])
.ret)
.skip))
(.seq (.seq (.ops [⟨some 15, .move (.tmp 0), none⟩,
⟨some 16, .call ⟨.builtin .len, #[.tmp 15], #[23]⟩, none⟩,
⟨some 17, .move (.const (.int .i64 0)), none⟩])
(.block 0 (.loop ir50_l0)))
(.seq (.ops [⟨some 6, .assign (.const (.bool true)), none⟩])
.ret))))
theorem ir50_eq : (Try.f50.body.map low, Try.f50.ntmps, Try.f50.results.toList) = (some ir50, 32, [.tmp 6]) := by kernel_rfl
def ir51_l0 : LC := (.seq (.ops [⟨some 10, .binOp .lss 3 (.tmp 9) (.tmp 8) 3, none⟩])
(.seq (.cond (.tmp 10)
.skip
(.exit 0))
(.seq (.block 1 (.seq (.ops [⟨some 11, .move (.tmp 9), none⟩,
⟨some 4, .assign (.tmp 11), none⟩])
(.draw [⟨some 12, .move (.tmp 3), none⟩,
⟨some 13, .move (.tmp 0), none⟩,
⟨some 14, .move (.tmp 0), none⟩,
⟨some 15, .nilCheck (.tmp 14), none⟩,
⟨some 16, .fieldAddr 82 (.tmp 15) 2, none⟩,
⟨some 17, .load 3 (.tmp 16), none⟩,
⟨some 18, .move (.tmp 4), none⟩,
⟨some 19, .binOp .add 3 (.tmp 17) (.tmp 18) 3, none⟩,
⟨some 20, .binOp .rem 3 (.tmp 19) (.const (.int .i64 8)) 3, none⟩,
⟨some 21, .nilCheck (.tmp 13), none⟩,
⟨some 22, .fieldAddr 82 (.tmp 21) 1, none⟩,
⟨some 23, .indexAddr 80 (.tmp 22) (.tmp 20), none⟩,
⟨some 24, .load 36 (.tmp 23), none⟩,
⟨some 25, .call ⟨.value (.func 67), #[.tmp 24], #[36]⟩, none⟩,
⟨some 26, .buildSlice 23 1 #[(0, .tmp 25)], none⟩,
⟨some 27, .call ⟨.builtin .append, #[.tmp 12, .tmp 26], #[23, 23]⟩, none⟩,
⟨some 3, .assign (.tmp 27), none⟩] [(0, 13), (0, 14)])))
(.ops [⟨some 28, .binOp .add 3 (.tmp 9) (.const (.int .i64 1)) 3, none⟩,
⟨some 9, .move (.tmp 28), none⟩]))))
def ir51 : LC := (.seq (.ops [⟨some 2, .assign (.const (.slice none 0 0)), none⟩])
(.seq (.ops [⟨some 3, .assign (.const (.slice none 0 0)), none⟩])
(.seq (.seq (.ops [⟨some 5, .move (.tmp 0), none⟩,
⟨some 6, .nilCheck (.tmp 5), none⟩,
⟨some 7, .fieldAddr 82 (.tmp 6) 3, none⟩,
⟨some 8, .load 3 (.tmp 7), none⟩,
⟨some 9, .move (.const (.int .i64 0)), none⟩])
(.block 0 (.loop ir51_l0)))
(.seq (.ops [⟨some 29, .move (.tmp 3), none⟩,
⟨some 2, .assign (.tmp 29), none⟩])
.ret))))
theorem ir51_eq : (Try.f51.body.map low, Try.f51.ntmps, Try.f51.results.toList) = (some ir51, 30, [.tmp 2]) := by kernel_rfl
def ir52 : LC := (.seq (.ops [⟨some 4, .assign (.const (.bool false)), none⟩])
(.seq (.ops [⟨some 5, .move (.tmp 0), none⟩,
⟨some 6, .convert 36 9 (.tmp 5), none⟩,
⟨some 7, .move (.tmp 1), none⟩,
⟨some 8, .convert 36 9 (.tmp 7), none⟩,
⟨some 9, .binOp .eql 9 (.tmp 6) (.tmp 8) 9, none⟩,
⟨some 4, .assign (.tmp 9), none⟩])
.ret))
theorem ir52_eq : (Try.f52.body.map low, Try.f52.ntmps, Try.f52.results.toList) = (some ir52, 10, [.tmp 4]) := by kernel_rfl
def ir54 : LC := (.seq (.ops [⟨some 4, .assign (.const (.int .i64 0)), none⟩])
(.seq (.seq (.ops [⟨some 5, .move (.tmp 0), none⟩,
⟨some 6, .move (.tmp 1), none⟩,
⟨some 7, .call ⟨.value (.func 30), #[.tmp 5, .tmp 6], #[26, 3]⟩, none⟩,
⟨some 8, .binOp .neq 31 (.tmp 7) (.const (.int .i64 0)) 31, none⟩])
(.cond (.tmp 8)
(.seq (.ops [⟨some 4, .assign (.const (.int .i64 0)), none⟩])
.ret)
.skip))
(.seq (.ops [⟨some 9, .move (.tmp 0), none⟩,
⟨some 10, .nilCheck (.tmp 9), none⟩,
⟨some 11, .fieldAddr 68 (.tmp 10) 0, none⟩,
⟨some 12, .load 30 (.tmp 11), none⟩,
⟨some 13, .move (.tmp 1), none⟩,
⟨some 14, .indexAddr 30 (.tmp 12) (.tmp 13), none⟩,
⟨some 15, .load 3 (.tmp 14), none⟩,
⟨some 4, .assign (.tmp 15), none⟩])
.ret)))
theorem ir54_eq : (Try.f54.body.map low, Try.f54.ntmps, Try.f54.results.toList) = (some ir54, 16, [.tmp 4]) := by kernel_rfl
def ir55 : LC := (.seq (.ops [⟨some 4, .assign (.const (.int .i64 0)), none⟩])
(.seq (.seq (.ops [⟨some 5, .move (.tmp 0), none⟩,
⟨some 6, .move (.tmp 1), none⟩,
⟨some 7, .call ⟨.value (.func 68), #[.tmp 5, .tmp 6], #[27, 3]⟩, none⟩,
⟨some 8, .unOp .not 4 (.tmp 7), none⟩])
(.cond (.tmp 8)
(.seq (.ops [⟨some 4, .assign (.const (.int .i64 0)), none⟩])
.ret)
.skip))
(.seq (.ops [⟨some 9, .move (.tmp 0), none⟩,
⟨some 10, .nilCheck (.tmp 9), none⟩,
⟨some 11, .fieldAddr 106 (.tmp 10) 0, none⟩,
⟨some 12, .load 104 (.tmp 11), none⟩,
⟨some 13, .move (.tmp 1), none⟩,
⟨some 14, .indexAddr 104 (.tmp 12) (.tmp 13), none⟩,
⟨some 15, .load 107 (.tmp 14), none⟩,
⟨some 16, .call ⟨.builtin .len, #[.tmp 15], #[107]⟩, none⟩,
⟨some 4, .assign (.tmp 16), none⟩])
.ret)))
theorem ir55_eq : (Try.f55.body.map low, Try.f55.ntmps, Try.f55.results.toList) = (some ir55, 17, [.tmp 4]) := by kernel_rfl
def ir56_l0 : LC := (.seq (.seq (.ops [⟨some 7, .move (.tmp 0), none⟩,
⟨some 8, .move (.tmp 1), none⟩,
⟨some 9, .call ⟨.value (.func 68), #[.tmp 7, .tmp 8], #[27, 3]⟩, none⟩,
⟨some 10, .move (.tmp 9), none⟩,
⟨some 11, .move (.tmp 6), some (10, true)⟩,
⟨some 12, .move (.tmp 0), some (10, true)⟩,
⟨some 13, .nilCheck (.tmp 12), some (10, true)⟩,
⟨some 14, .fieldAddr 106 (.tmp 13) 0, some (10, true)⟩,
⟨some 15, .load 104 (.tmp 14), some (10, true)⟩,
⟨some 16, .move (.tmp 1), some (10, true)⟩,
⟨some 17, .indexAddr 104 (.tmp 15) (.tmp 16), some (10, true)⟩,
⟨some 18, .load 107 (.tmp 17), some (10, true)⟩,
⟨some 19, .call ⟨.builtin .len, #[.tmp 18], #[107]⟩, some (10, true)⟩,
⟨some 20, .binOp .lss 3 (.tmp 11) (.tmp 19) 3, some (10, true)⟩,
⟨some 21, .pick (.tmp 10) (.tmp 20) (.const (.bool false)), none⟩])
(.cond (.tmp 21)
.skip
(.exit 0)))
(.seq (.block 1 (.seq (.ops [⟨some 24, .move (.tmp 0), none⟩,
⟨some 25, .nilCheck (.tmp 24), none⟩,
⟨some 26, .fieldAddr 106 (.tmp 25) 0, none⟩,
⟨some 27, .load 104 (.tmp 26), none⟩,
⟨some 28, .move (.tmp 1), none⟩,
⟨some 29, .indexAddr 104 (.tmp 27) (.tmp 28), none⟩,
⟨some 30, .load 107 (.tmp 29), none⟩,
⟨some 31, .move (.tmp 6), none⟩,
⟨some 32, .indexAddr 107 (.tmp 30) (.tmp 31), none⟩,
⟨some 33, .fieldAddr 109 (.tmp 32) 0, none⟩,
⟨some 34, .load 4 (.tmp 33), none⟩])
(.cond (.tmp 34)
(.ops [⟨some 35, .move (.tmp 5), none⟩,
⟨some 36, .move (.tmp 6), none⟩,
⟨some 37, .buildSlice 30 1 #[(0, .tmp 36)], none⟩,
⟨some 38, .call ⟨.builtin .append, #[.tmp 35, .tmp 37], #[30, 30]⟩, none⟩,
⟨some 5, .assign (.tmp 38), none⟩])
.skip)))
(.ops [⟨some 22, .move (.tmp 6), none⟩,
⟨some 23, .binOp .add 3 (.tmp 22) (.const (.int .i64 1)) 3, none⟩,
⟨some 6, .assign (.tmp 23), none⟩])))
def ir56 : LC := (.seq (.ops [⟨some 4, .assign (.const (.slice none 0 0)), none⟩])
(.seq (.ops [⟨some 5, .assign (.const (.slice none 0 0)), none⟩])
(.seq (.seq (.ops [⟨some 6, .assign (.const (.int .i64 0)), none⟩])
(.block 0 (.loop ir56_l0)))
(.seq (.ops [⟨some 39, .move (.tmp 5), none⟩,
⟨some 4, .assign (.tmp 39), none⟩])
.ret))))
theorem ir56_eq : (Try.f56.body.map low, Try.f56.ntmps, Try.f56.results.toList) = (some ir56, 40, [.tmp 4]) := by kernel_rfl
def ir57 : LC := (.seq (.ops [⟨some 6, .alloc 109, none⟩,
⟨some 7, .assign (.const (.bool false)), none⟩])
(.seq (.seq (.ops [⟨some 8, .move (.tmp 0), none⟩,
⟨some 9, .move (.tmp 1), none⟩,
⟨some 10, .move (.tmp 2), none⟩,
⟨some 11, .call ⟨.value (.func 70), #[.tmp 8, .tmp 9, .tmp 10], #[27, 3, 3]⟩, none⟩,
⟨some 12, .binOp .neq 3 (.tmp 11) (.const (.int .i64 0)) 3, none⟩])
(.cond (.tmp 12)
(.seq (.ops [⟨some 13, .build 109 #[], none⟩,
⟨none, .store 109 (.tmp 6) (.tmp 13), none⟩,
⟨some 7, .assign (.const (.bool false)), none⟩])
.ret)
.skip))
(.seq (.ops [⟨some 14, .move (.tmp 0), none⟩,
⟨some 15, .nilCheck (.tmp 14), none⟩,
⟨some 16, .fieldAddr 106 (.tmp 15) 0, none⟩,
⟨some 17, .load 104 (.tmp 16), none⟩,
⟨some 18, .move (.tmp 1), none⟩,
⟨some 19, .indexAddr 104 (.tmp 17) (.tmp 18), none⟩,
⟨some 20, .load 107 (.tmp 19), none⟩,
⟨some 21, .move (.tmp 2), none⟩,
⟨some 22, .indexAddr 107 (.tmp 20) (.tmp 21), none⟩,
⟨some 23, .load 109 (.tmp 22), none⟩,
⟨none, .store 109 (.tmp 6) (.tmp 23), none⟩,
⟨some 7, .assign (.const (.bool true)), none⟩])
.ret)))
theorem ir57_eq : (Try.f57.body.map low, Try.f57.ntmps, Try.f57.results.toList) = (some ir57, 24, [.cell 6 109, .tmp 7]) := by kernel_rfl
def ir58 : LC := (.seq (.ops [⟨some 6, .assign (.const (.slice none 0 0)), none⟩,
⟨some 7, .assign (.const (.bool false)), none⟩])
(.seq (.ops [⟨some 11, .move (.tmp 0), none⟩,
⟨some 12, .move (.tmp 1), none⟩,
⟨some 13, .move (.tmp 2), none⟩,
⟨some 14, .call ⟨.value (.func 37), #[.tmp 11, .tmp 12, .tmp 13], #[26, 3, 3]⟩, none⟩,
⟨some 10, .move (.tmp 14), none⟩,
⟨some 15, .extract (.tmp 10) 0, none⟩,
⟨some 16, .extract (.tmp 10) 1, none⟩,
⟨some 8, .assign (.tmp 15), none⟩,
⟨some 9, .assign (.tmp 16), none⟩])
(.seq (.seq (.ops [⟨some 17, .move (.tmp 9), none⟩,
⟨some 18, .binOp .neq 31 (.tmp 17) (.const (.int .i64 0)) 31, none⟩])
(.cond (.tmp 18)
(.seq (.ops [⟨some 6, .assign (.const (.slice none 0 0)), none⟩,
⟨some 7, .assign (.const (.bool false)), none⟩])
.ret)
.skip))
(.seq (.ops [⟨some 19, .move (.tmp 8), none⟩,
⟨some 20, .nilCheck (.tmp 19), none⟩,
⟨some 21, .fieldAddr 82 (.tmp 20) 0, none⟩,
⟨some 22, .load 22 (.tmp 21), none⟩,
⟨some 23, .call ⟨.value (.func 32), #[.tmp 22], #[22]⟩, none⟩,
⟨some 6, .assign (.tmp 23), none⟩,
⟨some 7, .assign (.const (.bool true)), none⟩])
.ret))))
theorem ir58_eq : (Try.f58.body.map low, Try.f58.ntmps, Try.f58.results.toList) = (some ir58, 24, [.tmp 6, .tmp 7]) := by kernel_rfl
noncomputable def rc59 (i : Nat) : Code × Code := (((Try.f59.body.map rangesOf).getD [])[i]?).getD (.skip, .skip)
noncomputable def ir59_l0 : LC := (.seq (.seq (.ops [⟨some 49, .move (.tmp 16), none⟩,
⟨some 50, .move (.tmp 15), none⟩,
⟨some 51, .call ⟨.builtin .len, #[.tmp 50], #[36]⟩, none⟩,
⟨some 52, .binOp .lss 3 (.tmp 49) (.tmp 51) 3, none⟩])
(.cond (.tmp 52)
.skip
(.exit 4)))
(.seq (.block 5 (.ops [⟨some 55, .move (.tmp 15), none⟩,
⟨some 56, .move (.tmp 16), none⟩,
⟨some 57, .indexAddr 36 (.tmp 55) (.tmp 56), none⟩,
⟨none, .store 5 (.tmp 57) (.const (.int .u8 102)), none⟩]))
(.ops [⟨some 53, .move (.tmp 16), none⟩,
⟨some 54, .binOp .add 3 (.tmp 53) (.const (.int .i64 1)) 3, none⟩,
⟨some 16, .assign (.tmp 54), none⟩])))
noncomputable def ir59_l1 : LC := (.seq (.seq (.ops [⟨some 23, .load 3 (.tmp 12), none⟩,
⟨some 24, .binOp .lss 3 (.tmp 23) (.const (.int .i64 2)) 3, none⟩])
(.cond (.tmp 24)
.skip
(.exit 0)))
(.seq (.block 1 (.seq (.ops [⟨some 13, .alloc 3, none⟩,
⟨none, .store 3 (.tmp 13) (.const (.int .i64 0)), none⟩])
(.seq (.seq (.ops [⟨some 27, .move (.tmp 11), none⟩])
(.block 2 (.range (.tmp 27) #[28, 29] (rc59 0).1 (rc59 0).2)))
(.seq (.ops [⟨some 67, .load 3 (.tmp 12), none⟩,
⟨some 68, .binOp .eql 3 (.tmp 67) (.const (.int .i64 1)) 3, none⟩,
⟨some 69, .move (.tmp 68), none⟩,
⟨some 70, .load 3 (.tmp 13), some (69, true)⟩,
⟨some 71, .load 23 (.tmp 8), some (69, true)⟩,
⟨some 72, .call ⟨.builtin .len, #[.tmp 71], #[23]⟩, some (69, true)⟩,
⟨some 73, .binOp .neq 3 (.tmp 70) (.tmp 72) 3, some (69, true)⟩,
⟨some 74, .pick (.tmp 69) (.tmp 73) (.const (.bool false)), none⟩,
⟨some 75, .move (.tmp 74), none⟩,
⟨some 76, .load 3 (.tmp 12), some (75, false)⟩,
⟨some 77, .binOp .eql 3 (.tmp 76) (.const (.int .i64 0)) 3, some (75, false)⟩,
⟨some 78, .move (.tmp 77), some (75, false)⟩,
⟨some 79, .load 3 (.tmp 13), some (78, true)⟩,
⟨some 80, .load 23 (.tmp 8), some (78, true)⟩,
⟨some 81, .call ⟨.builtin .len, #[.tmp 80], #[23]⟩, some (78, true)⟩,
⟨some 82, .binOp .neq 3 (.tmp 79) (.tmp 81) 3, some (78, true)⟩,
⟨some 83, .pick (.tmp 78) (.tmp 82) (.const (.bool false)), some (75, false)⟩,
⟨some 84, .move (.tmp 83), some (75, false)⟩,
⟨some 85, .load 3 (.tmp 13), some (84, true)⟩,
⟨some 86, .load 3 (.tmp 9), some (84, true)⟩,
⟨some 87, .binOp .neq 3 (.tmp 85) (.tmp 86) 3, some (84, true)⟩,
⟨some 88, .pick (.tmp 84) (.tmp 87) (.const (.bool false)), some (75, false)⟩,
⟨some 89, .pick (.tmp 75) (.const (.bool true)) (.tmp 88), none⟩])
(.cond (.tmp 89)
(.seq (.ops [⟨none, .store 4 (.tmp 10) (.const (.bool false)), none⟩])
.ret)
.skip)))))
(.seq (.seq (.ops [⟨some 90, .load 3 (.tmp 12), none⟩])
(.ops [⟨some 12, .alloc 3, none⟩,
⟨none, .store 3 (.tmp 12) (.tmp 90), none⟩]))
(.ops [⟨some 25, .load 3 (.tmp 12), none⟩,
⟨some 26, .binOp .add 3 (.tmp 25) (.const (.int .i64 1)) 3, none⟩,
⟨none, .store 3 (.tmp 12) (.tmp 26), none⟩]))))
noncomputable def ir59_a0 : LC := (.seq (.ops [⟨some 14, .assign (.tmp 28), none⟩])
(.ops [⟨some 15, .assign (.tmp 29), none⟩]))
noncomputable def ir59_b0 : LC := (.block 3 (.seq (.seq (.draw [⟨some 30, .load 3 (.tmp 13), none⟩,
⟨some 31, .load 23 (.tmp 8), none⟩,
⟨some 32, .call ⟨.builtin .len, #[.tmp 31], #[23]⟩, none⟩,
⟨some 33, .binOp .geq 3 (.tmp 30) (.tmp 32) 3, none⟩,
⟨some 34, .move (.tmp 33), none⟩,
⟨some 35, .move (.tmp 14), some (34, false)⟩,
⟨some 36, .load 3 (.tmp 13), some (34, false)⟩,
⟨some 37, .binOp .neq 3 (.tmp 35) (.tmp 36) 3, some (34, false)⟩,
⟨some 38, .pick (.tmp 34) (.const (.bool true)) (.tmp 37), none⟩,
⟨some 39, .move (.tmp 38), none⟩,
⟨some 40, .move (.tmp 15), some (39, false)⟩,
⟨some 41, .convert 36 9 (.tmp 40), some (39, false)⟩,
⟨some 42, .load 23 (.tmp 8), some (39, false)⟩,
⟨some 43, .load 3 (.tmp 13), some (39, false)⟩,
⟨some 44, .indexAddr 23 (.tmp 42) (.tmp 43), some (39, false)⟩,
⟨some 45, .load 36 (.tmp 44), some (39, false)⟩,
⟨some 46, .convert 36 9 (.tmp 45), some (39, false)⟩,
⟨some 47, .binOp .neq 9 (.tmp 41) (.tmp 46) 9, some (39, false)⟩,
⟨some 48, .pick (.tmp 39) (.const (.bool true)) (.tmp 47), none⟩] [])
(.cond (.tmp 48)
(.seq (.ops [⟨none, .store 4 (.tmp 10) (.const (.bool false)), none⟩])
.ret)
.skip))
(.seq (.seq (.ops [⟨some 16, .assign (.const (.int .i64 0)), none⟩])
(.block 4 (.loop ir59_l0)))
(.seq (.ops [⟨some 58, .load 3 (.tmp 13), none⟩,
⟨some 59, .binOp .add 3 (.tmp 58) (.const (.int .i64 1)) 3, none⟩,
⟨none, .store 3 (.tmp 13) (.tmp 59), none⟩])
(.seq (.ops [⟨some 60, .load 3 (.tmp 12), none⟩,
⟨some 61, .binOp .eql 3 (.tmp 60) (.const (.int .i64 0)) 3, none⟩,
⟨some 62, .move (.tmp 61), none⟩,
⟨some 63, .load 3 (.tmp 13), some (62, true)⟩,
⟨some 64, .load 3 (.tmp 9), some (62, true)⟩,
⟨some 65, .binOp .eql 3 (.tmp 63) (.tmp 64) 3, some (62, true)⟩,
⟨some 66, .pick (.tmp 62) (.tmp 65) (.const (.bool false)), none⟩])
(.cond (.tmp 66)
(.exit 2)
.skip))))))
theorem ir59_a0_eq : low (rc59 0).1 = ir59_a0 := by kernel_rfl
theorem ir59_b0_eq : low (rc59 0).2 = ir59_b0 := by kernel_rfl
noncomputable def ir59 : LC := (.seq (.ops [⟨some 8, .box 23 (.tmp 3), none⟩,
⟨some 9, .box 3 (.tmp 4), none⟩,
⟨some 10, .alloc 4, none⟩])
(.seq (.ops [⟨some 17, .move (.tmp 0), none⟩,
⟨some 18, .move (.tmp 1), none⟩,
⟨some 19, .move (.tmp 2), none⟩,
⟨some 20, .call ⟨.value (.func 72), #[.tmp 17, .tmp 18, .tmp 19], #[26, 3, 3]⟩, none⟩,
⟨some 11, .assign (.tmp 20), none⟩])
(.seq (.seq (.ops [⟨some 21, .move (.tmp 11), none⟩,
⟨some 22, .binOp .eql 85 (.tmp 21) (.const .nilFunc) 85, none⟩])
(.cond (.tmp 22)
(.seq (.ops [⟨none, .store 4 (.tmp 10) (.const (.bool false)), none⟩])
.ret)
.skip))
(.seq (.seq (.ops [⟨some 12, .alloc 3, none⟩,
⟨none, .store 3 (.tmp 12) (.const (.int .i64 0)), none⟩])
(.block 0 (.loop ir59_l1)))
(.seq (.ops [⟨none, .store 4 (.tmp 10) (.const (.bool true)), none⟩])
.ret)))))
theorem ir59_eq : (Try.f59.body.map low, Try.f59.ntmps, Try.f59.results.toList) = (some ir59, 91, [.cell 10 4]) := by kernel_rfl
def ir60 : LC := (.seq (.ops [⟨some 2, .assign (.const (.slice none 0 0)), none⟩])
(.seq (.seq (.ops [⟨some 3, .move (.tmp 0), none⟩,
⟨some 4, .binOp .eql 30 (.tmp 3) (.const (.slice none 0 0)) 30, none⟩])
(.cond (.tmp 4)
(.seq (.ops [⟨some 2, .assign (.const (.slice none 0 0)), none⟩])
.ret)
.skip))
(.seq (.ops [⟨some 5, .buildSlice 30 0 #[], none⟩,
⟨some 6, .move (.tmp 0), none⟩,
⟨some 7, .call ⟨.builtin .append, #[.tmp 5, .tmp 6], #[30, 30]⟩, none⟩,
⟨some 2, .assign (.tmp 7), none⟩])
.ret)))
theorem ir60_eq : (Try.f60.body.map low, Try.f60.ntmps, Try.f60.results.toList) = (some ir60, 8, [.tmp 2]) := by kernel_rfl
def ir61 : LC := (.seq (.ops [⟨some 1, .box 66 (.tmp 0), none⟩,
⟨some 2, .assign (.const .nilFunc), none⟩])
(.seq (.ops [⟨some 3, .makeFunc (Fn.func 73) #[] #[.tmp 1], none⟩,
⟨some 2, .assign (.tmp 3), none⟩])
.ret))
theorem ir61_eq : (Try.f61.body.map low, Try.f61.ntmps, Try.f61.results.toList) = (some ir61, 4, [.tmp 2]) := by kernel_rfl
def ir63 : LC := (.seq (.ops [⟨some 2, .assign (.const (.slice none 0 0)), none⟩])
(.seq (.seq (.ops [⟨some 3, .move (.tmp 0), none⟩,
⟨some 4, .binOp .eql 36 (.tmp 3) (.const (.slice none 0 0)) 36, none⟩])
(.cond (.tmp 4)
(.seq (.ops [⟨some 2, .assign (.const (.slice none 0 0)), none⟩])
.ret)
.skip))
(.seq (.ops [⟨some 5, .buildSlice 36 0 #[], none⟩,
⟨some 6, .move (.tmp 0), none⟩,
⟨some 7, .call ⟨.builtin .append, #[.tmp 5, .tmp 6], #[36, 36]⟩, none⟩,
⟨some 2, .assign (.tmp 7), none⟩])
.ret)))
theorem ir63_eq : (Try.f63.body.map low, Try.f63.ntmps, Try.f63.results.toList) = (some ir63, 8, [.tmp 2]) := by kernel_rfl
noncomputable def rc64 (i : Nat) : Code × Code := (((Try.f64.body.map rangesOf).getD [])[i]?).getD (.skip, .skip)
noncomputable def ir64_a0 : LC := (.seq (.ops [⟨some 4, .assign (.tmp 8), none⟩])
(.ops [⟨some 5, .assign (.tmp 9), none⟩]))
noncomputable def ir64_b0 : LC := (.block 1 (.seq (.draw [⟨some 10, .load 22 (.tmp 2), none⟩,
⟨some 11, .move (.tmp 5), none⟩,
⟨some 12, .call ⟨.value (.func 66), #[.tmp 10, .tmp 11], #[22, 36]⟩, none⟩,
⟨some 13, .move (.tmp 12), none⟩,
⟨some 14, .load 124 (.tmp 3), some (13, true)⟩,
⟨some 15, .move (.tmp 4), some (13, true)⟩,
⟨some 16, .move (.tmp 5), some (13, true)⟩,
⟨some 17, .call ⟨.value (.func 63), #[.tmp 16], #[36]⟩, some (13, true)⟩,
⟨some 18, .call ⟨.value (.tmp 14), #[.tmp 15, .tmp 17], #[3, 36]⟩, some (13, true)⟩,
⟨some 19, .unOp .not 4 (.tmp 18), some (13, true)⟩,
⟨some 20, .pick (.tmp 13) (.tmp 19) (.const (.bool false)), none⟩] [(4, 7), (5, 7)])
(.cond (.tmp 20)
.ret
.skip)))
theorem ir64_a0_eq : low (rc64 0).1 = ir64_a0 := by kernel_rfl
theorem ir64_b0_eq : low (rc64 0).2 = ir64_b0 := by kernel_rfl
noncomputable def ir64 : LC := (.seq (.ops [⟨some 3, .box 124 (.tmp 0), none⟩])
(.seq (.ops [⟨some 6, .load 23 (.tmp 1), none⟩,
⟨some 7, .call ⟨.value (.func 65), #[.tmp 6], #[23]⟩, none⟩])
(.block 0 (.range (.tmp 7) #[8, 9] (rc64 0).1 (rc64 0).2))))
theorem ir64_eq : (Try.f64.body.map low, Try.f64.ntmps, Try.f64.results.toList) = (some ir64, 21, []) := by kernel_rfl
def ir65 : LC := (.seq (.ops [⟨some 1, .box 23 (.tmp 0), none⟩,
⟨some 2, .assign (.const .nilFunc), none⟩])
(.seq (.ops [⟨some 3, .makeFunc (Fn.func 76) #[] #[.tmp 1], none⟩,
⟨some 2, .assign (.tmp 3), none⟩])
.ret))
theorem ir65_eq : (Try.f65.body.map low, Try.f65.ntmps, Try.f65.results.toList) = (some ir65, 4, [.tmp 2]) := by kernel_rfl
def ir66 : LC := (.seq (.ops [⟨some 3, .box 36 (.tmp 1), none⟩,
⟨some 4, .assign (.const (.bool false)), none⟩])
(.seq (.seq (.ops [⟨some 5, .move (.tmp 0), none⟩,
⟨some 6, .call ⟨.value (.func 31), #[.tmp 5], #[22]⟩, none⟩,
⟨some 7, .binOp .neq 31 (.tmp 6) (.const (.int .i64 0)) 31, none⟩,
⟨some 8, .move (.tmp 7), none⟩,
⟨some 9, .load 36 (.tmp 3), some (8, false)⟩,
⟨some 10, .call ⟨.builtin .len, #[.tmp 9], #[36]⟩, some (8, false)⟩,
⟨some 11, .binOp .gtr 3 (.tmp 10) (.const (.int .i64 64)) 3, some (8, false)⟩,
⟨some 12, .pick (.tmp 8) (.const (.bool true)) (.tmp 11), none⟩])
(.cond (.tmp 12)
(.seq (.ops [⟨some 4, .assign (.const (.bool false)), none⟩])
.ret)
.skip))
(.seq (.ops [⟨some 13, .move (.tmp 0), none⟩,
⟨some 14, .makeFunc (Fn.func 78) #[] #[.tmp 3], none⟩,
⟨some 15, .call ⟨.value (.func 77), #[.tmp 13, .tmp 14], #[22, 135]⟩, none⟩,
⟨some 16, .unOp .not 4 (.tmp 15), none⟩,
⟨some 4, .assign (.tmp 16), none⟩])
.ret)))
theorem ir66_eq : (Try.f66.body.map low, Try.f66.ntmps, Try.f66.results.toList) = (some ir66, 17, [.tmp 4]) := by kernel_rfl
def ir67 : LC := (.seq (.ops [⟨some 2, .assign (.const (.slice none 0 0)), none⟩])
(.seq (.seq (.ops [⟨some 3, .move (.tmp 0), none⟩,
⟨some 4, .binOp .eql 36 (.tmp 3) (.const (.slice none 0 0)) 36, none⟩])
(.cond (.tmp 4)
(.seq (.ops [⟨some 2, .assign (.const (.slice none 0 0)), none⟩])
.ret)
.skip))
(.seq (.ops [⟨some 5, .buildSlice 36 0 #[], none⟩,
⟨some 6, .move (.tmp 0), none⟩,
⟨some 7, .call ⟨.builtin .append, #[.tmp 5, .tmp 6], #[36, 36]⟩, none⟩,
⟨some 2, .assign (.tmp 7), none⟩])
.ret)))
theorem ir67_eq : (Try.f67.body.map low, Try.f67.ntmps, Try.f67.results.toList) = (some ir67, 8, [.tmp 2]) := by kernel_rfl
def ir68 : LC := (.seq (.ops [⟨some 4, .assign (.const (.bool false)), none⟩])
(.seq (.ops [⟨some 5, .move (.tmp 0), none⟩,
⟨some 6, .binOp .neq 27 (.tmp 5) (.const (.pointer none)) 27, none⟩,
⟨some 7, .move (.tmp 6), none⟩,
⟨some 8, .move (.tmp 1), some (7, true)⟩,
⟨some 9, .binOp .geq 3 (.tmp 8) (.const (.int .i64 0)) 3, some (7, true)⟩,
⟨some 10, .pick (.tmp 7) (.tmp 9) (.const (.bool false)), none⟩,
⟨some 11, .move (.tmp 10), none⟩,
⟨some 12, .move (.tmp 1), some (11, true)⟩,
⟨some 13, .move (.tmp 0), some (11, true)⟩,
⟨some 14, .nilCheck (.tmp 13), some (11, true)⟩,
⟨some 15, .fieldAddr 106 (.tmp 14) 0, some (11, true)⟩,
⟨some 16, .load 104 (.tmp 15), some (11, true)⟩,
⟨some 17, .call ⟨.builtin .len, #[.tmp 16], #[104]⟩, some (11, true)⟩,
⟨some 18, .binOp .lss 3 (.tmp 12) (.tmp 17) 3, some (11, true)⟩,
⟨some 19, .pick (.tmp 11) (.tmp 18) (.const (.bool false)), none⟩,
⟨some 4, .assign (.tmp 19), none⟩])
.ret))
theorem ir68_eq : (Try.f68.body.map low, Try.f68.ntmps, Try.f68.results.toList) = (some ir68, 20, [.tmp 4]) := by kernel_rfl
def ir69_l0 : LC := (.seq (.seq (.ops [⟨some 7, .move (.tmp 3), none⟩,
⟨some 8, .move (.tmp 0), none⟩,
⟨some 9, .call ⟨.builtin .len, #[.tmp 8], #[22]⟩, none⟩,
⟨some 10, .binOp .lss 3 (.tmp 7) (.tmp 9) 3, none⟩])
(.cond (.tmp 10)
.skip
(.exit 0)))
(.seq (.block 1 (.seq (.ops [⟨some 13, .move (.tmp 0), none⟩,
⟨some 14, .move (.tmp 3), none⟩,
⟨some 15, .indexAddr 22 (.tmp 13) (.tmp 14), none⟩,
⟨some 16, .fieldAddr 79 (.tmp 15) 0, none⟩,
⟨some 17, .load 3 (.tmp 16), none⟩,
⟨some 18, .binOp .lss 3 (.tmp 17) (.const (.int .i64 0)) 3, none⟩,
⟨some 19, .move (.tmp 18), none⟩,
⟨some 20, .move (.tmp 0), some (19, false)⟩,
⟨some 21, .move (.tmp 3), some (19, false)⟩,
⟨some 22, .indexAddr 22 (.tmp 20) (.tmp 21), some (19, false)⟩,
⟨some 23, .fieldAddr 79 (.tmp 22) 0, some (19, false)⟩,
⟨some 24, .load 3 (.tmp 23), some (19, false)⟩,
⟨some 25, .binOp .geq 3 (.tmp 24) (.const (.int .i64 64)) 3, some (19, false)⟩,
⟨some 26, .pick (.tmp 19) (.const (.bool true)) (.tmp 25), none⟩,
⟨some 27, .move (.tmp 26), none⟩,
⟨some 28, .move (.tmp 0), some (27, false)⟩,
⟨some 29, .move (.tmp 3), some (27, false)⟩,
⟨some 30, .indexAddr 22 (.tmp 28) (.tmp 29), some (27, false)⟩,
⟨some 31, .fieldAddr 79 (.tmp 30) 1, some (27, false)⟩,
⟨some 32, .load 3 (.tmp 31), some (27, false)⟩,
⟨some 33, .binOp .lss 3 (.tmp 32) (.const (.int .i64 0)) 3, some (27, false)⟩,
⟨some 34, .pick (.tmp 27) (.const (.bool true)) (.tmp 33), none⟩,
⟨some 35, .move (.tmp 34), none⟩,
⟨some 36, .move (.tmp 0), some (35, false)⟩,
⟨some 37, .move (.tmp 3), some (35, false)⟩,
⟨some 38, .indexAddr 22 (.tmp 36) (.tmp 37), some (35, false)⟩,
⟨some 39, .fieldAddr 79 (.tmp 38) 1, some (35, false)⟩,
⟨some 40, .load 3 (.tmp 39), some (35, false)⟩,
⟨some 41, .binOp .gtr 3 (.tmp 40) (.const (.int .i64 255)) 3, some (35, false)⟩,
⟨some 42, .pick (.tmp 35) (.const (.bool true)) (.tmp 41), none⟩,
⟨some 43, .move (.tmp 42), none⟩,
⟨some 44, .move (.tmp 0), some (43, false)⟩,
⟨some 45, .move (.tmp 3), some (43, false)⟩,
⟨some 46, .indexAddr 22 (.tmp 44) (.tmp 45), some (43, false)⟩,
⟨some 47, .fieldAddr 79 (.tmp 46) 2, some (43, false)⟩,
⟨some 48, .load 3 (.tmp 47), some (43, false)⟩,
⟨some 49, .binOp .lss 3 (.tmp 48) (.const (.int .i64 0)) 3, some (43, false)⟩,
⟨some 50, .pick (.tmp 43) (.const (.bool true)) (.tmp 49), none⟩,
⟨some 51, .move (.tmp 50), none⟩,
⟨some 52, .move (.tmp 0), some (51, false)⟩,
⟨some 53, .move (.tmp 3), some (51, false)⟩,
⟨some 54, .indexAddr 22 (.tmp 52) (.tmp 53), some (51, false)⟩,
⟨some 55, .fieldAddr 79 (.tmp 54) 2, some (51, false)⟩,
⟨some 56, .load 3 (.tmp 55), some (51, false)⟩,
⟨some 57, .binOp .gtr 3 (.tmp 56) (.const (.int .i64 255)) 3, some (51, false)⟩,
⟨some 58, .pick (.tmp 51) (.const (.bool true)) (.tmp 57), none⟩])
(.cond (.tmp 58)
(.seq (.ops [⟨some 2, .assign (.const (.bool false)), none⟩])
.ret)
.skip)))
(.ops [⟨some 11, .move (.tmp 3), none⟩,
⟨some 12, .binOp .add 3 (.tmp 11) (.const (.int .i64 1)) 3, none⟩,
⟨some 3, .assign (.tmp 12), none⟩])))
def ir69 : LC := (.seq (.ops [⟨some 2, .assign (.const (.bool false)), none⟩])
(.seq (.seq (.ops [⟨some 4, .move (.tmp 0), none⟩,
⟨some 5, .call ⟨.builtin .len, #[.tmp 4], #[22]⟩, none⟩,
⟨some 6, .binOp .gtr 3 (.tmp 5) (.const (.int .i64 8)) 3, none⟩])
(.cond (.tmp 6)
(.seq (.ops [⟨some 2, .assign (.const (.bool false)), none⟩])
.ret)
.skip))
(.seq (.seq (.ops [⟨some 3, .assign (.const (.int .i64 0)), none⟩])
(.block 0 (.loop ir69_l0)))
(.seq (.ops [⟨some 2, .assign (.const (.bool true)), none⟩])
.ret))))
theorem ir69_eq : (Try.f69.body.map low, Try.f69.ntmps, Try.f69.results.toList) = (some ir69, 59, [.tmp 2]) := by kernel_rfl
def ir70 : LC := (.seq (.ops [⟨some 6, .assign (.const (.int .i64 0)), none⟩])
(.seq (.seq (.ops [⟨some 7, .move (.tmp 0), none⟩,
⟨some 8, .binOp .eql 27 (.tmp 7) (.const (.pointer none)) 27, none⟩])
(.cond (.tmp 8)
(.seq (.ops [⟨some 6, .assign (.const (.int .i64 1)), none⟩])
.ret)
.skip))
(.seq (.seq (.ops [⟨some 9, .move (.tmp 0), none⟩,
⟨some 10, .move (.tmp 1), none⟩,
⟨some 11, .call ⟨.value (.func 68), #[.tmp 9, .tmp 10], #[27, 3]⟩, none⟩,
⟨some 12, .unOp .not 4 (.tmp 11), none⟩])
(.cond (.tmp 12)
(.seq (.ops [⟨some 6, .assign (.const (.int .i64 2)), none⟩])
.ret)
.skip))
(.seq (.seq (.ops [⟨some 13, .move (.tmp 2), none⟩,
⟨some 14, .binOp .lss 3 (.tmp 13) (.const (.int .i64 0)) 3, none⟩,
⟨some 15, .move (.tmp 14), none⟩,
⟨some 16, .move (.tmp 2), some (15, false)⟩,
⟨some 17, .move (.tmp 0), some (15, false)⟩,
⟨some 18, .nilCheck (.tmp 17), some (15, false)⟩,
⟨some 19, .fieldAddr 106 (.tmp 18) 0, some (15, false)⟩,
⟨some 20, .load 104 (.tmp 19), some (15, false)⟩,
⟨some 21, .move (.tmp 1), some (15, false)⟩,
⟨some 22, .indexAddr 104 (.tmp 20) (.tmp 21), some (15, false)⟩,
⟨some 23, .load 107 (.tmp 22), some (15, false)⟩,
⟨some 24, .call ⟨.builtin .len, #[.tmp 23], #[107]⟩, some (15, false)⟩,
⟨some 25, .binOp .geq 3 (.tmp 16) (.tmp 24) 3, some (15, false)⟩,
⟨some 26, .pick (.tmp 15) (.const (.bool true)) (.tmp 25), none⟩,
⟨some 27, .move (.tmp 26), none⟩,
⟨some 28, .move (.tmp 0), some (27, false)⟩,
⟨some 29, .nilCheck (.tmp 28), some (27, false)⟩,
⟨some 30, .fieldAddr 106 (.tmp 29) 0, some (27, false)⟩,
⟨some 31, .load 104 (.tmp 30), some (27, false)⟩,
⟨some 32, .move (.tmp 1), some (27, false)⟩,
⟨some 33, .indexAddr 104 (.tmp 31) (.tmp 32), some (27, false)⟩,
⟨some 34, .load 107 (.tmp 33), some (27, false)⟩,
⟨some 35, .move (.tmp 2), some (27, false)⟩,
⟨some 36, .indexAddr 107 (.tmp 34) (.tmp 35), some (27, false)⟩,
⟨some 37, .fieldAddr 109 (.tmp 36) 0, some (27, false)⟩,
⟨some 38, .load 4 (.tmp 37), some (27, false)⟩,
⟨some 39, .unOp .not 4 (.tmp 38), some (27, false)⟩,
⟨some 40, .pick (.tmp 27) (.const (.bool true)) (.tmp 39), none⟩])
(.cond (.tmp 40)
(.seq (.ops [⟨some 6, .assign (.const (.int .i64 6)), none⟩])
.ret)
.skip))
(.seq (.ops [⟨some 6, .assign (.const (.int .i64 0)), none⟩])
.ret)))))
theorem ir70_eq : (Try.f70.body.map low, Try.f70.ntmps, Try.f70.results.toList) = (some ir70, 41, [.tmp 6]) := by kernel_rfl
def ir71_l0 : LC := (.seq (.seq (.ops [⟨some 14, .move (.tmp 5), none⟩,
⟨some 15, .move (.tmp 0), none⟩,
⟨some 16, .call ⟨.builtin .len, #[.tmp 15], #[22]⟩, none⟩,
⟨some 17, .binOp .lss 3 (.tmp 14) (.tmp 16) 3, none⟩])
(.cond (.tmp 17)
.skip
(.exit 0)))
(.seq (.block 1 (.seq (.draw [⟨some 20, .move (.tmp 0), none⟩,
⟨some 21, .move (.tmp 5), none⟩,
⟨some 22, .indexAddr 22 (.tmp 20) (.tmp 21), none⟩,
⟨some 23, .fieldAddr 79 (.tmp 22) 0, none⟩,
⟨some 24, .load 3 (.tmp 23), none⟩,
⟨some 25, .move (.tmp 1), none⟩,
⟨some 26, .call ⟨.builtin .len, #[.tmp 25], #[36]⟩, none⟩,
⟨some 27, .binOp .geq 3 (.tmp 24) (.tmp 26) 3, none⟩,
⟨some 28, .move (.tmp 27), none⟩,
⟨some 29, .move (.tmp 1), some (28, false)⟩,
⟨some 30, .move (.tmp 0), some (28, false)⟩,
⟨some 31, .move (.tmp 5), some (28, false)⟩,
⟨some 32, .indexAddr 22 (.tmp 30) (.tmp 31), some (28, false)⟩,
⟨some 33, .fieldAddr 79 (.tmp 32) 0, some (28, false)⟩,
⟨some 34, .load 3 (.tmp 33), some (28, false)⟩,
⟨some 35, .indexAddr 36 (.tmp 29) (.tmp 34), some (28, false)⟩,
⟨some 36, .load 5 (.tmp 35), some (28, false)⟩,
⟨some 37, .convert 5 3 (.tmp 36), some (28, false)⟩,
⟨some 38, .move (.tmp 0), some (28, false)⟩,
⟨some 39, .move (.tmp 5), some (28, false)⟩,
⟨some 40, .indexAddr 22 (.tmp 38) (.tmp 39), some (28, false)⟩,
⟨some 41, .fieldAddr 79 (.tmp 40) 1, some (28, false)⟩,
⟨some 42, .load 3 (.tmp 41), some (28, false)⟩,
⟨some 43, .binOp .and 3 (.tmp 37) (.tmp 42) 3, some (28, false)⟩,
⟨some 44, .move (.tmp 0), some (28, false)⟩,
⟨some 45, .move (.tmp 5), some (28, false)⟩,
⟨some 46, .indexAddr 22 (.tmp 44) (.tmp 45), some (28, false)⟩,
⟨some 47, .fieldAddr 79 (.tmp 46) 2, some (28, false)⟩,
⟨some 48, .load 3 (.tmp 47), some (28, false)⟩,
⟨some 49, .binOp .neq 3 (.tmp 43) (.tmp 48) 3, some (28, false)⟩,
⟨some 50, .pick (.tmp 28) (.const (.bool true)) (.tmp 49), none⟩] [])
(.cond (.tmp 50)
(.seq (.ops [⟨some 4, .assign (.const (.bool false)), none⟩])
.ret)
.skip)))
(.ops [⟨some 18, .move (.tmp 5), none⟩,
⟨some 19, .binOp .add 3 (.tmp 18) (.const (.int .i64 1)) 3, none⟩,
⟨some 5, .assign (.tmp 19), none⟩])))
def ir71 : LC := (.seq (.ops [⟨some 4, .assign (.const (.bool false)), none⟩])
(.seq (.seq (.ops [⟨some 6, .move (.tmp 0), none⟩,
⟨some 7, .call ⟨.value (.func 69), #[.tmp 6], #[22]⟩, none⟩,
⟨some 8, .unOp .not 4 (.tmp 7), none⟩,
⟨some 9, .move (.tmp 8), none⟩,
⟨some 10, .move (.tmp 1), some (9, false)⟩,
⟨some 11, .call ⟨.builtin .len, #[.tmp 10], #[36]⟩, some (9, false)⟩,
⟨some 12, .binOp .gtr 3 (.tmp 11) (.const (.int .i64 64)) 3, some (9, false)⟩,
⟨some 13, .pick (.tmp 9) (.const (.bool true)) (.tmp 12), none⟩])
(.cond (.tmp 13)
(.seq (.ops [⟨some 4, .assign (.const (.bool false)), none⟩])
.ret)
.skip))
(.seq (.seq (.ops [⟨some 5, .assign (.const (.int .i64 0)), none⟩])
(.block 0 (.loop ir71_l0)))
(.seq (.ops [⟨some 4, .assign (.const (.bool true)), none⟩])
.ret))))
theorem ir71_eq : (Try.f71.body.map low, Try.f71.ntmps, Try.f71.results.toList) = (some ir71, 51, [.tmp 4]) := by kernel_rfl
def ir72 : LC := (.seq (.ops [⟨some 3, .box 26 (.tmp 0), none⟩,
⟨some 4, .box 3 (.tmp 1), none⟩,
⟨some 5, .box 3 (.tmp 2), none⟩,
⟨some 6, .assign (.const .nilFunc), none⟩])
(.seq (.ops [⟨some 7, .makeFunc (Fn.func 79) #[] #[.tmp 3, .tmp 4, .tmp 5], none⟩,
⟨some 6, .assign (.tmp 7), none⟩])
.ret))
theorem ir72_eq : (Try.f72.body.map low, Try.f72.ntmps, Try.f72.results.toList) = (some ir72, 8, [.tmp 6]) := by kernel_rfl
def ir73_l0 : LC := (.seq (.ops [⟨some 6, .next (.tmp 5) false, none⟩,
⟨some 7, .extract (.tmp 6) 0, none⟩])
(.seq (.cond (.tmp 7)
.skip
(.exit 0))
(.block 1 (.seq (.ops [⟨some 8, .entry (.tmp 5), none⟩,
⟨some 9, .extract (.tmp 8) 0, none⟩,
⟨some 3, .alloc 75, none⟩,
⟨none, .store 75 (.tmp 3) (.tmp 9), none⟩])
(.seq (.ops [⟨some 10, .move (.tmp 0), none⟩,
⟨some 11, .load 75 (.tmp 3), none⟩,
⟨some 12, .call ⟨.value (.tmp 10), #[.tmp 11], #[75]⟩, none⟩,
⟨some 13, .unOp .not 4 (.tmp 12), none⟩])
(.cond (.tmp 13)
.ret
.skip))))))
def ir73 : LC := (.seq (.ops [⟨some 4, .load 66 (.tmp 1), none⟩,
⟨some 5, .range 66 (.tmp 4), none⟩])
(.block 0 (.loop ir73_l0)))
theorem ir73_eq : (Try.f73.body.map low, Try.f73.ntmps, Try.f73.results.toList) = (some ir73, 14, []) := by kernel_rfl
def ir76_l0 : LC := (.seq (.ops [⟨some 8, .binOp .lss 3 (.tmp 7) (.tmp 6) 3, none⟩])
(.seq (.cond (.tmp 8)
.skip
(.exit 0))
(.seq (.block 1 (.seq (.ops [⟨some 9, .move (.tmp 7), none⟩,
⟨some 10, .indexAddr 23 (.tmp 5) (.tmp 7), none⟩,
⟨some 11, .load 36 (.tmp 10), none⟩,
⟨some 3, .assign (.tmp 9), none⟩,
⟨some 4, .assign (.tmp 11), none⟩])
(.seq (.ops [⟨some 12, .move (.tmp 0), none⟩,
⟨some 13, .move (.tmp 3), none⟩,
⟨some 14, .move (.tmp 4), none⟩,
⟨some 15, .call ⟨.value (.tmp 12), #[.tmp 13, .tmp 14], #[3, 36]⟩, none⟩,
⟨some 16, .unOp .not 4 (.tmp 15), none⟩])
(.cond (.tmp 16)
.ret
.skip))))
(.ops [⟨some 17, .binOp .add 3 (.tmp 7) (.const (.int .i64 1)) 3, none⟩,
⟨some 7, .move (.tmp 17), none⟩]))))
def ir76 : LC := (.seq (.ops [⟨some 5, .load 23 (.tmp 1), none⟩,
⟨some 6, .call ⟨.builtin .len, #[.tmp 5], #[23]⟩, none⟩,
⟨some 7, .move (.const (.int .i64 0)), none⟩])
(.block 0 (.loop ir76_l0)))
theorem ir76_eq : (Try.f76.body.map low, Try.f76.ntmps, Try.f76.results.toList) = (some ir76, 18, []) := by kernel_rfl
def ir77 : LC := (.seq (.ops [⟨some 4, .assign (.const (.bool false)), none⟩])
(.seq (.ops [⟨some 5, .move (.tmp 0), none⟩,
⟨some 6, .move (.tmp 1), none⟩,
⟨some 7, .call ⟨.value (.func 91), #[.tmp 5, .tmp 6], #[22, 135]⟩, none⟩,
⟨some 8, .binOp .geq 3 (.tmp 7) (.const (.int .i64 0)) 3, none⟩,
⟨some 4, .assign (.tmp 8), none⟩])
.ret))
theorem ir77_eq : (Try.f77.body.map low, Try.f77.ntmps, Try.f77.results.toList) = (some ir77, 9, [.tmp 4]) := by kernel_rfl
def ir78 : LC := (.seq (.ops [⟨some 2, .box 79 (.tmp 0), none⟩,
⟨some 3, .assign (.const (.bool false)), none⟩])
(.seq (.draw [⟨some 4, .fieldAddr 79 (.tmp 2) 0, none⟩,
⟨some 5, .load 3 (.tmp 4), none⟩,
⟨some 6, .load 36 (.tmp 1), none⟩,
⟨some 7, .call ⟨.builtin .len, #[.tmp 6], #[36]⟩, none⟩,
⟨some 8, .binOp .geq 3 (.tmp 5) (.tmp 7) 3, none⟩,
⟨some 9, .move (.tmp 8), none⟩,
⟨some 10, .load 36 (.tmp 1), some (9, false)⟩,
⟨some 11, .fieldAddr 79 (.tmp 2) 0, some (9, false)⟩,
⟨some 12, .load 3 (.tmp 11), some (9, false)⟩,
⟨some 13, .indexAddr 36 (.tmp 10) (.tmp 12), some (9, false)⟩,
⟨some 14, .load 5 (.tmp 13), some (9, false)⟩,
⟨some 15, .convert 5 3 (.tmp 14), some (9, false)⟩,
⟨some 16, .fieldAddr 79 (.tmp 2) 1, some (9, false)⟩,
⟨some 17, .load 3 (.tmp 16), some (9, false)⟩,
⟨some 18, .binOp .and 3 (.tmp 15) (.tmp 17) 3, some (9, false)⟩,
⟨some 19, .fieldAddr 79 (.tmp 2) 2, some (9, false)⟩,
⟨some 20, .load 3 (.tmp 19), some (9, false)⟩,
⟨some 21, .binOp .neq 3 (.tmp 18) (.tmp 20) 3, some (9, false)⟩,
⟨some 22, .pick (.tmp 9) (.const (.bool true)) (.tmp 21), none⟩,
⟨some 3, .assign (.tmp 22), none⟩] [])
.ret))
theorem ir78_eq : (Try.f78.body.map low, Try.f78.ntmps, Try.f78.results.toList) = (some ir78, 23, [.tmp 3]) := by kernel_rfl
def ir79_l0 : LC := (.seq (.ops [⟨some 22, .binOp .lss 3 (.tmp 21) (.tmp 20) 3, none⟩])
(.seq (.cond (.tmp 22)
.skip
(.exit 0))
(.seq (.block 1 (.seq (.ops [⟨some 23, .move (.tmp 21), none⟩,
⟨some 24, .indexAddr 23 (.tmp 19) (.tmp 21), none⟩,
⟨some 25, .load 36 (.tmp 24), none⟩,
⟨some 7, .assign (.tmp 23), none⟩,
⟨some 8, .assign (.tmp 25), none⟩])
(.seq (.ops [⟨some 26, .move (.tmp 0), none⟩,
⟨some 27, .move (.tmp 7), none⟩,
⟨some 28, .move (.tmp 8), none⟩,
⟨some 29, .call ⟨.value (.tmp 26), #[.tmp 27, .tmp 28], #[3, 36]⟩, none⟩,
⟨some 30, .unOp .not 4 (.tmp 29), none⟩])
(.cond (.tmp 30)
.ret
.skip))))
(.ops [⟨some 31, .binOp .add 3 (.tmp 21) (.const (.int .i64 1)) 3, none⟩,
⟨some 21, .move (.tmp 31), none⟩]))))
def ir79 : LC := (.seq (.ops [⟨some 10, .load 26 (.tmp 1), none⟩,
⟨some 11, .load 3 (.tmp 2), none⟩,
⟨some 12, .load 3 (.tmp 3), none⟩,
⟨some 13, .call ⟨.value (.func 37), #[.tmp 10, .tmp 11, .tmp 12], #[26, 3, 3]⟩, none⟩,
⟨some 9, .move (.tmp 13), none⟩,
⟨some 14, .extract (.tmp 9) 0, none⟩,
⟨some 15, .extract (.tmp 9) 1, none⟩,
⟨some 5, .assign (.tmp 14), none⟩,
⟨some 6, .assign (.tmp 15), none⟩])
(.seq (.seq (.ops [⟨some 16, .move (.tmp 6), none⟩,
⟨some 17, .binOp .neq 31 (.tmp 16) (.const (.int .i64 0)) 31, none⟩])
(.cond (.tmp 17)
.ret
.skip))
(.seq (.ops [⟨some 18, .move (.tmp 5), none⟩,
⟨some 19, .call ⟨.value (.func 51), #[.tmp 18], #[76]⟩, none⟩,
⟨some 20, .call ⟨.builtin .len, #[.tmp 19], #[23]⟩, none⟩,
⟨some 21, .move (.const (.int .i64 0)), none⟩])
(.block 0 (.loop ir79_l0)))))
theorem ir79_eq : (Try.f79.body.map low, Try.f79.ntmps, Try.f79.results.toList) = (some ir79, 32, []) := by kernel_rfl
def ir91_l0 : LC := (.seq (.ops [⟨some 9, .binOp .lss 3 (.tmp 8) (.tmp 7) 3, none⟩])
(.seq (.cond (.tmp 9)
.skip
(.exit 0))
(.seq (.block 1 (.seq (.ops [⟨some 10, .move (.tmp 8), none⟩,
⟨some 5, .assign (.tmp 10), none⟩])
(.seq (.ops [⟨some 11, .move (.tmp 1), none⟩,
⟨some 12, .move (.tmp 0), none⟩,
⟨some 13, .move (.tmp 5), none⟩,
⟨some 14, .indexAddr 22 (.tmp 12) (.tmp 13), none⟩,
⟨some 15, .load 79 (.tmp 14), none⟩,
⟨some 16, .call ⟨.value (.tmp 11), #[.tmp 15], #[79]⟩, none⟩])
(.cond (.tmp 16)
(.seq (.ops [⟨some 17, .move (.tmp 5), none⟩,
⟨some 4, .assign (.tmp 17), none⟩])
.ret)
.skip))))
(.ops [⟨some 18, .binOp .add 3 (.tmp 8) (.const (.int .i64 1)) 3, none⟩,
⟨some 8, .move (.tmp 18), none⟩]))))
def ir91 : LC := (.seq (.ops [⟨some 4, .assign (.const (.int .i64 0)), none⟩])
(.seq (.seq (.ops [⟨some 6, .move (.tmp 0), none⟩,
⟨some 7, .call ⟨.builtin .len, #[.tmp 6], #[22]⟩, none⟩,
⟨some 8, .move (.const (.int .i64 0)), none⟩])
(.block 0 (.loop ir91_l0)))
(.seq (.ops [⟨some 4, .assign (.const (.int .i64 (-1))), none⟩])
.ret)))
theorem ir91_eq : (Try.f91.body.map low, Try.f91.ntmps, Try.f91.results.toList) = (some ir91, 19, [.tmp 4]) := by kernel_rfl



end Go.Proofs.Ytmimialblhlklaa
