/- The code of this seat struck bare (printed by program). -/
import Derived.Test.YtmkdbninmimndaaProg
import Derived.Test.YtmkdbninmimndaaV4
import Derived.KernelRfl
set_option linter.unusedVariables false
set_option maxRecDepth 100000
namespace Go.Proofs.Ytmkdbninmimndaa
open Go Go.Vm
def ir6_s0 : LC := (.ops [⟨some 2, .box 30 (.tmp 0), none⟩,
 ⟨some 4, .assign (.const (.bool false)), none⟩])
def ir6_s1 : LC := (.seq (.ops [⟨some 21, .load 30 (.tmp 2), none⟩,
 ⟨some 22, .call ⟨.value (.func 9), #[.tmp 21], #[30]⟩, none⟩,
 ⟨some 23, .unOp .not 4 (.tmp 22), none⟩,
 ⟨some 24, .move (.tmp 23), none⟩,
 ⟨some 25, .fieldAddr 30 (.tmp 2) 4, some (24, false)⟩,
 ⟨some 26, .load 3 (.tmp 25), some (24, false)⟩,
 ⟨some 27, .binOp .lss 3 (.tmp 26) (.const (.int .i64 0)) 3, some (24, false)⟩,
 ⟨some 28, .pick (.tmp 24) (.const (.bool true)) (.tmp 27), none⟩,
 ⟨some 29, .move (.tmp 28), none⟩,
 ⟨some 30, .move (.tmp 1), some (29, false)⟩,
 ⟨some 31, .binOp .lss 3 (.tmp 30) (.const (.int .i64 0)) 3, some (29, false)⟩,
 ⟨some 32, .pick (.tmp 29) (.const (.bool true)) (.tmp 31), none⟩,
 ⟨some 33, .move (.tmp 32), none⟩,
 ⟨some 34, .move (.tmp 1), some (33, false)⟩,
 ⟨some 35, .fieldAddr 30 (.tmp 2) 4, some (33, false)⟩,
 ⟨some 36, .load 3 (.tmp 35), some (33, false)⟩,
 ⟨some 37, .binOp .gtr 3 (.tmp 34) (.tmp 36) 3, some (33, false)⟩,
 ⟨some 38, .pick (.tmp 33) (.const (.bool true)) (.tmp 37), none⟩])
 (.cond (.tmp 38)
 (.seq (.ops [⟨some 39, .call ⟨.value (.func 10), #[], #[]⟩, none⟩,
 ⟨some 4, .assign (.tmp 39), none⟩])
 .ret)
 .skip))
def ir6_s2 : LC := (.ops [⟨some 41, .load 30 (.tmp 2), none⟩,
 ⟨some 42, .call ⟨.value (.func 11), #[.tmp 41], #[30]⟩, none⟩,
 ⟨some 40, .move (.tmp 42), none⟩,
 ⟨some 43, .extract (.tmp 40) 0, none⟩,
 ⟨some 44, .extract (.tmp 40) 1, none⟩,
 ⟨some 45, .extract (.tmp 40) 2, none⟩,
 ⟨some 5, .assign (.tmp 43), none⟩,
 ⟨some 6, .assign (.tmp 44), none⟩,
 ⟨some 7, .assign (.tmp 45), none⟩])
def ir6_s3 : LC := (.seq (.ops [⟨some 46, .move (.tmp 7), none⟩,
 ⟨some 47, .unOp .not 4 (.tmp 46), none⟩])
 (.cond (.tmp 47)
 (.seq (.ops [⟨some 48, .call ⟨.value (.func 10), #[], #[]⟩, none⟩,
 ⟨some 4, .assign (.tmp 48), none⟩])
 .ret)
 .skip))
def ir6_s4 : LC := (.ops [⟨some 49, .move (.tmp 5), none⟩,
 ⟨some 50, .call ⟨.value (.func 20), #[.tmp 49], #[32]⟩, none⟩,
 ⟨some 8, .assign (.tmp 50), none⟩])
def ir6_s5 : LC := (.ops [⟨some 52, .fieldAddr 30 (.tmp 2) 3, none⟩,
 ⟨some 53, .load 28 (.tmp 52), none⟩,
 ⟨some 54, .move (.tmp 5), none⟩,
 ⟨some 55, .makeInterface 32 (.tmp 54), none⟩,
 ⟨some 56, .fieldAddr 30 (.tmp 2) 4, none⟩,
 ⟨some 57, .load 3 (.tmp 56), none⟩,
 ⟨some 58, .call ⟨.value (.func 12), #[.tmp 53, .tmp 55, .tmp 57], #[28, 69, 3]⟩, none⟩,
 ⟨some 51, .move (.tmp 58), none⟩,
 ⟨some 59, .extract (.tmp 51) 0, none⟩,
 ⟨some 60, .extract (.tmp 51) 1, none⟩,
 ⟨some 61, .extract (.tmp 51) 2, none⟩,
 ⟨some 9, .alloc 28, none⟩,
 ⟨some 10, .alloc 38, none⟩,
 ⟨none, .store 28 (.tmp 9) (.tmp 59), none⟩,
 ⟨none, .store 38 (.tmp 10) (.tmp 60), none⟩,
 ⟨some 11, .assign (.tmp 61), none⟩])
def ir6_s6 : LC := (.ops [⟨some 63, .fieldAddr 30 (.tmp 2) 3, none⟩,
 ⟨some 64, .load 28 (.tmp 63), none⟩,
 ⟨some 65, .move (.tmp 8), none⟩,
 ⟨some 66, .makeInterface 32 (.tmp 65), none⟩,
 ⟨some 67, .move (.tmp 1), none⟩,
 ⟨some 68, .call ⟨.value (.func 12), #[.tmp 64, .tmp 66, .tmp 67], #[28, 69, 3]⟩, none⟩,
 ⟨some 62, .move (.tmp 68), none⟩,
 ⟨some 69, .extract (.tmp 62) 0, none⟩,
 ⟨some 70, .extract (.tmp 62) 1, none⟩,
 ⟨some 71, .extract (.tmp 62) 2, none⟩,
 ⟨some 12, .alloc 28, none⟩,
 ⟨some 13, .alloc 38, none⟩,
 ⟨none, .store 28 (.tmp 12) (.tmp 69), none⟩,
 ⟨none, .store 38 (.tmp 13) (.tmp 70), none⟩,
 ⟨some 14, .assign (.tmp 71), none⟩])
def ir6_s7 : LC := (.seq (.ops [⟨some 72, .move (.tmp 11), none⟩,
 ⟨some 73, .binOp .neq 39 (.tmp 72) (.const (.int .i64 0)) 39, none⟩,
 ⟨some 74, .move (.tmp 73), none⟩,
 ⟨some 75, .move (.tmp 14), some (74, false)⟩,
 ⟨some 76, .binOp .neq 39 (.tmp 75) (.const (.int .i64 0)) 39, some (74, false)⟩,
 ⟨some 77, .pick (.tmp 74) (.const (.bool true)) (.tmp 76), none⟩,
 ⟨some 78, .move (.tmp 77), none⟩,
 ⟨some 79, .fieldAddr 38 (.tmp 10) 4, some (78, false)⟩,
 ⟨some 80, .load 3 (.tmp 79), some (78, false)⟩,
 ⟨some 81, .fieldAddr 30 (.tmp 2) 4, some (78, false)⟩,
 ⟨some 82, .load 3 (.tmp 81), some (78, false)⟩,
 ⟨some 83, .binOp .gtr 3 (.tmp 80) (.tmp 82) 3, some (78, false)⟩,
 ⟨some 84, .pick (.tmp 78) (.const (.bool true)) (.tmp 83), none⟩,
 ⟨some 85, .move (.tmp 84), none⟩,
 ⟨some 86, .fieldAddr 38 (.tmp 13) 4, some (85, false)⟩,
 ⟨some 87, .load 3 (.tmp 86), some (85, false)⟩,
 ⟨some 88, .move (.tmp 1), some (85, false)⟩,
 ⟨some 89, .binOp .gtr 3 (.tmp 87) (.tmp 88) 3, some (85, false)⟩,
 ⟨some 90, .pick (.tmp 85) (.const (.bool true)) (.tmp 89), none⟩])
 (.cond (.tmp 90)
 (.seq (.ops [⟨some 4, .assign (.const (.bool false)), none⟩])
 .ret)
 .skip))
def ir6_s8 : LC := (.seq (.ops [⟨some 91, .fieldAddr 38 (.tmp 13) 0, none⟩,
 ⟨some 92, .load 36 (.tmp 91), none⟩,
 ⟨some 93, .binOp .eql 36 (.tmp 92) (.const (.int .i64 1)) 36, none⟩])
 (.cond (.tmp 93)
 (.seq (.ops [⟨some 95, .load 28 (.tmp 12), none⟩,
 ⟨some 96, .move (.tmp 8), none⟩,
 ⟨some 97, .makeInterface 32 (.tmp 96), none⟩,
 ⟨some 98, .fieldAddr 30 (.tmp 2) 4, none⟩,
 ⟨some 99, .load 3 (.tmp 98), none⟩,
 ⟨some 100, .move (.tmp 1), none⟩,
 ⟨some 101, .binOp .sub 3 (.tmp 99) (.tmp 100) 3, none⟩,
 ⟨some 102, .call ⟨.value (.func 12), #[.tmp 95, .tmp 97, .tmp 101], #[28, 69, 3]⟩, none⟩,
 ⟨some 94, .move (.tmp 102), none⟩,
 ⟨some 103, .extract (.tmp 94) 0, none⟩,
 ⟨some 104, .extract (.tmp 94) 1, none⟩,
 ⟨some 105, .extract (.tmp 94) 2, none⟩,
 ⟨some 15, .alloc 28, none⟩,
 ⟨some 16, .alloc 38, none⟩,
 ⟨none, .store 28 (.tmp 15) (.tmp 103), none⟩,
 ⟨none, .store 38 (.tmp 16) (.tmp 104), none⟩,
 ⟨some 17, .assign (.tmp 105), none⟩])
 (.seq (.ops [⟨some 106, .move (.tmp 17), none⟩,
 ⟨some 107, .binOp .neq 39 (.tmp 106) (.const (.int .i64 0)) 39, none⟩,
 ⟨some 108, .move (.tmp 107), none⟩,
 ⟨some 109, .load 28 (.tmp 15), some (108, false)⟩,
 ⟨some 110, .load 28 (.tmp 9), some (108, false)⟩,
 ⟨some 111, .binOp .neq 28 (.tmp 109) (.tmp 110) 28, some (108, false)⟩,
 ⟨some 112, .pick (.tmp 108) (.const (.bool true)) (.tmp 111), none⟩,
 ⟨some 113, .move (.tmp 112), none⟩,
 ⟨some 114, .fieldAddr 38 (.tmp 16) 0, some (113, false)⟩,
 ⟨some 115, .load 36 (.tmp 114), some (113, false)⟩,
 ⟨some 116, .fieldAddr 38 (.tmp 10) 0, some (113, false)⟩,
 ⟨some 117, .load 36 (.tmp 116), some (113, false)⟩,
 ⟨some 118, .binOp .neq 36 (.tmp 115) (.tmp 117) 36, some (113, false)⟩,
 ⟨some 119, .pick (.tmp 113) (.const (.bool true)) (.tmp 118), none⟩,
 ⟨some 120, .move (.tmp 119), none⟩,
 ⟨some 121, .fieldAddr 38 (.tmp 16) 2, some (120, false)⟩,
 ⟨some 122, .load 25 (.tmp 121), some (120, false)⟩,
 ⟨some 123, .fieldAddr 38 (.tmp 10) 2, some (120, false)⟩,
 ⟨some 124, .load 25 (.tmp 123), some (120, false)⟩,
 ⟨some 125, .binOp .neq 25 (.tmp 122) (.tmp 124) 25, some (120, false)⟩,
 ⟨some 126, .pick (.tmp 120) (.const (.bool true)) (.tmp 125), none⟩,
 ⟨some 127, .move (.tmp 126), none⟩,
 ⟨some 128, .fieldAddr 38 (.tmp 16) 4, some (127, false)⟩,
 ⟨some 129, .load 3 (.tmp 128), some (127, false)⟩,
 ⟨some 130, .move (.tmp 1), some (127, false)⟩,
 ⟨some 131, .binOp .add 3 (.tmp 129) (.tmp 130) 3, some (127, false)⟩,
 ⟨some 132, .fieldAddr 38 (.tmp 10) 4, some (127, false)⟩,
 ⟨some 133, .load 3 (.tmp 132), some (127, false)⟩,
 ⟨some 134, .binOp .neq 3 (.tmp 131) (.tmp 133) 3, some (127, false)⟩,
 ⟨some 135, .pick (.tmp 127) (.const (.bool true)) (.tmp 134), none⟩,
 ⟨some 136, .move (.tmp 135), none⟩,
 ⟨some 137, .fieldAddr 38 (.tmp 16) 1, some (136, false)⟩,
 ⟨some 138, .load 3 (.tmp 137), some (136, false)⟩,
 ⟨some 139, .fieldAddr 38 (.tmp 10) 1, some (136, false)⟩,
 ⟨some 140, .load 3 (.tmp 139), some (136, false)⟩,
 ⟨some 141, .binOp .neq 3 (.tmp 138) (.tmp 140) 3, some (136, false)⟩,
 ⟨some 142, .pick (.tmp 136) (.const (.bool true)) (.tmp 141), none⟩])
 (.cond (.tmp 142)
 (.seq (.ops [⟨some 4, .assign (.const (.bool false)), none⟩])
 .ret)
 .skip)))
 (.seq (.ops [⟨some 143, .load 28 (.tmp 12), none⟩,
 ⟨some 144, .load 28 (.tmp 9), none⟩,
 ⟨some 145, .binOp .neq 28 (.tmp 143) (.tmp 144) 28, none⟩,
 ⟨some 146, .move (.tmp 145), none⟩,
 ⟨some 147, .load 38 (.tmp 13), some (146, false)⟩,
 ⟨some 148, .load 38 (.tmp 10), some (146, false)⟩,
 ⟨some 149, .binOp .neq 38 (.tmp 147) (.tmp 148) 38, some (146, false)⟩,
 ⟨some 150, .pick (.tmp 146) (.const (.bool true)) (.tmp 149), none⟩])
 (.cond (.tmp 150)
 (.seq (.ops [⟨some 4, .assign (.const (.bool false)), none⟩])
 .ret)
 .skip))))
def ir6_s9 : LC := (.seq (.draw [⟨some 151, .move (.tmp 5), none⟩,
 ⟨some 152, .call ⟨.value (.func 14), #[.tmp 151], #[32]⟩, none⟩,
 ⟨some 153, .convert 23 9 (.tmp 152), none⟩,
 ⟨some 154, .move (.tmp 8), none⟩,
 ⟨some 155, .call ⟨.value (.func 14), #[.tmp 154], #[32]⟩, none⟩,
 ⟨some 156, .convert 23 9 (.tmp 155), none⟩,
 ⟨some 157, .binOp .neq 9 (.tmp 153) (.tmp 156) 9, none⟩] [(1, 3), (2, 4)])
 (.cond (.tmp 157)
 (.seq (.ops [⟨some 4, .assign (.const (.bool false)), none⟩])
 .ret)
 .skip))
def ir6_s10 : LC := (.seq (.ops [⟨some 158, .fieldAddr 38 (.tmp 10) 0, none⟩,
 ⟨some 159, .load 36 (.tmp 158), none⟩,
 ⟨some 160, .binOp .neq 36 (.tmp 159) (.const (.int .i64 1)) 36, none⟩])
 (.cond (.tmp 160)
 (.seq (.ops [⟨some 162, .load 28 (.tmp 9), none⟩,
 ⟨some 163, .move (.tmp 5), none⟩,
 ⟨some 164, .makeInterface 32 (.tmp 163), none⟩,
 ⟨some 165, .call ⟨.value (.func 12), #[.tmp 162, .tmp 164, .const (.int .i64 1)], #[28, 69, 3]⟩, none⟩,
 ⟨some 161, .move (.tmp 165), none⟩,
 ⟨some 166, .extract (.tmp 161) 0, none⟩,
 ⟨some 167, .extract (.tmp 161) 1, none⟩,
 ⟨some 168, .extract (.tmp 161) 2, none⟩,
 ⟨some 18, .alloc 28, none⟩,
 ⟨some 19, .alloc 38, none⟩,
 ⟨none, .store 28 (.tmp 18) (.tmp 166), none⟩,
 ⟨none, .store 38 (.tmp 19) (.tmp 167), none⟩,
 ⟨some 20, .assign (.tmp 168), none⟩])
 (.seq (.ops [⟨some 169, .fieldAddr 38 (.tmp 10) 4, none⟩,
 ⟨none, .store 3 (.tmp 169) (.const (.int .i64 0)), none⟩])
 (.seq (.ops [⟨some 170, .move (.tmp 20), none⟩,
 ⟨some 171, .binOp .neq 39 (.tmp 170) (.const (.int .i64 0)) 39, none⟩,
 ⟨some 172, .move (.tmp 171), none⟩,
 ⟨some 173, .load 28 (.tmp 18), some (172, false)⟩,
 ⟨some 174, .load 28 (.tmp 9), some (172, false)⟩,
 ⟨some 175, .binOp .neq 28 (.tmp 173) (.tmp 174) 28, some (172, false)⟩,
 ⟨some 176, .pick (.tmp 172) (.const (.bool true)) (.tmp 175), none⟩,
 ⟨some 177, .move (.tmp 176), none⟩,
 ⟨some 178, .load 38 (.tmp 19), some (177, false)⟩,
 ⟨some 179, .load 38 (.tmp 10), some (177, false)⟩,
 ⟨some 180, .binOp .neq 38 (.tmp 178) (.tmp 179) 38, some (177, false)⟩,
 ⟨some 181, .pick (.tmp 177) (.const (.bool true)) (.tmp 180), none⟩])
 (.cond (.tmp 181)
 (.seq (.ops [⟨some 4, .assign (.const (.bool false)), none⟩])
 .ret)
 .skip))))
 .skip))
def ir6_s11 : LC := (.ops [⟨some 182, .call ⟨.value (.func 10), #[], #[]⟩, none⟩,
 ⟨some 4, .assign (.tmp 182), none⟩])
def ir6_s12 : LC := .ret
def ir6_r12 : LC := ir6_s12
def ir6_r11 : LC := .seq ir6_s11 ir6_r12
def ir6_r10 : LC := .seq ir6_s10 ir6_r11
def ir6_r9 : LC := .seq ir6_s9 ir6_r10
def ir6_r8 : LC := .seq ir6_s8 ir6_r9
def ir6_r7 : LC := .seq ir6_s7 ir6_r8
def ir6_r6 : LC := .seq ir6_s6 ir6_r7
def ir6_r5 : LC := .seq ir6_s5 ir6_r6
def ir6_r4 : LC := .seq ir6_s4 ir6_r5
def ir6_r3 : LC := .seq ir6_s3 ir6_r4
def ir6_r2 : LC := .seq ir6_s2 ir6_r3
def ir6_r1 : LC := .seq ir6_s1 ir6_r2
def ir6_r0 : LC := .seq ir6_s0 ir6_r1
def ir6 : LC := ir6_r0
theorem ir6_eq : (Try.f6.body.map low, Try.f6.ntmps, Try.f6.results.toList) = (some ir6, 183, [.tmp 4]) := by kernel_rfl
def ir9 : LC := (.seq (.ops [⟨some 1, .box 30 (.tmp 0), none⟩,
 ⟨some 2, .assign (.const (.bool false)), none⟩])
 (.seq (.ops [⟨some 3, .fieldAddr 30 (.tmp 1) 0, none⟩,
 ⟨some 4, .load 22 (.tmp 3), none⟩,
 ⟨some 5, .call ⟨.builtin .len, #[.tmp 4], #[22]⟩, none⟩,
 ⟨some 6, .binOp .leq 3 (.tmp 5) (.const (.int .i64 200)) 3, none⟩,
 ⟨some 7, .move (.tmp 6), none⟩,
 ⟨some 8, .fieldAddr 30 (.tmp 1) 1, some (7, true)⟩,
 ⟨some 9, .load 23 (.tmp 8), some (7, true)⟩,
 ⟨some 10, .call ⟨.builtin .len, #[.tmp 9], #[23]⟩, some (7, true)⟩,
 ⟨some 11, .binOp .leq 3 (.tmp 10) (.const (.int .i64 2000)) 3, some (7, true)⟩,
 ⟨some 12, .pick (.tmp 7) (.tmp 11) (.const (.bool false)), none⟩,
 ⟨some 13, .move (.tmp 12), none⟩,
 ⟨some 14, .fieldAddr 30 (.tmp 1) 2, some (13, true)⟩,
 ⟨some 15, .load 24 (.tmp 14), some (13, true)⟩,
 ⟨some 16, .call ⟨.builtin .len, #[.tmp 15], #[24]⟩, some (13, true)⟩,
 ⟨some 17, .binOp .leq 3 (.tmp 16) (.const (.int .i64 32)) 3, some (13, true)⟩,
 ⟨some 18, .pick (.tmp 13) (.tmp 17) (.const (.bool false)), none⟩,
 ⟨some 19, .move (.tmp 18), none⟩,
 ⟨some 20, .fieldAddr 30 (.tmp 1) 4, some (19, true)⟩,
 ⟨some 21, .load 3 (.tmp 20), some (19, true)⟩,
 ⟨some 22, .binOp .leq 3 (.tmp 21) (.const (.int .i64 2000)) 3, some (19, true)⟩,
 ⟨some 23, .pick (.tmp 19) (.tmp 22) (.const (.bool false)), none⟩,
 ⟨some 2, .assign (.tmp 23), none⟩])
 .ret))
theorem ir9_eq : (Try.f9.body.map low, Try.f9.ntmps, Try.f9.results.toList) = (some ir9, 24, [.tmp 2]) := by kernel_rfl
def ir11 : LC := (.seq (.ops [⟨some 1, .box 30 (.tmp 0), none⟩,
 ⟨some 2, .assign (.const (.pointer none)), none⟩,
 ⟨some 3, .assign (.const (.pointer none)), none⟩,
 ⟨some 4, .assign (.const (.bool false)), none⟩])
 (.seq (.draw [⟨some 9, .fieldAddr 30 (.tmp 1) 0, none⟩,
 ⟨some 10, .load 22 (.tmp 9), none⟩,
 ⟨some 11, .call ⟨.value (.func 15), #[.tmp 10], #[22]⟩, none⟩,
 ⟨some 12, .fieldAddr 30 (.tmp 1) 1, none⟩,
 ⟨some 13, .load 23 (.tmp 12), none⟩,
 ⟨some 14, .call ⟨.builtin .append, #[.tmp 11, .tmp 13], #[23, 23]⟩, none⟩,
 ⟨some 5, .assign (.tmp 14), none⟩] [(2, 3), (2, 4)])
 (.seq (.ops [⟨some 16, .move (.tmp 5), none⟩,
 ⟨some 17, .fieldAddr 30 (.tmp 1) 2, none⟩,
 ⟨some 18, .load 24 (.tmp 17), none⟩,
 ⟨some 19, .call ⟨.value (.func 16), #[.tmp 16, .tmp 18], #[23, 24]⟩, none⟩,
 ⟨some 15, .move (.tmp 19), none⟩,
 ⟨some 20, .extract (.tmp 15) 0, none⟩,
 ⟨some 21, .extract (.tmp 15) 1, none⟩,
 ⟨some 6, .assign (.tmp 20), none⟩,
 ⟨some 7, .assign (.tmp 21), none⟩])
 (.seq (.seq (.ops [⟨some 22, .move (.tmp 7), none⟩,
 ⟨some 23, .binOp .neq 39 (.tmp 22) (.const (.int .i64 0)) 39, none⟩])
 (.cond (.tmp 23)
 (.seq (.ops [⟨some 2, .assign (.const (.pointer none)), none⟩,
 ⟨some 3, .assign (.const (.pointer none)), none⟩,
 ⟨some 4, .assign (.const (.bool false)), none⟩])
 .ret)
 .skip))
 (.seq (.draw [⟨some 24, .move (.tmp 5), none⟩,
 ⟨some 25, .call ⟨.builtin .append, #[.const (.slice none 0 0), .tmp 24], #[23, 23]⟩, none⟩,
 ⟨some 26, .fieldAddr 30 (.tmp 1) 2, none⟩,
 ⟨some 27, .load 24 (.tmp 26), none⟩,
 ⟨some 28, .call ⟨.builtin .len, #[.tmp 27], #[24]⟩, none⟩,
 ⟨some 29, .binOp .mul 3 (.tmp 28) (.const (.int .i64 256)) 3, none⟩,
 ⟨some 30, .move (.tmp 5), none⟩,
 ⟨some 31, .call ⟨.builtin .len, #[.tmp 30], #[23]⟩, none⟩,
 ⟨some 32, .binOp .sub 3 (.tmp 29) (.tmp 31) 3, none⟩,
 ⟨some 33, .call ⟨.builtin .append, #[.tmp 25, .tmp 32], #[23, 3]⟩, none⟩,
 ⟨some 34, .fieldAddr 30 (.tmp 1) 2, none⟩,
 ⟨some 35, .load 24 (.tmp 34), none⟩,
 ⟨some 36, .build 46 #[(0, .tmp 33), (1, .tmp 35)], none⟩,
 ⟨some 37, .box 46 (.tmp 36), none⟩,
 ⟨some 8, .assign (.tmp 37), none⟩] [(1, 2), (1, 3), (1, 4), (1, 5), (1, 6), (1, 7), (1, 8), (1, 10), (9, 10), (1, 11), (9, 11)])
 (.seq (.ops [⟨some 38, .move (.tmp 6), none⟩,
 ⟨some 39, .move (.tmp 8), none⟩,
 ⟨some 2, .assign (.tmp 38), none⟩,
 ⟨some 3, .assign (.tmp 39), none⟩,
 ⟨some 4, .assign (.const (.bool true)), none⟩])
 .ret))))))
theorem ir11_eq : (Try.f11.body.map low, Try.f11.ntmps, Try.f11.results.toList) = (some ir11, 40, [.tmp 2, .tmp 3, .tmp 4]) := by kernel_rfl
def ir12_l0 : LC := (.seq (.ops [⟨some 33, .binOp .lss 3 (.tmp 32) (.tmp 31) 3, none⟩])
 (.seq (.cond (.tmp 33)
 .skip
 (.exit 1))
 (.seq (.block 2 (.seq (.ops [⟨some 34, .move (.tmp 32), none⟩,
 ⟨some 11, .assign (.tmp 34), none⟩])
 (.seq (.ops [⟨some 35, .move (.tmp 9), none⟩,
 ⟨some 36, .move (.tmp 10), none⟩,
 ⟨some 37, .call ⟨.value (.func 27), #[.tmp 35, .tmp 36], #[70, 73]⟩, none⟩,
 ⟨some 38, .unOp .not 4 (.tmp 37), none⟩])
 (.cond (.tmp 38)
 (.seq (.ops [⟨some 39, .move (.tmp 9), none⟩,
 ⟨some 40, .move (.tmp 11), none⟩,
 ⟨some 41, .nilCheck (.tmp 39), none⟩,
 ⟨some 42, .fieldAddr 72 (.tmp 41) 2, none⟩,
 ⟨some 43, .fieldAddr 38 (.tmp 42) 4, none⟩,
 ⟨none, .store 3 (.tmp 43) (.tmp 40), none⟩])
 (.seq (.draw [⟨some 44, .move (.tmp 9), none⟩,
 ⟨some 45, .nilCheck (.tmp 44), none⟩,
 ⟨some 46, .fieldAddr 72 (.tmp 45) 0, none⟩,
 ⟨some 47, .load 28 (.tmp 46), none⟩,
 ⟨some 48, .move (.tmp 9), none⟩,
 ⟨some 49, .nilCheck (.tmp 48), none⟩,
 ⟨some 50, .fieldAddr 72 (.tmp 49) 2, none⟩,
 ⟨some 51, .load 38 (.tmp 50), none⟩,
 ⟨none, .store 28 (.tmp 6) (.tmp 47), none⟩,
 ⟨none, .store 38 (.tmp 7) (.tmp 51), none⟩,
 ⟨some 8, .assign (.const (.int .i64 0)), none⟩] [(4, 8), (5, 8), (6, 8), (7, 8)])
 .ret))
 .skip))))
 (.ops [⟨some 52, .binOp .add 3 (.tmp 32) (.const (.int .i64 1)) 3, none⟩,
 ⟨some 32, .move (.tmp 52), none⟩]))))
def ir12 : LC := (.seq (.ops [⟨some 3, .box 28 (.tmp 0), none⟩,
 ⟨some 6, .alloc 28, none⟩,
 ⟨some 7, .alloc 38, none⟩,
 ⟨some 8, .assign (.const (.int .i64 0)), none⟩])
 (.seq (.block 0 (.seq (.ops [⟨some 13, .move (.tmp 1), none⟩,
 ⟨some 14, .binOp .eql 69 (.tmp 13) (.const .nilIface) 69, none⟩,
 ⟨some 12, .assign (.tmp 14), none⟩])
 (.cond (.tmp 12)
 (.seq (.ops [⟨some 15, .build 28 #[], none⟩,
 ⟨some 16, .build 38 #[], none⟩,
 ⟨none, .store 28 (.tmp 6) (.tmp 15), none⟩,
 ⟨none, .store 38 (.tmp 7) (.tmp 16), none⟩,
 ⟨some 8, .assign (.const (.int .i64 1)), none⟩])
 .ret)
 (.seq (.ops [⟨some 18, .move (.tmp 2), none⟩,
 ⟨some 19, .binOp .lss 3 (.tmp 18) (.const (.int .i64 0)) 3, none⟩,
 ⟨some 20, .move (.tmp 19), none⟩,
 ⟨some 21, .move (.tmp 2), some (20, false)⟩,
 ⟨some 22, .binOp .gtr 3 (.tmp 21) (.const (.int .i64 65536)) 3, some (20, false)⟩,
 ⟨some 23, .pick (.tmp 20) (.const (.bool true)) (.tmp 22), none⟩,
 ⟨some 17, .assign (.tmp 23), none⟩])
 (.cond (.tmp 17)
 (.seq (.ops [⟨some 24, .build 28 #[], none⟩,
 ⟨some 25, .build 38 #[], none⟩,
 ⟨none, .store 28 (.tmp 6) (.tmp 24), none⟩,
 ⟨none, .store 38 (.tmp 7) (.tmp 25), none⟩,
 ⟨some 8, .assign (.const (.int .i64 2)), none⟩])
 .ret)
 .skip)))))
 (.seq (.ops [⟨some 26, .load 28 (.tmp 3), none⟩,
 ⟨some 27, .move (.tmp 1), none⟩,
 ⟨some 28, .build 72 #[(0, .tmp 26), (1, .tmp 27)], none⟩,
 ⟨some 29, .box 72 (.tmp 28), none⟩,
 ⟨some 9, .assign (.tmp 29), none⟩])
 (.seq (.ops [⟨some 30, .call ⟨.value (.func 26), #[], #[]⟩, none⟩,
 ⟨some 10, .assign (.tmp 30), none⟩])
 (.seq (.seq (.ops [⟨some 31, .move (.tmp 2), none⟩,
 ⟨some 32, .move (.const (.int .i64 0)), none⟩])
 (.block 1 (.loop ir12_l0)))
 (.seq (.ops [⟨some 53, .move (.tmp 9), none⟩,
 ⟨some 54, .nilCheck (.tmp 53), none⟩,
 ⟨some 55, .fieldAddr 72 (.tmp 54) 0, none⟩,
 ⟨some 56, .load 28 (.tmp 55), none⟩,
 ⟨some 57, .move (.tmp 2), none⟩,
 ⟨some 58, .build 38 #[(0, .const (.int .i64 1)), (4, .tmp 57)], none⟩,
 ⟨none, .store 28 (.tmp 6) (.tmp 56), none⟩,
 ⟨none, .store 38 (.tmp 7) (.tmp 58), none⟩,
 ⟨some 8, .assign (.const (.int .i64 0)), none⟩])
 .ret))))))
theorem ir12_eq : (Try.f12.body.map low, Try.f12.ntmps, Try.f12.results.toList) = (some ir12, 59, [.cell 6 28, .cell 7 38, .tmp 8]) := by kernel_rfl
def ir15_l0 : LC := (.seq (.seq (.ops [⟨some 7, .move (.tmp 4), none⟩,
 ⟨some 8, .move (.tmp 0), none⟩,
 ⟨some 9, .call ⟨.builtin .len, #[.tmp 8], #[22]⟩, none⟩,
 ⟨some 10, .binOp .lss 3 (.tmp 7) (.tmp 9) 3, none⟩])
 (.cond (.tmp 10)
 .skip
 (.exit 0)))
 (.seq (.block 1 (.seq (.ops [⟨some 14, .move (.tmp 0), none⟩,
 ⟨some 15, .move (.tmp 4), none⟩,
 ⟨some 16, .indexAddr 22 (.tmp 14) (.tmp 15), none⟩,
 ⟨some 17, .load 50 (.tmp 16), none⟩,
 ⟨some 18, .buildSlice 22 1 #[(0, .tmp 17)], none⟩,
 ⟨some 19, .call ⟨.value (.func 30), #[.tmp 18], #[22]⟩, none⟩,
 ⟨some 13, .move (.tmp 19), none⟩,
 ⟨some 20, .extract (.tmp 13) 0, none⟩,
 ⟨some 21, .extract (.tmp 13) 1, none⟩,
 ⟨some 5, .assign (.tmp 20), none⟩,
 ⟨some 6, .assign (.tmp 21), none⟩])
 (.seq (.ops [⟨some 22, .move (.tmp 6), none⟩,
 ⟨some 23, .binOp .eql 39 (.tmp 22) (.const (.int .i64 0)) 39, none⟩])
 (.cond (.tmp 23)
 (.ops [⟨some 24, .move (.tmp 3), none⟩,
 ⟨some 25, .move (.tmp 5), none⟩,
 ⟨some 26, .call ⟨.builtin .append, #[.tmp 24, .tmp 25], #[23, 23]⟩, none⟩,
 ⟨some 3, .assign (.tmp 26), none⟩])
 .skip))))
 (.ops [⟨some 11, .move (.tmp 4), none⟩,
 ⟨some 12, .binOp .add 3 (.tmp 11) (.const (.int .i64 1)) 3, none⟩,
 ⟨some 4, .assign (.tmp 12), none⟩])))
def ir15 : LC := (.seq (.ops [⟨some 2, .assign (.const (.slice none 0 0)), none⟩])
 (.seq (.ops [⟨some 3, .assign (.const (.slice none 0 0)), none⟩])
 (.seq (.seq (.ops [⟨some 4, .assign (.const (.int .i64 0)), none⟩])
 (.block 0 (.loop ir15_l0)))
 (.seq (.ops [⟨some 27, .move (.tmp 3), none⟩,
 ⟨some 2, .assign (.tmp 27), none⟩])
 .ret))))
theorem ir15_eq : (Try.f15.body.map low, Try.f15.ntmps, Try.f15.results.toList) = (some ir15, 28, [.tmp 2]) := by kernel_rfl
def ir26 : LC := (.seq (.ops [⟨some 0, .assign (.const (.map none)), none⟩])
 (.seq (.ops [⟨some 1, .assign (.func 33), none⟩])
 (.seq (.ops [⟨some 2, .makeMap 73 none, none⟩,
 ⟨some 3, .move (.tmp 1), none⟩,
 ⟨some 4, .call ⟨.value (.tmp 3), #[.func 35], #[86]⟩, none⟩,
 ⟨none, .insert 73 (.tmp 2) (.const (.int .i64 8)) (.tmp 4), none⟩,
 ⟨some 5, .move (.tmp 1), none⟩,
 ⟨some 6, .call ⟨.value (.tmp 5), #[.func 36], #[86]⟩, none⟩,
 ⟨none, .insert 73 (.tmp 2) (.const (.int .i64 9)) (.tmp 6), none⟩,
 ⟨some 7, .move (.tmp 1), none⟩,
 ⟨some 8, .call ⟨.value (.tmp 7), #[.func 37], #[86]⟩, none⟩,
 ⟨none, .insert 73 (.tmp 2) (.const (.int .i64 10)) (.tmp 8), none⟩,
 ⟨some 9, .move (.tmp 1), none⟩,
 ⟨some 10, .call ⟨.value (.tmp 9), #[.func 38], #[86]⟩, none⟩,
 ⟨none, .insert 73 (.tmp 2) (.const (.int .i64 13)) (.tmp 10), none⟩,
 ⟨some 11, .move (.tmp 1), none⟩,
 ⟨some 12, .call ⟨.value (.tmp 11), #[.func 39], #[86]⟩, none⟩,
 ⟨none, .insert 73 (.tmp 2) (.const (.int .i64 14)) (.tmp 12), none⟩,
 ⟨some 13, .move (.tmp 1), none⟩,
 ⟨some 14, .call ⟨.value (.tmp 13), #[.func 40], #[86]⟩, none⟩,
 ⟨none, .insert 73 (.tmp 2) (.const (.int .i64 15)) (.tmp 14), none⟩,
 ⟨some 15, .move (.tmp 1), none⟩,
 ⟨some 16, .call ⟨.value (.tmp 15), #[.func 41], #[86]⟩, none⟩,
 ⟨none, .insert 73 (.tmp 2) (.const (.int .i64 16)) (.tmp 16), none⟩,
 ⟨some 17, .move (.tmp 1), none⟩,
 ⟨some 18, .call ⟨.value (.tmp 17), #[.func 42], #[86]⟩, none⟩,
 ⟨none, .insert 73 (.tmp 2) (.const (.int .i64 17)) (.tmp 18), none⟩,
 ⟨none, .insert 73 (.tmp 2) (.const (.int .i64 11)) (.func 43), none⟩,
 ⟨none, .insert 73 (.tmp 2) (.const (.int .i64 12)) (.func 44), none⟩,
 ⟨some 19, .move (.tmp 2), none⟩,
 ⟨some 0, .assign (.tmp 19), none⟩])
 .ret)))
theorem ir26_eq : (Try.f26.body.map low, Try.f26.ntmps, Try.f26.results.toList) = (some ir26, 20, [.tmp 0]) := by kernel_rfl
def ir27_s0 : LC := (.ops [⟨some 4, .assign (.const (.bool false)), none⟩])
def ir27_s1 : LC := (.seq (.ops [⟨some 26, .move (.tmp 0), none⟩,
 ⟨some 27, .nilCheck (.tmp 26), none⟩,
 ⟨some 28, .fieldAddr 72 (.tmp 27) 0, none⟩,
 ⟨some 29, .fieldAddr 28 (.tmp 28) 1, none⟩,
 ⟨some 30, .load 25 (.tmp 29), none⟩,
 ⟨some 31, .binOp .rem 25 (.tmp 30) (.const (.int .u32 4)) 25, none⟩,
 ⟨some 32, .binOp .neq 25 (.tmp 31) (.const (.int .u32 0)) 25, none⟩])
 (.cond (.tmp 32)
 (.seq (.ops [⟨some 33, .move (.tmp 0), none⟩,
 ⟨some 34, .call ⟨.value (.func 45), #[.tmp 33, .const (.int .i64 6)], #[70, 36]⟩, none⟩,
 ⟨some 4, .assign (.tmp 34), none⟩])
 .ret)
 .skip))
def ir27_s2 : LC := (.draw [⟨some 36, .move (.tmp 0), none⟩,
 ⟨some 37, .nilCheck (.tmp 36), none⟩,
 ⟨some 38, .fieldAddr 72 (.tmp 37) 1, none⟩,
 ⟨some 39, .load 69 (.tmp 38), none⟩,
 ⟨some 40, .move (.tmp 0), none⟩,
 ⟨some 41, .nilCheck (.tmp 40), none⟩,
 ⟨some 42, .fieldAddr 72 (.tmp 41) 0, none⟩,
 ⟨some 43, .fieldAddr 28 (.tmp 42) 1, none⟩,
 ⟨some 44, .load 25 (.tmp 43), none⟩,
 ⟨some 45, .call ⟨.value (.func 17), #[.tmp 39, .tmp 44, .const (.int .i64 4), .const (.int .i64 4)], #[69, 25, 3, 3]⟩, none⟩,
 ⟨some 35, .move (.tmp 45), none⟩,
 ⟨some 46, .extract (.tmp 35) 0, none⟩,
 ⟨some 47, .extract (.tmp 35) 1, none⟩,
 ⟨some 48, .extract (.tmp 35) 2, none⟩,
 ⟨some 5, .assign (.tmp 46), none⟩,
 ⟨some 6, .assign (.tmp 47), none⟩,
 ⟨some 7, .assign (.tmp 48), none⟩] [])
def ir27_s3 : LC := (.seq (.ops [⟨some 49, .move (.tmp 7), none⟩,
 ⟨some 50, .unOp .not 4 (.tmp 49), none⟩])
 (.cond (.tmp 50)
 (.seq (.ops [⟨some 51, .move (.tmp 0), none⟩,
 ⟨some 52, .move (.tmp 6), none⟩,
 ⟨some 53, .call ⟨.value (.func 46), #[.tmp 51, .tmp 52, .const (.int .i64 4)], #[70, 25, 3]⟩, none⟩,
 ⟨some 4, .assign (.tmp 53), none⟩])
 .ret)
 .skip))
def ir27_s4 : LC := (.ops [⟨some 55, .move (.tmp 5), none⟩,
 ⟨some 56, .call ⟨.value (.func 47), #[.tmp 55], #[23]⟩, none⟩,
 ⟨some 54, .move (.tmp 56), none⟩,
 ⟨some 57, .extract (.tmp 54) 0, none⟩,
 ⟨some 58, .extract (.tmp 54) 1, none⟩,
 ⟨some 8, .alloc 50, none⟩,
 ⟨none, .store 50 (.tmp 8) (.tmp 57), none⟩,
 ⟨some 9, .assign (.tmp 58), none⟩])
def ir27_s5 : LC := (.seq (.ops [⟨some 59, .move (.tmp 9), none⟩,
 ⟨some 60, .binOp .neq 39 (.tmp 59) (.const (.int .i64 0)) 39, none⟩])
 (.cond (.tmp 60)
 (.seq (.ops [⟨some 61, .move (.tmp 0), none⟩,
 ⟨some 62, .call ⟨.value (.func 45), #[.tmp 61, .const (.int .i64 6)], #[70, 36]⟩, none⟩,
 ⟨some 4, .assign (.tmp 62), none⟩])
 .ret)
 .skip))
def ir27_s6 : LC := (.ops [⟨some 63, .move (.tmp 0), none⟩,
 ⟨some 64, .nilCheck (.tmp 63), none⟩,
 ⟨some 65, .fieldAddr 72 (.tmp 64) 0, none⟩,
 ⟨some 10, .assign (.tmp 65), none⟩])
def ir27_s7 : LC := (.draw [⟨some 66, .move (.tmp 10), none⟩,
 ⟨some 67, .fieldAddr 50 (.tmp 8) 1, none⟩,
 ⟨some 68, .load 3 (.tmp 67), none⟩,
 ⟨some 69, .nilCheck (.tmp 66), none⟩,
 ⟨some 70, .fieldAddr 28 (.tmp 69) 0, none⟩,
 ⟨some 71, .indexAddr 26 (.tmp 70) (.tmp 68), none⟩,
 ⟨some 72, .move (.tmp 10), none⟩,
 ⟨some 73, .fieldAddr 50 (.tmp 8) 2, none⟩,
 ⟨some 74, .load 3 (.tmp 73), none⟩,
 ⟨some 75, .nilCheck (.tmp 72), none⟩,
 ⟨some 76, .fieldAddr 28 (.tmp 75) 0, none⟩,
 ⟨some 77, .indexAddr 26 (.tmp 76) (.tmp 74), none⟩,
 ⟨some 78, .load 25 (.tmp 77), none⟩,
 ⟨some 79, .move (.tmp 10), none⟩,
 ⟨some 80, .fieldAddr 50 (.tmp 8) 3, none⟩,
 ⟨some 81, .load 3 (.tmp 80), none⟩,
 ⟨some 82, .nilCheck (.tmp 79), none⟩,
 ⟨some 83, .fieldAddr 28 (.tmp 82) 0, none⟩,
 ⟨some 84, .indexAddr 26 (.tmp 83) (.tmp 81), none⟩,
 ⟨some 85, .load 25 (.tmp 84), none⟩,
 ⟨some 11, .assign (.tmp 71), none⟩,
 ⟨some 12, .assign (.tmp 78), none⟩,
 ⟨some 13, .assign (.tmp 85), none⟩] [])
def ir27_s8 : LC := (.draw [⟨some 86, .move (.tmp 10), none⟩,
 ⟨some 87, .nilCheck (.tmp 86), none⟩,
 ⟨some 88, .fieldAddr 28 (.tmp 87) 1, none⟩,
 ⟨some 89, .load 25 (.tmp 88), none⟩,
 ⟨some 90, .binOp .add 25 (.tmp 89) (.const (.int .u32 4)) 25, none⟩,
 ⟨some 91, .move (.tmp 10), none⟩,
 ⟨some 92, .nilCheck (.tmp 91), none⟩,
 ⟨some 93, .fieldAddr 28 (.tmp 92) 1, none⟩,
 ⟨some 94, .load 25 (.tmp 93), none⟩,
 ⟨some 95, .fieldAddr 50 (.tmp 8) 4, none⟩,
 ⟨some 96, .load 3 (.tmp 95), none⟩,
 ⟨some 97, .convert 3 21 (.tmp 96), none⟩,
 ⟨some 98, .convert 21 25 (.tmp 97), none⟩,
 ⟨some 99, .binOp .mul 25 (.const (.int .u32 4)) (.tmp 98) 25, none⟩,
 ⟨some 100, .binOp .add 25 (.tmp 94) (.tmp 99) 25, none⟩,
 ⟨some 14, .assign (.tmp 90), none⟩,
 ⟨some 15, .assign (.tmp 100), none⟩] [])
def ir27_s9 : LC := (.ops [⟨some 101, .move (.tmp 12), none⟩,
 ⟨some 102, .fieldAddr 50 (.tmp 8) 4, none⟩,
 ⟨some 103, .load 3 (.tmp 102), none⟩,
 ⟨some 104, .convert 3 21 (.tmp 103), none⟩,
 ⟨some 105, .convert 21 25 (.tmp 104), none⟩,
 ⟨some 106, .binOp .add 25 (.tmp 101) (.tmp 105) 25, none⟩,
 ⟨some 16, .assign (.tmp 106), none⟩])
def ir27_s10 : LC := (.seq (.ops [⟨some 107, .fieldAddr 50 (.tmp 8) 0, none⟩,
 ⟨some 108, .load 48 (.tmp 107), none⟩])
 (.block 0 (.seq (.ops [⟨some 127, .binOp .eql 48 (.tmp 108) (.const (.int .i64 1)) 48, none⟩,
 ⟨some 126, .assign (.tmp 127), none⟩])
 (.cond (.tmp 126)
 .skip
 (.seq (.ops [⟨some 129, .binOp .eql 48 (.tmp 108) (.const (.int .i64 2)) 48, none⟩,
 ⟨some 128, .assign (.tmp 129), none⟩])
 (.cond (.tmp 128)
 (.seq (.ops [⟨some 130, .move (.tmp 0), none⟩,
 ⟨some 131, .call ⟨.value (.func 45), #[.tmp 130, .const (.int .i64 4)], #[70, 36]⟩, none⟩,
 ⟨some 4, .assign (.tmp 131), none⟩])
 .ret)
 (.seq (.ops [⟨some 133, .binOp .eql 48 (.tmp 108) (.const (.int .i64 4)) 48, none⟩,
 ⟨some 132, .assign (.tmp 133), none⟩])
 (.cond (.tmp 132)
 (.seq (.ops [⟨some 134, .move (.tmp 0), none⟩,
 ⟨some 135, .call ⟨.value (.func 45), #[.tmp 134, .const (.int .i64 3)], #[70, 36]⟩, none⟩,
 ⟨some 4, .assign (.tmp 135), none⟩])
 .ret)
 (.seq (.ops [⟨some 137, .binOp .eql 48 (.tmp 108) (.const (.int .i64 3)) 48, none⟩,
 ⟨some 136, .assign (.tmp 137), none⟩])
 (.cond (.tmp 136)
 (.seq (.ops [⟨some 138, .move (.tmp 0), none⟩,
 ⟨some 139, .fieldAddr 50 (.tmp 8) 4, none⟩,
 ⟨some 140, .load 3 (.tmp 139), none⟩,
 ⟨some 141, .build 38 #[(0, .const (.int .i64 2)), (1, .tmp 140)], none⟩,
 ⟨some 142, .nilCheck (.tmp 138), none⟩,
 ⟨some 143, .fieldAddr 72 (.tmp 142) 2, none⟩,
 ⟨none, .store 38 (.tmp 143) (.tmp 141), none⟩])
 (.seq (.ops [⟨some 4, .assign (.const (.bool false)), none⟩])
 .ret))
 (.seq (.ops [⟨some 145, .binOp .eql 48 (.tmp 108) (.const (.int .i64 5)) 48, none⟩,
 ⟨some 144, .assign (.tmp 145), none⟩])
 (.cond (.tmp 144)
 (.ops [⟨some 146, .move (.tmp 11), none⟩,
 ⟨some 147, .fieldAddr 50 (.tmp 8) 4, none⟩,
 ⟨some 148, .load 3 (.tmp 147), none⟩,
 ⟨some 149, .convert 3 21 (.tmp 148), none⟩,
 ⟨some 150, .convert 21 25 (.tmp 149), none⟩,
 ⟨some 151, .nilCheck (.tmp 146), none⟩,
 ⟨none, .store 25 (.tmp 151) (.tmp 150), none⟩])
 (.seq (.ops [⟨some 153, .binOp .eql 48 (.tmp 108) (.const (.int .i64 6)) 48, none⟩,
 ⟨some 152, .assign (.tmp 153), none⟩])
 (.cond (.tmp 152)
 (.draw [⟨some 154, .move (.tmp 11), none⟩,
 ⟨some 155, .move (.tmp 11), none⟩,
 ⟨some 156, .nilCheck (.tmp 155), none⟩,
 ⟨some 157, .load 25 (.tmp 156), none⟩,
 ⟨some 158, .binOp .and 25 (.tmp 157) (.const (.int .u32 65535)) 25, none⟩,
 ⟨some 159, .fieldAddr 50 (.tmp 8) 4, none⟩,
 ⟨some 160, .load 3 (.tmp 159), none⟩,
 ⟨some 161, .convert 3 25 (.tmp 160), none⟩,
 ⟨some 162, .binOp .shl 25 (.tmp 161) (.const (.int .u64 16)) 94, none⟩,
 ⟨some 163, .binOp .or 25 (.tmp 158) (.tmp 162) 25, none⟩,
 ⟨some 164, .nilCheck (.tmp 154), none⟩,
 ⟨none, .store 25 (.tmp 164) (.tmp 163), none⟩] [])
 (.seq (.ops [⟨some 166, .binOp .eql 48 (.tmp 108) (.const (.int .i64 7)) 48, none⟩,
 ⟨some 165, .assign (.tmp 166), none⟩])
 (.cond (.tmp 165)
 (.ops [⟨some 167, .move (.tmp 11), none⟩,
 ⟨some 168, .move (.tmp 12), none⟩,
 ⟨some 169, .nilCheck (.tmp 167), none⟩,
 ⟨none, .store 25 (.tmp 169) (.tmp 168), none⟩])
 (.seq (.ops [⟨some 171, .binOp .eql 48 (.tmp 108) (.const (.int .i64 18)) 48, none⟩,
 ⟨some 170, .assign (.tmp 171), none⟩])
 (.cond (.tmp 170)
 (.ops [⟨some 172, .move (.tmp 11), none⟩,
 ⟨some 173, .move (.tmp 16), none⟩,
 ⟨some 174, .nilCheck (.tmp 172), none⟩,
 ⟨none, .store 25 (.tmp 174) (.tmp 173), none⟩])
 (.seq (.seq (.ops [⟨some 176, .binOp .eql 48 (.tmp 108) (.const (.int .i64 19)) 48, none⟩,
 ⟨some 175, .assign (.tmp 176), none⟩])
 (.cond (.tmp 175)
 .skip
 (.ops [⟨some 177, .binOp .eql 48 (.tmp 108) (.const (.int .i64 21)) 48, none⟩,
 ⟨some 175, .assign (.tmp 177), none⟩])))
 (.cond (.tmp 175)
 (.seq (.ops [⟨some 17, .assign (.const (.int .i64 4)), none⟩])
 (.seq (.seq (.ops [⟨some 178, .fieldAddr 50 (.tmp 8) 0, none⟩,
 ⟨some 179, .load 48 (.tmp 178), none⟩,
 ⟨some 180, .binOp .eql 48 (.tmp 179) (.const (.int .i64 21)) 48, none⟩])
 (.cond (.tmp 180)
 (.ops [⟨some 17, .assign (.const (.int .i64 1)), none⟩])
 .skip))
 (.seq (.ops [⟨some 182, .move (.tmp 0), none⟩,
 ⟨some 183, .nilCheck (.tmp 182), none⟩,
 ⟨some 184, .fieldAddr 72 (.tmp 183) 1, none⟩,
 ⟨some 185, .load 69 (.tmp 184), none⟩,
 ⟨some 186, .move (.tmp 16), none⟩,
 ⟨some 187, .move (.tmp 17), none⟩,
 ⟨some 188, .call ⟨.value (.func 17), #[.tmp 185, .tmp 186, .tmp 187, .const (.int .i64 1)], #[69, 25, 3, 3]⟩, none⟩,
 ⟨some 181, .move (.tmp 188), none⟩,
 ⟨some 189, .extract (.tmp 181) 0, none⟩,
 ⟨some 190, .extract (.tmp 181) 1, none⟩,
 ⟨some 191, .extract (.tmp 181) 2, none⟩,
 ⟨some 18, .assign (.tmp 189), none⟩,
 ⟨some 19, .assign (.tmp 190), none⟩,
 ⟨some 20, .assign (.tmp 191), none⟩])
 (.seq (.seq (.ops [⟨some 192, .move (.tmp 20), none⟩,
 ⟨some 193, .unOp .not 4 (.tmp 192), none⟩])
 (.cond (.tmp 193)
 (.seq (.ops [⟨some 194, .move (.tmp 0), none⟩,
 ⟨some 195, .move (.tmp 19), none⟩,
 ⟨some 196, .call ⟨.value (.func 46), #[.tmp 194, .tmp 195, .const (.int .i64 1)], #[70, 25, 3]⟩, none⟩,
 ⟨some 4, .assign (.tmp 196), none⟩])
 .ret)
 .skip))
 (.ops [⟨some 197, .move (.tmp 11), none⟩,
 ⟨some 198, .move (.tmp 18), none⟩,
 ⟨some 199, .buildSlice 23 3 #[(0, .const (.int .u8 0)), (1, .const (.int .u8 0)), (2, .const (.int .u8 0))], none⟩,
 ⟨some 200, .call ⟨.builtin .append, #[.tmp 198, .tmp 199], #[23, 23]⟩, none⟩,
 ⟨some 201, .call ⟨.value (.func 48), #[.tmp 200], #[23]⟩, none⟩,
 ⟨some 202, .nilCheck (.tmp 197), none⟩,
 ⟨none, .store 25 (.tmp 202) (.tmp 201), none⟩])))))
 (.seq (.seq (.ops [⟨some 204, .binOp .eql 48 (.tmp 108) (.const (.int .i64 20)) 48, none⟩,
 ⟨some 203, .assign (.tmp 204), none⟩])
 (.cond (.tmp 203)
 .skip
 (.ops [⟨some 205, .binOp .eql 48 (.tmp 108) (.const (.int .i64 22)) 48, none⟩,
 ⟨some 203, .assign (.tmp 205), none⟩])))
 (.cond (.tmp 203)
 (.seq (.draw [⟨some 206, .move (.tmp 11), none⟩,
 ⟨some 207, .nilCheck (.tmp 206), none⟩,
 ⟨some 208, .load 25 (.tmp 207), none⟩,
 ⟨some 209, .convert 25 5 (.tmp 208), none⟩,
 ⟨some 210, .move (.tmp 11), none⟩,
 ⟨some 211, .nilCheck (.tmp 210), none⟩,
 ⟨some 212, .load 25 (.tmp 211), none⟩,
 ⟨some 213, .binOp .shr 25 (.tmp 212) (.const (.int .u64 8)) 94, none⟩,
 ⟨some 214, .convert 25 5 (.tmp 213), none⟩,
 ⟨some 215, .move (.tmp 11), none⟩,
 ⟨some 216, .nilCheck (.tmp 215), none⟩,
 ⟨some 217, .load 25 (.tmp 216), none⟩,
 ⟨some 218, .binOp .shr 25 (.tmp 217) (.const (.int .u64 16)) 94, none⟩,
 ⟨some 219, .convert 25 5 (.tmp 218), none⟩,
 ⟨some 220, .move (.tmp 11), none⟩,
 ⟨some 221, .nilCheck (.tmp 220), none⟩,
 ⟨some 222, .load 25 (.tmp 221), none⟩,
 ⟨some 223, .binOp .shr 25 (.tmp 222) (.const (.int .u64 24)) 94, none⟩,
 ⟨some 224, .convert 25 5 (.tmp 223), none⟩,
 ⟨some 225, .buildSlice 23 4 #[(0, .tmp 209), (1, .tmp 214), (2, .tmp 219), (3, .tmp 224)], none⟩,
 ⟨some 21, .assign (.tmp 225), none⟩] [])
 (.seq (.seq (.ops [⟨some 226, .fieldAddr 50 (.tmp 8) 0, none⟩,
 ⟨some 227, .load 48 (.tmp 226), none⟩,
 ⟨some 228, .binOp .eql 48 (.tmp 227) (.const (.int .i64 22)) 48, none⟩])
 (.cond (.tmp 228)
 (.ops [⟨some 229, .move (.tmp 21), none⟩,
 ⟨some 230, .slice 23 (.tmp 229) none (some (.const (.int .i64 1))) none, none⟩,
 ⟨some 21, .assign (.tmp 230), none⟩])
 .skip))
 (.seq (.ops [⟨some 232, .move (.tmp 0), none⟩,
 ⟨some 233, .nilCheck (.tmp 232), none⟩,
 ⟨some 234, .fieldAddr 72 (.tmp 233) 1, none⟩,
 ⟨some 235, .load 69 (.tmp 234), none⟩,
 ⟨some 236, .move (.tmp 16), none⟩,
 ⟨some 237, .move (.tmp 21), none⟩,
 ⟨some 238, .call ⟨.value (.func 19), #[.tmp 235, .tmp 236, .tmp 237], #[69, 25, 23]⟩, none⟩,
 ⟨some 231, .move (.tmp 238), none⟩,
 ⟨some 239, .extract (.tmp 231) 0, none⟩,
 ⟨some 240, .extract (.tmp 231) 1, none⟩,
 ⟨some 22, .assign (.tmp 239), none⟩,
 ⟨some 23, .assign (.tmp 240), none⟩])
 (.seq (.ops [⟨some 241, .move (.tmp 23), none⟩,
 ⟨some 242, .unOp .not 4 (.tmp 241), none⟩])
 (.cond (.tmp 242)
 (.seq (.ops [⟨some 243, .move (.tmp 0), none⟩,
 ⟨some 244, .move (.tmp 22), none⟩,
 ⟨some 245, .call ⟨.value (.func 46), #[.tmp 243, .tmp 244, .const (.int .i64 2)], #[70, 25, 3]⟩, none⟩,
 ⟨some 4, .assign (.tmp 245), none⟩])
 .ret)
 .skip)))))
 (.seq (.ops [⟨some 247, .binOp .eql 48 (.tmp 108) (.const (.int .i64 25)) 48, none⟩,
 ⟨some 246, .assign (.tmp 247), none⟩])
 (.cond (.tmp 246)
 (.seq (.ops [⟨some 248, .move (.tmp 11), none⟩,
 ⟨some 249, .move (.tmp 14), none⟩,
 ⟨some 250, .nilCheck (.tmp 248), none⟩,
 ⟨none, .store 25 (.tmp 250) (.tmp 249), none⟩])
 (.ops [⟨some 251, .move (.tmp 15), none⟩,
 ⟨some 14, .assign (.tmp 251), none⟩]))
 (.seq (.ops [⟨some 253, .binOp .eql 48 (.tmp 108) (.const (.int .i64 23)) 48, none⟩,
 ⟨some 252, .assign (.tmp 253), none⟩])
 (.cond (.tmp 252)
 (.ops [⟨some 254, .move (.tmp 15), none⟩,
 ⟨some 14, .assign (.tmp 254), none⟩])
 (.seq (.ops [⟨some 256, .binOp .eql 48 (.tmp 108) (.const (.int .i64 24)) 48, none⟩,
 ⟨some 255, .assign (.tmp 256), none⟩])
 (.cond (.tmp 255)
 (.ops [⟨some 257, .move (.tmp 12), none⟩,
 ⟨some 14, .assign (.tmp 257), none⟩])
 (.seq (.seq (.ops [⟨some 259, .binOp .eql 48 (.tmp 108) (.const (.int .i64 26)) 48, none⟩,
 ⟨some 258, .assign (.tmp 259), none⟩])
 (.cond (.tmp 258)
 .skip
 (.seq (.ops [⟨some 260, .binOp .eql 48 (.tmp 108) (.const (.int .i64 27)) 48, none⟩,
 ⟨some 258, .assign (.tmp 260), none⟩])
 (.cond (.tmp 258)
 .skip
 (.ops [⟨some 261, .binOp .eql 48 (.tmp 108) (.const (.int .i64 28)) 48, none⟩,
 ⟨some 258, .assign (.tmp 261), none⟩])))))
 (.cond (.tmp 258)
 (.seq (.ops [⟨some 262, .fieldAddr 50 (.tmp 8) 0, none⟩,
 ⟨some 263, .load 48 (.tmp 262), none⟩,
 ⟨some 264, .binOp .eql 48 (.tmp 263) (.const (.int .i64 26)) 48, none⟩,
 ⟨some 265, .move (.tmp 264), none⟩,
 ⟨some 266, .move (.tmp 11), some (265, true)⟩,
 ⟨some 267, .nilCheck (.tmp 266), some (265, true)⟩,
 ⟨some 268, .load 25 (.tmp 267), some (265, true)⟩,
 ⟨some 269, .move (.tmp 12), some (265, true)⟩,
 ⟨some 270, .binOp .eql 25 (.tmp 268) (.tmp 269) 25, some (265, true)⟩,
 ⟨some 271, .pick (.tmp 265) (.tmp 270) (.const (.bool false)), none⟩,
 ⟨some 272, .move (.tmp 271), none⟩,
 ⟨some 273, .fieldAddr 50 (.tmp 8) 0, some (272, false)⟩,
 ⟨some 274, .load 48 (.tmp 273), some (272, false)⟩,
 ⟨some 275, .binOp .eql 48 (.tmp 274) (.const (.int .i64 27)) 48, some (272, false)⟩,
 ⟨some 276, .move (.tmp 275), some (272, false)⟩,
 ⟨some 277, .move (.tmp 11), some (276, true)⟩,
 ⟨some 278, .nilCheck (.tmp 277), some (276, true)⟩,
 ⟨some 279, .load 25 (.tmp 278), some (276, true)⟩,
 ⟨some 280, .move (.tmp 12), some (276, true)⟩,
 ⟨some 281, .binOp .neq 25 (.tmp 279) (.tmp 280) 25, some (276, true)⟩,
 ⟨some 282, .pick (.tmp 276) (.tmp 281) (.const (.bool false)), some (272, false)⟩,
 ⟨some 283, .pick (.tmp 272) (.const (.bool true)) (.tmp 282), none⟩,
 ⟨some 284, .move (.tmp 283), none⟩,
 ⟨some 285, .fieldAddr 50 (.tmp 8) 0, some (284, false)⟩,
 ⟨some 286, .load 48 (.tmp 285), some (284, false)⟩,
 ⟨some 287, .binOp .eql 48 (.tmp 286) (.const (.int .i64 28)) 48, some (284, false)⟩,
 ⟨some 288, .move (.tmp 287), some (284, false)⟩,
 ⟨some 289, .move (.tmp 11), some (288, true)⟩,
 ⟨some 290, .nilCheck (.tmp 289), some (288, true)⟩,
 ⟨some 291, .load 25 (.tmp 290), some (288, true)⟩,
 ⟨some 292, .move (.tmp 12), some (288, true)⟩,
 ⟨some 293, .binOp .lss 25 (.tmp 291) (.tmp 292) 25, some (288, true)⟩,
 ⟨some 294, .pick (.tmp 288) (.tmp 293) (.const (.bool false)), some (284, false)⟩,
 ⟨some 295, .pick (.tmp 284) (.const (.bool true)) (.tmp 294), none⟩])
 (.cond (.tmp 295)
 (.ops [⟨some 296, .move (.tmp 15), none⟩,
 ⟨some 14, .assign (.tmp 296), none⟩])
 .skip))
 (.seq (.ops [⟨some 110, .move (.tmp 1), none⟩,
 ⟨some 111, .fieldAddr 50 (.tmp 8) 0, none⟩,
 ⟨some 112, .load 48 (.tmp 111), none⟩,
 ⟨some 113, .lookup 73 (.tmp 110) (.tmp 112) false, none⟩,
 ⟨some 114, .move (.tmp 12), none⟩,
 ⟨some 115, .move (.tmp 13), none⟩,
 ⟨some 116, .call ⟨.value (.tmp 113), #[.tmp 114, .tmp 115], #[25, 25]⟩, none⟩,
 ⟨some 109, .move (.tmp 116), none⟩,
 ⟨some 117, .extract (.tmp 109) 0, none⟩,
 ⟨some 118, .extract (.tmp 109) 1, none⟩,
 ⟨some 24, .assign (.tmp 117), none⟩,
 ⟨some 25, .assign (.tmp 118), none⟩])
 (.seq (.seq (.ops [⟨some 119, .move (.tmp 25), none⟩,
 ⟨some 120, .unOp .not 4 (.tmp 119), none⟩])
 (.cond (.tmp 120)
 (.seq (.ops [⟨some 121, .move (.tmp 0), none⟩,
 ⟨some 122, .call ⟨.value (.func 45), #[.tmp 121, .const (.int .i64 7)], #[70, 36]⟩, none⟩,
 ⟨some 4, .assign (.tmp 122), none⟩])
 .ret)
 .skip))
 (.ops [⟨some 123, .move (.tmp 11), none⟩,
 ⟨some 124, .move (.tmp 24), none⟩,
 ⟨some 125, .nilCheck (.tmp 123), none⟩,
 ⟨none, .store 25 (.tmp 125) (.tmp 124), none⟩])))))))))))))))))))))))))))))))))
def ir27_s11 : LC := (.ops [⟨some 297, .move (.tmp 10), none⟩,
 ⟨some 298, .move (.tmp 14), none⟩,
 ⟨some 299, .nilCheck (.tmp 297), none⟩,
 ⟨some 300, .fieldAddr 28 (.tmp 299) 1, none⟩,
 ⟨none, .store 25 (.tmp 300) (.tmp 298), none⟩])
def ir27_s12 : LC := (.ops [⟨some 4, .assign (.const (.bool true)), none⟩])
def ir27_s13 : LC := .ret
def ir27_r13 : LC := ir27_s13
def ir27_r12 : LC := .seq ir27_s12 ir27_r13
def ir27_r11 : LC := .seq ir27_s11 ir27_r12
def ir27_r10 : LC := .seq ir27_s10 ir27_r11
def ir27_r9 : LC := .seq ir27_s9 ir27_r10
def ir27_r8 : LC := .seq ir27_s8 ir27_r9
def ir27_r7 : LC := .seq ir27_s7 ir27_r8
def ir27_r6 : LC := .seq ir27_s6 ir27_r7
def ir27_r5 : LC := .seq ir27_s5 ir27_r6
def ir27_r4 : LC := .seq ir27_s4 ir27_r5
def ir27_r3 : LC := .seq ir27_s3 ir27_r4
def ir27_r2 : LC := .seq ir27_s2 ir27_r3
def ir27_r1 : LC := .seq ir27_s1 ir27_r2
def ir27_r0 : LC := .seq ir27_s0 ir27_r1
def ir27 : LC := ir27_r0
theorem ir27_eq : (Try.f27.body.map low, Try.f27.ntmps, Try.f27.results.toList) = (some ir27, 301, [.tmp 4]) := by kernel_rfl
def ir30_l0 : LC := (.seq (.ops [⟨some 16, .binOp .lss 3 (.tmp 15) (.tmp 14) 3, none⟩])
 (.seq (.cond (.tmp 16)
 .skip
 (.exit 0))
 (.seq (.block 1 (.seq (.ops [⟨some 17, .indexAddr 22 (.tmp 13) (.tmp 15), none⟩,
 ⟨some 18, .load 50 (.tmp 17), none⟩,
 ⟨some 6, .alloc 50, none⟩,
 ⟨none, .store 50 (.tmp 6) (.tmp 18), none⟩])
 (.seq (.ops [⟨some 20, .load 50 (.tmp 6), none⟩,
 ⟨some 21, .call ⟨.value (.func 52), #[.tmp 20], #[50]⟩, none⟩,
 ⟨some 19, .move (.tmp 21), none⟩,
 ⟨some 22, .extract (.tmp 19) 0, none⟩,
 ⟨some 23, .extract (.tmp 19) 1, none⟩,
 ⟨some 7, .assign (.tmp 22), none⟩,
 ⟨some 8, .assign (.tmp 23), none⟩])
 (.seq (.seq (.ops [⟨some 24, .move (.tmp 8), none⟩,
 ⟨some 25, .binOp .neq 39 (.tmp 24) (.const (.int .i64 0)) 39, none⟩])
 (.cond (.tmp 25)
 (.seq (.ops [⟨some 26, .move (.tmp 8), none⟩,
 ⟨some 2, .assign (.const (.slice none 0 0)), none⟩,
 ⟨some 3, .assign (.tmp 26), none⟩])
 .ret)
 .skip))
 (.ops [⟨some 27, .move (.tmp 4), none⟩,
 ⟨some 28, .move (.tmp 7), none⟩,
 ⟨some 29, .convert 25 5 (.tmp 28), none⟩,
 ⟨some 30, .move (.tmp 7), none⟩,
 ⟨some 31, .binOp .shr 25 (.tmp 30) (.const (.int .u64 8)) 94, none⟩,
 ⟨some 32, .convert 25 5 (.tmp 31), none⟩,
 ⟨some 33, .move (.tmp 7), none⟩,
 ⟨some 34, .binOp .shr 25 (.tmp 33) (.const (.int .u64 16)) 94, none⟩,
 ⟨some 35, .convert 25 5 (.tmp 34), none⟩,
 ⟨some 36, .move (.tmp 7), none⟩,
 ⟨some 37, .binOp .shr 25 (.tmp 36) (.const (.int .u64 24)) 94, none⟩,
 ⟨some 38, .convert 25 5 (.tmp 37), none⟩,
 ⟨some 39, .buildSlice 23 4 #[(0, .tmp 29), (1, .tmp 32), (2, .tmp 35), (3, .tmp 38)], none⟩,
 ⟨some 40, .call ⟨.builtin .append, #[.tmp 27, .tmp 39], #[23, 23]⟩, none⟩,
 ⟨some 4, .assign (.tmp 40), none⟩])))))
 (.ops [⟨some 41, .binOp .add 3 (.tmp 15) (.const (.int .i64 1)) 3, none⟩,
 ⟨some 15, .move (.tmp 41), none⟩]))))
def ir30 : LC := (.seq (.ops [⟨some 2, .assign (.const (.slice none 0 0)), none⟩,
 ⟨some 3, .assign (.const (.int .i64 0)), none⟩])
 (.seq (.ops [⟨some 9, .move (.tmp 0), none⟩,
 ⟨some 10, .call ⟨.builtin .len, #[.tmp 9], #[22]⟩, none⟩,
 ⟨some 11, .binOp .mul 3 (.const (.int .i64 4)) (.tmp 10) 3, none⟩,
 ⟨some 12, .makeSlice 23 (.const (.int .i64 0)) (.tmp 11), none⟩,
 ⟨some 4, .assign (.tmp 12), none⟩])
 (.seq (.seq (.ops [⟨some 13, .move (.tmp 0), none⟩,
 ⟨some 14, .call ⟨.builtin .len, #[.tmp 13], #[22]⟩, none⟩,
 ⟨some 15, .move (.const (.int .i64 0)), none⟩])
 (.block 0 (.loop ir30_l0)))
 (.seq (.ops [⟨some 42, .move (.tmp 4), none⟩,
 ⟨some 2, .assign (.tmp 42), none⟩,
 ⟨some 3, .assign (.const (.int .i64 0)), none⟩])
 .ret))))
theorem ir30_eq : (Try.f30.body.map low, Try.f30.ntmps, Try.f30.results.toList) = (some ir30, 43, [.tmp 2, .tmp 3]) := by kernel_rfl
def ir33 : LC := (.seq (.ops [⟨some 1, .box 86 (.tmp 0), none⟩,
 ⟨some 2, .assign (.const .nilFunc), none⟩])
 (.seq (.ops [⟨some 3, .makeFunc (Fn.func 34) #[] #[.tmp 1], none⟩,
 ⟨some 2, .assign (.tmp 3), none⟩])
 .ret))
theorem ir33_eq : (Try.f33.body.map low, Try.f33.ntmps, Try.f33.results.toList) = (some ir33, 4, [.tmp 2]) := by kernel_rfl
def ir34 : LC := (.seq (.ops [⟨some 5, .assign (.const (.int .u32 0)), none⟩,
 ⟨some 6, .assign (.const (.bool false)), none⟩])
 (.seq (.ops [⟨some 7, .load 86 (.tmp 2), none⟩,
 ⟨some 8, .move (.tmp 0), none⟩,
 ⟨some 9, .move (.tmp 1), none⟩,
 ⟨some 10, .call ⟨.value (.tmp 7), #[.tmp 8, .tmp 9], #[25, 25]⟩, none⟩,
 ⟨some 5, .assign (.tmp 10), none⟩,
 ⟨some 6, .assign (.const (.bool true)), none⟩])
 .ret))
theorem ir34_eq : (Try.f34.body.map low, Try.f34.ntmps, Try.f34.results.toList) = (some ir34, 11, [.tmp 5, .tmp 6]) := by kernel_rfl
def ir35 : LC := (.seq (.ops [⟨some 4, .assign (.const (.int .u32 0)), none⟩])
 (.seq (.ops [⟨some 5, .move (.tmp 0), none⟩,
 ⟨some 6, .move (.tmp 1), none⟩,
 ⟨some 7, .binOp .add 25 (.tmp 5) (.tmp 6) 25, none⟩,
 ⟨some 4, .assign (.tmp 7), none⟩])
 .ret))
theorem ir35_eq : (Try.f35.body.map low, Try.f35.ntmps, Try.f35.results.toList) = (some ir35, 8, [.tmp 4]) := by kernel_rfl
def ir36 : LC := (.seq (.ops [⟨some 4, .assign (.const (.int .u32 0)), none⟩])
 (.seq (.ops [⟨some 5, .move (.tmp 0), none⟩,
 ⟨some 6, .move (.tmp 1), none⟩,
 ⟨some 7, .binOp .sub 25 (.tmp 5) (.tmp 6) 25, none⟩,
 ⟨some 4, .assign (.tmp 7), none⟩])
 .ret))
theorem ir36_eq : (Try.f36.body.map low, Try.f36.ntmps, Try.f36.results.toList) = (some ir36, 8, [.tmp 4]) := by kernel_rfl
def ir37 : LC := (.seq (.ops [⟨some 4, .assign (.const (.int .u32 0)), none⟩])
 (.seq (.ops [⟨some 5, .move (.tmp 0), none⟩,
 ⟨some 6, .move (.tmp 1), none⟩,
 ⟨some 7, .binOp .mul 25 (.tmp 5) (.tmp 6) 25, none⟩,
 ⟨some 4, .assign (.tmp 7), none⟩])
 .ret))
theorem ir37_eq : (Try.f37.body.map low, Try.f37.ntmps, Try.f37.results.toList) = (some ir37, 8, [.tmp 4]) := by kernel_rfl
def ir38 : LC := (.seq (.ops [⟨some 4, .assign (.const (.int .u32 0)), none⟩])
 (.seq (.ops [⟨some 5, .move (.tmp 0), none⟩,
 ⟨some 6, .move (.tmp 1), none⟩,
 ⟨some 7, .binOp .and 25 (.tmp 5) (.tmp 6) 25, none⟩,
 ⟨some 4, .assign (.tmp 7), none⟩])
 .ret))
theorem ir38_eq : (Try.f38.body.map low, Try.f38.ntmps, Try.f38.results.toList) = (some ir38, 8, [.tmp 4]) := by kernel_rfl
def ir39 : LC := (.seq (.ops [⟨some 4, .assign (.const (.int .u32 0)), none⟩])
 (.seq (.ops [⟨some 5, .move (.tmp 0), none⟩,
 ⟨some 6, .move (.tmp 1), none⟩,
 ⟨some 7, .binOp .or 25 (.tmp 5) (.tmp 6) 25, none⟩,
 ⟨some 4, .assign (.tmp 7), none⟩])
 .ret))
theorem ir39_eq : (Try.f39.body.map low, Try.f39.ntmps, Try.f39.results.toList) = (some ir39, 8, [.tmp 4]) := by kernel_rfl
def ir40 : LC := (.seq (.ops [⟨some 4, .assign (.const (.int .u32 0)), none⟩])
 (.seq (.ops [⟨some 5, .move (.tmp 0), none⟩,
 ⟨some 6, .move (.tmp 1), none⟩,
 ⟨some 7, .binOp .xor 25 (.tmp 5) (.tmp 6) 25, none⟩,
 ⟨some 4, .assign (.tmp 7), none⟩])
 .ret))
theorem ir40_eq : (Try.f40.body.map low, Try.f40.ntmps, Try.f40.results.toList) = (some ir40, 8, [.tmp 4]) := by kernel_rfl
def ir41 : LC := (.seq (.ops [⟨some 4, .assign (.const (.int .u32 0)), none⟩])
 (.seq (.ops [⟨some 5, .move (.tmp 0), none⟩,
 ⟨some 6, .move (.tmp 1), none⟩,
 ⟨some 7, .binOp .and 25 (.tmp 6) (.const (.int .u32 31)) 25, none⟩,
 ⟨some 8, .binOp .shl 25 (.tmp 5) (.tmp 7) 25, none⟩,
 ⟨some 4, .assign (.tmp 8), none⟩])
 .ret))
theorem ir41_eq : (Try.f41.body.map low, Try.f41.ntmps, Try.f41.results.toList) = (some ir41, 9, [.tmp 4]) := by kernel_rfl
def ir42 : LC := (.seq (.ops [⟨some 4, .assign (.const (.int .u32 0)), none⟩])
 (.seq (.ops [⟨some 5, .move (.tmp 0), none⟩,
 ⟨some 6, .move (.tmp 1), none⟩,
 ⟨some 7, .binOp .and 25 (.tmp 6) (.const (.int .u32 31)) 25, none⟩,
 ⟨some 8, .binOp .shr 25 (.tmp 5) (.tmp 7) 25, none⟩,
 ⟨some 4, .assign (.tmp 8), none⟩])
 .ret))
theorem ir42_eq : (Try.f42.body.map low, Try.f42.ntmps, Try.f42.results.toList) = (some ir42, 9, [.tmp 4]) := by kernel_rfl
def ir43 : LC := (.seq (.ops [⟨some 4, .assign (.const (.int .u32 0)), none⟩,
 ⟨some 5, .assign (.const (.bool false)), none⟩])
 (.seq (.seq (.ops [⟨some 6, .move (.tmp 1), none⟩,
 ⟨some 7, .binOp .eql 25 (.tmp 6) (.const (.int .u32 0)) 25, none⟩])
 (.cond (.tmp 7)
 (.seq (.ops [⟨some 4, .assign (.const (.int .u32 0)), none⟩,
 ⟨some 5, .assign (.const (.bool false)), none⟩])
 .ret)
 .skip))
 (.seq (.ops [⟨some 8, .move (.tmp 0), none⟩,
 ⟨some 9, .move (.tmp 1), none⟩,
 ⟨some 10, .binOp .quo 25 (.tmp 8) (.tmp 9) 25, none⟩,
 ⟨some 4, .assign (.tmp 10), none⟩,
 ⟨some 5, .assign (.const (.bool true)), none⟩])
 .ret)))
theorem ir43_eq : (Try.f43.body.map low, Try.f43.ntmps, Try.f43.results.toList) = (some ir43, 11, [.tmp 4, .tmp 5]) := by kernel_rfl
def ir44 : LC := (.seq (.ops [⟨some 4, .assign (.const (.int .u32 0)), none⟩,
 ⟨some 5, .assign (.const (.bool false)), none⟩])
 (.seq (.seq (.ops [⟨some 6, .move (.tmp 1), none⟩,
 ⟨some 7, .binOp .eql 25 (.tmp 6) (.const (.int .u32 0)) 25, none⟩])
 (.cond (.tmp 7)
 (.seq (.ops [⟨some 4, .assign (.const (.int .u32 0)), none⟩,
 ⟨some 5, .assign (.const (.bool false)), none⟩])
 .ret)
 .skip))
 (.seq (.ops [⟨some 8, .move (.tmp 0), none⟩,
 ⟨some 9, .move (.tmp 1), none⟩,
 ⟨some 10, .binOp .rem 25 (.tmp 8) (.tmp 9) 25, none⟩,
 ⟨some 4, .assign (.tmp 10), none⟩,
 ⟨some 5, .assign (.const (.bool true)), none⟩])
 .ret)))
theorem ir44_eq : (Try.f44.body.map low, Try.f44.ntmps, Try.f44.results.toList) = (some ir44, 11, [.tmp 4, .tmp 5]) := by kernel_rfl
def ir45 : LC := (.seq (.ops [⟨some 4, .assign (.const (.bool false)), none⟩])
 (.seq (.ops [⟨some 5, .move (.tmp 0), none⟩,
 ⟨some 6, .move (.tmp 1), none⟩,
 ⟨some 7, .build 38 #[(0, .tmp 6)], none⟩,
 ⟨some 8, .nilCheck (.tmp 5), none⟩,
 ⟨some 9, .fieldAddr 72 (.tmp 8) 2, none⟩,
 ⟨none, .store 38 (.tmp 9) (.tmp 7), none⟩])
 (.seq (.ops [⟨some 4, .assign (.const (.bool false)), none⟩])
 .ret)))
theorem ir45_eq : (Try.f45.body.map low, Try.f45.ntmps, Try.f45.results.toList) = (some ir45, 10, [.tmp 4]) := by kernel_rfl
def ir46 : LC := (.seq (.ops [⟨some 6, .assign (.const (.bool false)), none⟩])
 (.seq (.ops [⟨some 7, .move (.tmp 0), none⟩,
 ⟨some 8, .move (.tmp 1), none⟩,
 ⟨some 9, .move (.tmp 2), none⟩,
 ⟨some 10, .build 38 #[(0, .const (.int .i64 5)), (2, .tmp 8), (3, .tmp 9)], none⟩,
 ⟨some 11, .nilCheck (.tmp 7), none⟩,
 ⟨some 12, .fieldAddr 72 (.tmp 11) 2, none⟩,
 ⟨none, .store 38 (.tmp 12) (.tmp 10), none⟩])
 (.seq (.ops [⟨some 6, .assign (.const (.bool false)), none⟩])
 .ret)))
theorem ir46_eq : (Try.f46.body.map low, Try.f46.ntmps, Try.f46.results.toList) = (some ir46, 13, [.tmp 6]) := by kernel_rfl
def ir47 : LC := (.seq (.ops [⟨some 2, .alloc 50, none⟩,
 ⟨some 3, .assign (.const (.int .i64 0)), none⟩])
 (.seq (.seq (.ops [⟨some 4, .move (.tmp 0), none⟩,
 ⟨some 5, .call ⟨.builtin .len, #[.tmp 4], #[23]⟩, none⟩,
 ⟨some 6, .binOp .neq 3 (.tmp 5) (.const (.int .i64 4)) 3, none⟩])
 (.cond (.tmp 6)
 (.seq (.ops [⟨some 7, .build 50 #[], none⟩,
 ⟨none, .store 50 (.tmp 2) (.tmp 7), none⟩,
 ⟨some 3, .assign (.const (.int .i64 4)), none⟩])
 .ret)
 .skip))
 (.seq (.draw [⟨some 8, .move (.tmp 0), none⟩,
 ⟨some 9, .indexAddr 23 (.tmp 8) (.const (.int .i64 0)), none⟩,
 ⟨some 10, .load 5 (.tmp 9), none⟩,
 ⟨some 11, .convert 5 25 (.tmp 10), none⟩,
 ⟨some 12, .move (.tmp 0), none⟩,
 ⟨some 13, .indexAddr 23 (.tmp 12) (.const (.int .i64 1)), none⟩,
 ⟨some 14, .load 5 (.tmp 13), none⟩,
 ⟨some 15, .convert 5 25 (.tmp 14), none⟩,
 ⟨some 16, .binOp .shl 25 (.tmp 15) (.const (.int .u64 8)) 94, none⟩,
 ⟨some 17, .binOp .or 25 (.tmp 11) (.tmp 16) 25, none⟩,
 ⟨some 18, .move (.tmp 0), none⟩,
 ⟨some 19, .indexAddr 23 (.tmp 18) (.const (.int .i64 2)), none⟩,
 ⟨some 20, .load 5 (.tmp 19), none⟩,
 ⟨some 21, .convert 5 25 (.tmp 20), none⟩,
 ⟨some 22, .binOp .shl 25 (.tmp 21) (.const (.int .u64 16)) 94, none⟩,
 ⟨some 23, .binOp .or 25 (.tmp 17) (.tmp 22) 25, none⟩,
 ⟨some 24, .move (.tmp 0), none⟩,
 ⟨some 25, .indexAddr 23 (.tmp 24) (.const (.int .i64 3)), none⟩,
 ⟨some 26, .load 5 (.tmp 25), none⟩,
 ⟨some 27, .convert 5 25 (.tmp 26), none⟩,
 ⟨some 28, .binOp .shl 25 (.tmp 27) (.const (.int .u64 24)) 94, none⟩,
 ⟨some 29, .binOp .or 25 (.tmp 23) (.tmp 28) 25, none⟩,
 ⟨some 30, .call ⟨.value (.func 53), #[.tmp 29], #[25]⟩, none⟩,
 ⟨some 31, .extract (.tmp 30) 0, none⟩,
 ⟨some 32, .extract (.tmp 30) 1, none⟩,
 ⟨none, .store 50 (.tmp 2) (.tmp 31), none⟩,
 ⟨some 3, .assign (.tmp 32), none⟩] [])
 .ret)))
theorem ir47_eq : (Try.f47.body.map low, Try.f47.ntmps, Try.f47.results.toList) = (some ir47, 33, [.cell 2 50, .tmp 3]) := by kernel_rfl
def ir48 : LC := (.seq (.ops [⟨some 2, .assign (.const (.int .u32 0)), none⟩])
 (.seq (.draw [⟨some 3, .move (.tmp 0), none⟩,
 ⟨some 4, .indexAddr 23 (.tmp 3) (.const (.int .i64 0)), none⟩,
 ⟨some 5, .load 5 (.tmp 4), none⟩,
 ⟨some 6, .convert 5 25 (.tmp 5), none⟩,
 ⟨some 7, .move (.tmp 0), none⟩,
 ⟨some 8, .indexAddr 23 (.tmp 7) (.const (.int .i64 1)), none⟩,
 ⟨some 9, .load 5 (.tmp 8), none⟩,
 ⟨some 10, .convert 5 25 (.tmp 9), none⟩,
 ⟨some 11, .binOp .shl 25 (.tmp 10) (.const (.int .u64 8)) 94, none⟩,
 ⟨some 12, .binOp .or 25 (.tmp 6) (.tmp 11) 25, none⟩,
 ⟨some 13, .move (.tmp 0), none⟩,
 ⟨some 14, .indexAddr 23 (.tmp 13) (.const (.int .i64 2)), none⟩,
 ⟨some 15, .load 5 (.tmp 14), none⟩,
 ⟨some 16, .convert 5 25 (.tmp 15), none⟩,
 ⟨some 17, .binOp .shl 25 (.tmp 16) (.const (.int .u64 16)) 94, none⟩,
 ⟨some 18, .binOp .or 25 (.tmp 12) (.tmp 17) 25, none⟩,
 ⟨some 19, .move (.tmp 0), none⟩,
 ⟨some 20, .indexAddr 23 (.tmp 19) (.const (.int .i64 3)), none⟩,
 ⟨some 21, .load 5 (.tmp 20), none⟩,
 ⟨some 22, .convert 5 25 (.tmp 21), none⟩,
 ⟨some 23, .binOp .shl 25 (.tmp 22) (.const (.int .u64 24)) 94, none⟩,
 ⟨some 24, .binOp .or 25 (.tmp 18) (.tmp 23) 25, none⟩,
 ⟨some 2, .assign (.tmp 24), none⟩] [])
 .ret))
theorem ir48_eq : (Try.f48.body.map low, Try.f48.ntmps, Try.f48.results.toList) = (some ir48, 25, [.tmp 2]) := by kernel_rfl
def ir52 : LC := (.seq (.ops [⟨some 1, .box 50 (.tmp 0), none⟩,
 ⟨some 2, .assign (.const (.int .u32 0)), none⟩,
 ⟨some 3, .assign (.const (.int .i64 0)), none⟩])
 (.seq (.seq (.ops [⟨some 4, .load 50 (.tmp 1), none⟩,
 ⟨some 5, .call ⟨.value (.func 58), #[.tmp 4], #[50]⟩, none⟩,
 ⟨some 6, .unOp .not 4 (.tmp 5), none⟩])
 (.cond (.tmp 6)
 (.seq (.ops [⟨some 2, .assign (.const (.int .u32 0)), none⟩,
 ⟨some 3, .assign (.const (.int .i64 2)), none⟩])
 .ret)
 .skip))
 (.seq (.ops [⟨some 7, .fieldAddr 50 (.tmp 1) 0, none⟩,
 ⟨some 8, .load 48 (.tmp 7), none⟩,
 ⟨some 9, .convert 48 25 (.tmp 8), none⟩,
 ⟨some 10, .fieldAddr 50 (.tmp 1) 1, none⟩,
 ⟨some 11, .load 3 (.tmp 10), none⟩,
 ⟨some 12, .convert 3 25 (.tmp 11), none⟩,
 ⟨some 13, .binOp .shl 25 (.tmp 12) (.const (.int .u64 12)) 94, none⟩,
 ⟨some 14, .binOp .or 25 (.tmp 9) (.tmp 13) 25, none⟩,
 ⟨some 15, .fieldAddr 50 (.tmp 1) 2, none⟩,
 ⟨some 16, .load 3 (.tmp 15), none⟩,
 ⟨some 17, .convert 3 25 (.tmp 16), none⟩,
 ⟨some 18, .binOp .shl 25 (.tmp 17) (.const (.int .u64 8)) 94, none⟩,
 ⟨some 19, .binOp .or 25 (.tmp 14) (.tmp 18) 25, none⟩,
 ⟨some 20, .fieldAddr 50 (.tmp 1) 3, none⟩,
 ⟨some 21, .load 3 (.tmp 20), none⟩,
 ⟨some 22, .convert 3 25 (.tmp 21), none⟩,
 ⟨some 23, .binOp .shl 25 (.tmp 22) (.const (.int .u64 16)) 94, none⟩,
 ⟨some 24, .binOp .or 25 (.tmp 19) (.tmp 23) 25, none⟩,
 ⟨some 25, .fieldAddr 50 (.tmp 1) 4, none⟩,
 ⟨some 26, .load 3 (.tmp 25), none⟩,
 ⟨some 27, .convert 3 109 (.tmp 26), none⟩,
 ⟨some 28, .convert 109 25 (.tmp 27), none⟩,
 ⟨some 29, .binOp .shl 25 (.tmp 28) (.const (.int .u64 16)) 94, none⟩,
 ⟨some 30, .binOp .or 25 (.tmp 24) (.tmp 29) 25, none⟩,
 ⟨some 2, .assign (.tmp 30), none⟩,
 ⟨some 3, .assign (.const (.int .i64 0)), none⟩])
 .ret)))
theorem ir52_eq : (Try.f52.body.map low, Try.f52.ntmps, Try.f52.results.toList) = (some ir52, 31, [.tmp 2, .tmp 3]) := by kernel_rfl
def ir53 : LC := (.seq (.ops [⟨some 2, .alloc 50, none⟩,
 ⟨some 3, .assign (.const (.int .i64 0)), none⟩])
 (.seq (.ops [⟨some 8, .move (.tmp 0), none⟩,
 ⟨some 9, .binOp .and 25 (.tmp 8) (.const (.int .u32 255)) 25, none⟩,
 ⟨some 10, .convert 25 48 (.tmp 9), none⟩,
 ⟨some 11, .build 50 #[(0, .tmp 10)], none⟩,
 ⟨some 4, .alloc 50, none⟩,
 ⟨none, .store 50 (.tmp 4) (.tmp 11), none⟩])
 (.seq (.ops [⟨some 12, .fieldAddr 50 (.tmp 4) 0, none⟩,
 ⟨some 13, .load 48 (.tmp 12), none⟩,
 ⟨some 14, .call ⟨.value (.func 60), #[.tmp 13], #[48]⟩, none⟩,
 ⟨some 15, .call ⟨.value (.func 59), #[.tmp 14], #[105]⟩, none⟩,
 ⟨some 5, .alloc 111, none⟩,
 ⟨none, .store 111 (.tmp 5) (.tmp 15), none⟩])
 (.seq (.seq (.ops [⟨some 16, .fieldAddr 111 (.tmp 5) 0, none⟩,
 ⟨some 17, .load 4 (.tmp 16), none⟩])
 (.cond (.tmp 17)
 (.ops [⟨some 18, .move (.tmp 0), none⟩,
 ⟨some 19, .binOp .shr 25 (.tmp 18) (.const (.int .u64 12)) 94, none⟩,
 ⟨some 20, .binOp .and 25 (.tmp 19) (.const (.int .u32 15)) 25, none⟩,
 ⟨some 21, .convert 25 3 (.tmp 20), none⟩,
 ⟨some 22, .fieldAddr 50 (.tmp 4) 1, none⟩,
 ⟨none, .store 3 (.tmp 22) (.tmp 21), none⟩])
 .skip))
 (.seq (.seq (.ops [⟨some 23, .fieldAddr 111 (.tmp 5) 1, none⟩,
 ⟨some 24, .load 4 (.tmp 23), none⟩])
 (.cond (.tmp 24)
 (.ops [⟨some 25, .move (.tmp 0), none⟩,
 ⟨some 26, .binOp .shr 25 (.tmp 25) (.const (.int .u64 8)) 94, none⟩,
 ⟨some 27, .binOp .and 25 (.tmp 26) (.const (.int .u32 15)) 25, none⟩,
 ⟨some 28, .convert 25 3 (.tmp 27), none⟩,
 ⟨some 29, .fieldAddr 50 (.tmp 4) 2, none⟩,
 ⟨none, .store 3 (.tmp 29) (.tmp 28), none⟩])
 .skip))
 (.seq (.seq (.ops [⟨some 30, .fieldAddr 111 (.tmp 5) 2, none⟩,
 ⟨some 31, .load 4 (.tmp 30), none⟩])
 (.cond (.tmp 31)
 (.ops [⟨some 32, .move (.tmp 0), none⟩,
 ⟨some 33, .binOp .shr 25 (.tmp 32) (.const (.int .u64 16)) 94, none⟩,
 ⟨some 34, .convert 25 3 (.tmp 33), none⟩,
 ⟨some 35, .fieldAddr 50 (.tmp 4) 3, none⟩,
 ⟨none, .store 3 (.tmp 35) (.tmp 34), none⟩])
 .skip))
 (.seq (.seq (.ops [⟨some 36, .fieldAddr 111 (.tmp 5) 3, none⟩,
 ⟨some 37, .load 4 (.tmp 36), none⟩])
 (.cond (.tmp 37)
 (.seq (.ops [⟨some 38, .move (.tmp 0), none⟩,
 ⟨some 39, .binOp .shr 25 (.tmp 38) (.const (.int .u64 16)) 94, none⟩,
 ⟨some 40, .convert 25 113 (.tmp 39), none⟩,
 ⟨some 41, .convert 113 3 (.tmp 40), none⟩,
 ⟨some 42, .fieldAddr 50 (.tmp 4) 4, none⟩,
 ⟨none, .store 3 (.tmp 42) (.tmp 41), none⟩])
 (.seq (.ops [⟨some 43, .fieldAddr 50 (.tmp 4) 0, none⟩,
 ⟨some 44, .load 48 (.tmp 43), none⟩,
 ⟨some 45, .call ⟨.value (.func 61), #[.tmp 44], #[48]⟩, none⟩])
 (.cond (.tmp 45)
 (.ops [⟨some 46, .move (.tmp 0), none⟩,
 ⟨some 47, .binOp .shr 25 (.tmp 46) (.const (.int .u64 16)) 94, none⟩,
 ⟨some 48, .convert 25 3 (.tmp 47), none⟩,
 ⟨some 49, .fieldAddr 50 (.tmp 4) 4, none⟩,
 ⟨none, .store 3 (.tmp 49) (.tmp 48), none⟩])
 .skip)))
 .skip))
 (.seq (.seq (.ops [⟨some 51, .load 50 (.tmp 4), none⟩,
 ⟨some 52, .call ⟨.value (.func 52), #[.tmp 51], #[50]⟩, none⟩,
 ⟨some 50, .move (.tmp 52), none⟩,
 ⟨some 53, .extract (.tmp 50) 0, none⟩,
 ⟨some 54, .extract (.tmp 50) 1, none⟩,
 ⟨some 6, .assign (.tmp 53), none⟩,
 ⟨some 7, .assign (.tmp 54), none⟩])
 (.seq (.ops [⟨some 55, .move (.tmp 7), none⟩,
 ⟨some 56, .binOp .neq 39 (.tmp 55) (.const (.int .i64 0)) 39, none⟩,
 ⟨some 57, .move (.tmp 56), none⟩,
 ⟨some 58, .move (.tmp 6), some (57, false)⟩,
 ⟨some 59, .move (.tmp 0), some (57, false)⟩,
 ⟨some 60, .binOp .neq 25 (.tmp 58) (.tmp 59) 25, some (57, false)⟩,
 ⟨some 61, .pick (.tmp 57) (.const (.bool true)) (.tmp 60), none⟩])
 (.cond (.tmp 61)
 (.seq (.ops [⟨some 62, .build 50 #[], none⟩,
 ⟨none, .store 50 (.tmp 2) (.tmp 62), none⟩,
 ⟨some 3, .assign (.const (.int .i64 4)), none⟩])
 .ret)
 .skip)))
 (.seq (.ops [⟨some 63, .load 50 (.tmp 4), none⟩,
 ⟨none, .store 50 (.tmp 2) (.tmp 63), none⟩,
 ⟨some 3, .assign (.const (.int .i64 0)), none⟩])
 .ret)))))))))
theorem ir53_eq : (Try.f53.body.map low, Try.f53.ntmps, Try.f53.results.toList) = (some ir53, 64, [.cell 2 50, .tmp 3]) := by kernel_rfl
def ir58 : LC := (.seq (.ops [⟨some 1, .box 50 (.tmp 0), none⟩,
 ⟨some 2, .assign (.const (.bool false)), none⟩])
 (.seq (.ops [⟨some 8, .fieldAddr 50 (.tmp 1) 0, none⟩,
 ⟨some 9, .load 48 (.tmp 8), none⟩,
 ⟨some 10, .call ⟨.value (.func 60), #[.tmp 9], #[48]⟩, none⟩,
 ⟨some 11, .call ⟨.value (.func 59), #[.tmp 10], #[105]⟩, none⟩,
 ⟨some 3, .alloc 111, none⟩,
 ⟨none, .store 111 (.tmp 3) (.tmp 11), none⟩])
 (.seq (.ops [⟨some 12, .load 50 (.tmp 1), none⟩,
 ⟨some 4, .alloc 50, none⟩,
 ⟨none, .store 50 (.tmp 4) (.tmp 12), none⟩])
 (.seq (.seq (.ops [⟨some 13, .fieldAddr 111 (.tmp 3) 0, none⟩,
 ⟨some 14, .load 4 (.tmp 13), none⟩])
 (.cond (.tmp 14)
 (.ops [⟨some 15, .fieldAddr 50 (.tmp 4) 1, none⟩,
 ⟨none, .store 3 (.tmp 15) (.const (.int .i64 0)), none⟩])
 .skip))
 (.seq (.seq (.ops [⟨some 16, .fieldAddr 111 (.tmp 3) 1, none⟩,
 ⟨some 17, .load 4 (.tmp 16), none⟩])
 (.cond (.tmp 17)
 (.ops [⟨some 18, .fieldAddr 50 (.tmp 4) 2, none⟩,
 ⟨none, .store 3 (.tmp 18) (.const (.int .i64 0)), none⟩])
 .skip))
 (.seq (.seq (.ops [⟨some 19, .fieldAddr 111 (.tmp 3) 2, none⟩,
 ⟨some 20, .load 4 (.tmp 19), none⟩])
 (.cond (.tmp 20)
 (.ops [⟨some 21, .fieldAddr 50 (.tmp 4) 3, none⟩,
 ⟨none, .store 3 (.tmp 21) (.const (.int .i64 0)), none⟩])
 .skip))
 (.seq (.seq (.ops [⟨some 22, .fieldAddr 111 (.tmp 3) 3, none⟩,
 ⟨some 23, .load 4 (.tmp 22), none⟩])
 (.cond (.tmp 23)
 (.ops [⟨some 24, .fieldAddr 50 (.tmp 4) 4, none⟩,
 ⟨none, .store 3 (.tmp 24) (.const (.int .i64 0)), none⟩])
 .skip))
 (.seq (.ops [⟨some 5, .assign (.const (.int .i64 (-32768))), none⟩,
 ⟨some 6, .assign (.const (.int .i64 32767)), none⟩])
 (.seq (.seq (.ops [⟨some 25, .fieldAddr 50 (.tmp 1) 0, none⟩,
 ⟨some 26, .load 48 (.tmp 25), none⟩,
 ⟨some 27, .call ⟨.value (.func 61), #[.tmp 26], #[48]⟩, none⟩])
 (.cond (.tmp 27)
 (.ops [⟨some 5, .assign (.const (.int .i64 0)), none⟩,
 ⟨some 6, .assign (.const (.int .i64 65535)), none⟩])
 .skip))
 (.seq (.ops [⟨some 7, .assign (.func 63), none⟩])
 (.seq (.ops [⟨some 28, .fieldAddr 50 (.tmp 1) 0, none⟩,
 ⟨some 29, .load 48 (.tmp 28), none⟩,
 ⟨some 30, .call ⟨.value (.func 64), #[.tmp 29], #[48]⟩, none⟩,
 ⟨some 31, .binOp .neq 9 (.tmp 30) (.const (.string { data := #[] })) 9, none⟩,
 ⟨some 32, .move (.tmp 31), none⟩,
 ⟨some 33, .load 50 (.tmp 4), some (32, true)⟩,
 ⟨some 34, .fieldAddr 50 (.tmp 1) 0, some (32, true)⟩,
 ⟨some 35, .load 48 (.tmp 34), some (32, true)⟩,
 ⟨some 36, .build 50 #[(0, .tmp 35)], some (32, true)⟩,
 ⟨some 37, .binOp .eql 50 (.tmp 33) (.tmp 36) 50, some (32, true)⟩,
 ⟨some 38, .pick (.tmp 32) (.tmp 37) (.const (.bool false)), none⟩,
 ⟨some 39, .move (.tmp 38), none⟩,
 ⟨some 40, .move (.tmp 7), some (39, true)⟩,
 ⟨some 41, .fieldAddr 50 (.tmp 1) 1, some (39, true)⟩,
 ⟨some 42, .load 3 (.tmp 41), some (39, true)⟩,
 ⟨some 43, .call ⟨.value (.tmp 40), #[.tmp 42], #[3]⟩, some (39, true)⟩,
 ⟨some 44, .pick (.tmp 39) (.tmp 43) (.const (.bool false)), none⟩,
 ⟨some 45, .move (.tmp 44), none⟩,
 ⟨some 46, .move (.tmp 7), some (45, true)⟩,
 ⟨some 47, .fieldAddr 50 (.tmp 1) 2, some (45, true)⟩,
 ⟨some 48, .load 3 (.tmp 47), some (45, true)⟩,
 ⟨some 49, .call ⟨.value (.tmp 46), #[.tmp 48], #[3]⟩, some (45, true)⟩,
 ⟨some 50, .pick (.tmp 45) (.tmp 49) (.const (.bool false)), none⟩,
 ⟨some 51, .move (.tmp 50), none⟩,
 ⟨some 52, .move (.tmp 7), some (51, true)⟩,
 ⟨some 53, .fieldAddr 50 (.tmp 1) 3, some (51, true)⟩,
 ⟨some 54, .load 3 (.tmp 53), some (51, true)⟩,
 ⟨some 55, .call ⟨.value (.tmp 52), #[.tmp 54], #[3]⟩, some (51, true)⟩,
 ⟨some 56, .pick (.tmp 51) (.tmp 55) (.const (.bool false)), none⟩,
 ⟨some 57, .move (.tmp 56), none⟩,
 ⟨some 58, .fieldAddr 50 (.tmp 1) 4, some (57, true)⟩,
 ⟨some 59, .load 3 (.tmp 58), some (57, true)⟩,
 ⟨some 60, .move (.tmp 5), some (57, true)⟩,
 ⟨some 61, .binOp .geq 3 (.tmp 59) (.tmp 60) 3, some (57, true)⟩,
 ⟨some 62, .pick (.tmp 57) (.tmp 61) (.const (.bool false)), none⟩,
 ⟨some 63, .move (.tmp 62), none⟩,
 ⟨some 64, .fieldAddr 50 (.tmp 1) 4, some (63, true)⟩,
 ⟨some 65, .load 3 (.tmp 64), some (63, true)⟩,
 ⟨some 66, .move (.tmp 6), some (63, true)⟩,
 ⟨some 67, .binOp .leq 3 (.tmp 65) (.tmp 66) 3, some (63, true)⟩,
 ⟨some 68, .pick (.tmp 63) (.tmp 67) (.const (.bool false)), none⟩,
 ⟨some 2, .assign (.tmp 68), none⟩])
 .ret)))))))))))
theorem ir58_eq : (Try.f58.body.map low, Try.f58.ntmps, Try.f58.results.toList) = (some ir58, 69, [.tmp 2]) := by kernel_rfl
def ir59 : LC := (.seq (.ops [⟨some 2, .alloc 111, none⟩])
 (.seq (.seq (.ops [⟨some 3, .move (.tmp 0), none⟩])
 (.block 0 (.seq (.ops [⟨some 5, .binOp .eql 105 (.tmp 3) (.const (.int .i64 1)) 105, none⟩,
 ⟨some 4, .assign (.tmp 5), none⟩])
 (.cond (.tmp 4)
 (.seq (.ops [⟨some 6, .build 111 #[(3, .const (.bool true))], none⟩,
 ⟨none, .store 111 (.tmp 2) (.tmp 6), none⟩])
 .ret)
 (.seq (.ops [⟨some 8, .binOp .eql 105 (.tmp 3) (.const (.int .i64 2)) 105, none⟩,
 ⟨some 7, .assign (.tmp 8), none⟩])
 (.cond (.tmp 7)
 (.seq (.ops [⟨some 9, .build 111 #[(1, .const (.bool true))], none⟩,
 ⟨none, .store 111 (.tmp 2) (.tmp 9), none⟩])
 .ret)
 (.seq (.ops [⟨some 11, .binOp .eql 105 (.tmp 3) (.const (.int .i64 3)) 105, none⟩,
 ⟨some 10, .assign (.tmp 11), none⟩])
 (.cond (.tmp 10)
 (.seq (.ops [⟨some 12, .build 111 #[(0, .const (.bool true)), (3, .const (.bool true))], none⟩,
 ⟨none, .store 111 (.tmp 2) (.tmp 12), none⟩])
 .ret)
 (.seq (.ops [⟨some 14, .binOp .eql 105 (.tmp 3) (.const (.int .i64 4)) 105, none⟩,
 ⟨some 13, .assign (.tmp 14), none⟩])
 (.cond (.tmp 13)
 (.seq (.ops [⟨some 15, .build 111 #[(0, .const (.bool true)), (1, .const (.bool true))], none⟩,
 ⟨none, .store 111 (.tmp 2) (.tmp 15), none⟩])
 .ret)
 (.seq (.ops [⟨some 17, .binOp .eql 105 (.tmp 3) (.const (.int .i64 5)) 105, none⟩,
 ⟨some 16, .assign (.tmp 17), none⟩])
 (.cond (.tmp 16)
 (.seq (.ops [⟨some 18, .build 111 #[(0, .const (.bool true)), (1, .const (.bool true)), (2, .const (.bool true))], none⟩,
 ⟨none, .store 111 (.tmp 2) (.tmp 18), none⟩])
 .ret)
 (.seq (.ops [⟨some 20, .binOp .eql 105 (.tmp 3) (.const (.int .i64 6)) 105, none⟩,
 ⟨some 19, .assign (.tmp 20), none⟩])
 (.cond (.tmp 19)
 (.seq (.ops [⟨some 21, .build 111 #[(0, .const (.bool true)), (1, .const (.bool true)), (3, .const (.bool true))], none⟩,
 ⟨none, .store 111 (.tmp 2) (.tmp 21), none⟩])
 .ret)
 .skip))))))))))))))
 (.seq (.ops [⟨some 22, .build 111 #[], none⟩,
 ⟨none, .store 111 (.tmp 2) (.tmp 22), none⟩])
 .ret)))
theorem ir59_eq : (Try.f59.body.map low, Try.f59.ntmps, Try.f59.results.toList) = (some ir59, 23, [.cell 2 111]) := by kernel_rfl
def ir60 : LC := (.seq (.ops [⟨some 2, .assign (.const (.int .i64 0)), none⟩])
 (.seq (.seq (.ops [⟨some 3, .move (.tmp 0), none⟩])
 (.block 0 (.seq (.block 5 (.seq (.block 4 (.seq (.block 3 (.seq (.block 2 (.block 1 (.seq (.seq (.seq (.ops [⟨some 5, .binOp .eql 48 (.tmp 3) (.const (.int .i64 3)) 48, none⟩,
 ⟨some 4, .assign (.tmp 5), none⟩])
 (.cond (.tmp 4)
 (.exit 1)
 .skip))
 (.seq (.seq (.ops [⟨some 7, .binOp .eql 48 (.tmp 3) (.const (.int .i64 23)) 48, none⟩,
 ⟨some 6, .assign (.tmp 7), none⟩])
 (.cond (.tmp 6)
 (.exit 2)
 .skip))
 (.seq (.seq (.ops [⟨some 9, .binOp .eql 48 (.tmp 3) (.const (.int .i64 24)) 48, none⟩,
 ⟨some 8, .assign (.tmp 9), none⟩])
 (.cond (.tmp 8)
 (.exit 3)
 .skip))
 (.seq (.seq (.seq (.ops [⟨some 11, .binOp .eql 48 (.tmp 3) (.const (.int .i64 5)) 48, none⟩,
 ⟨some 10, .assign (.tmp 11), none⟩])
 (.cond (.tmp 10)
 .skip
 (.seq (.ops [⟨some 12, .binOp .eql 48 (.tmp 3) (.const (.int .i64 6)) 48, none⟩,
 ⟨some 10, .assign (.tmp 12), none⟩])
 (.cond (.tmp 10)
 .skip
 (.ops [⟨some 13, .binOp .eql 48 (.tmp 3) (.const (.int .i64 25)) 48, none⟩,
 ⟨some 10, .assign (.tmp 13), none⟩])))))
 (.cond (.tmp 10)
 (.exit 4)
 .skip))
 (.seq (.ops [⟨some 15, .binOp .eql 48 (.tmp 3) (.const (.int .i64 7)) 48, none⟩,
 ⟨some 14, .assign (.tmp 15), none⟩])
 (.cond (.tmp 14)
 (.exit 5)
 .skip))))))
 (.exit 0))))
 (.seq (.seq (.ops [⟨some 2, .assign (.const (.int .i64 1)), none⟩])
 .ret)
 (.exit 0))))
 (.seq (.seq (.ops [⟨some 2, .assign (.const (.int .i64 2)), none⟩])
 .ret)
 (.exit 0))))
 (.seq (.seq (.ops [⟨some 2, .assign (.const (.int .i64 3)), none⟩])
 .ret)
 (.exit 0))))
 (.seq (.seq (.ops [⟨some 2, .assign (.const (.int .i64 4)), none⟩])
 .ret)
 (.exit 0)))))
 (.seq (.block 6 (.seq (.ops [⟨some 17, .move (.tmp 0), none⟩,
 ⟨some 18, .binOp .geq 48 (.tmp 17) (.const (.int .i64 8)) 48, none⟩,
 ⟨some 19, .move (.tmp 18), none⟩,
 ⟨some 20, .move (.tmp 0), some (19, true)⟩,
 ⟨some 21, .binOp .leq 48 (.tmp 20) (.const (.int .i64 17)) 48, some (19, true)⟩,
 ⟨some 22, .pick (.tmp 19) (.tmp 21) (.const (.bool false)), none⟩,
 ⟨some 16, .assign (.tmp 22), none⟩])
 (.cond (.tmp 16)
 (.seq (.ops [⟨some 2, .assign (.const (.int .i64 5)), none⟩])
 .ret)
 (.seq (.ops [⟨some 24, .move (.tmp 0), none⟩,
 ⟨some 25, .binOp .geq 48 (.tmp 24) (.const (.int .i64 18)) 48, none⟩,
 ⟨some 26, .move (.tmp 25), none⟩,
 ⟨some 27, .move (.tmp 0), some (26, true)⟩,
 ⟨some 28, .binOp .leq 48 (.tmp 27) (.const (.int .i64 22)) 48, some (26, true)⟩,
 ⟨some 29, .pick (.tmp 26) (.tmp 28) (.const (.bool false)), none⟩,
 ⟨some 30, .move (.tmp 29), none⟩,
 ⟨some 31, .move (.tmp 0), some (30, false)⟩,
 ⟨some 32, .binOp .geq 48 (.tmp 31) (.const (.int .i64 26)) 48, some (30, false)⟩,
 ⟨some 33, .move (.tmp 32), some (30, false)⟩,
 ⟨some 34, .move (.tmp 0), some (33, true)⟩,
 ⟨some 35, .binOp .leq 48 (.tmp 34) (.const (.int .i64 28)) 48, some (33, true)⟩,
 ⟨some 36, .pick (.tmp 33) (.tmp 35) (.const (.bool false)), some (30, false)⟩,
 ⟨some 37, .pick (.tmp 30) (.const (.bool true)) (.tmp 36), none⟩,
 ⟨some 23, .assign (.tmp 37), none⟩])
 (.cond (.tmp 23)
 (.seq (.ops [⟨some 2, .assign (.const (.int .i64 6)), none⟩])
 .ret)
 .skip)))))
 (.seq (.ops [⟨some 2, .assign (.const (.int .i64 0)), none⟩])
 .ret))))
theorem ir60_eq : (Try.f60.body.map low, Try.f60.ntmps, Try.f60.results.toList) = (some ir60, 38, [.tmp 2]) := by kernel_rfl
def ir61 : LC := (.seq (.ops [⟨some 2, .assign (.const (.bool false)), none⟩])
 (.seq (.ops [⟨some 3, .move (.tmp 0), none⟩,
 ⟨some 4, .binOp .eql 48 (.tmp 3) (.const (.int .i64 3)) 48, none⟩,
 ⟨some 5, .move (.tmp 4), none⟩,
 ⟨some 6, .move (.tmp 0), some (5, false)⟩,
 ⟨some 7, .binOp .eql 48 (.tmp 6) (.const (.int .i64 6)) 48, some (5, false)⟩,
 ⟨some 8, .pick (.tmp 5) (.const (.bool true)) (.tmp 7), none⟩,
 ⟨some 2, .assign (.tmp 8), none⟩])
 .ret))
theorem ir61_eq : (Try.f61.body.map low, Try.f61.ntmps, Try.f61.results.toList) = (some ir61, 9, [.tmp 2]) := by kernel_rfl
def ir63 : LC := (.seq (.ops [⟨some 2, .assign (.const (.bool false)), none⟩])
 (.seq (.ops [⟨some 3, .move (.tmp 0), none⟩,
 ⟨some 4, .binOp .geq 3 (.tmp 3) (.const (.int .i64 0)) 3, none⟩,
 ⟨some 5, .move (.tmp 4), none⟩,
 ⟨some 6, .move (.tmp 0), some (5, true)⟩,
 ⟨some 7, .binOp .lss 3 (.tmp 6) (.const (.int .i64 16)) 3, some (5, true)⟩,
 ⟨some 8, .pick (.tmp 5) (.tmp 7) (.const (.bool false)), none⟩,
 ⟨some 2, .assign (.tmp 8), none⟩])
 .ret))
theorem ir63_eq : (Try.f63.body.map low, Try.f63.ntmps, Try.f63.results.toList) = (some ir63, 9, [.tmp 2]) := by kernel_rfl
def ir64 : LC := (.seq (.ops [⟨some 2, .assign (.const (.string { data := #[] })), none⟩])
 (.seq (.seq (.ops [⟨some 3, .move (.tmp 0), none⟩,
 ⟨some 4, .binOp .lss 48 (.tmp 3) (.const (.int .i64 1)) 48, none⟩,
 ⟨some 5, .move (.tmp 4), none⟩,
 ⟨some 6, .move (.tmp 0), some (5, false)⟩,
 ⟨some 7, .binOp .gtr 48 (.tmp 6) (.const (.int .i64 28)) 48, some (5, false)⟩,
 ⟨some 8, .pick (.tmp 5) (.const (.bool true)) (.tmp 7), none⟩])
 (.cond (.tmp 8)
 (.seq (.ops [⟨some 2, .assign (.const (.string { data := #[] })), none⟩])
 .ret)
 .skip))
 (.seq (.ops [⟨some 9, .call ⟨.value (.func 65), #[], #[]⟩, none⟩,
 ⟨some 10, .move (.tmp 0), none⟩,
 ⟨some 11, .index 118 (.tmp 9) (.tmp 10), none⟩,
 ⟨some 2, .assign (.tmp 11), none⟩])
 .ret)))
theorem ir64_eq : (Try.f64.body.map low, Try.f64.ntmps, Try.f64.results.toList) = (some ir64, 12, [.tmp 2]) := by kernel_rfl
def ir65 : LC := (.seq (.ops [⟨some 0, .alloc 118, none⟩])
 (.seq (.ops [⟨some 1, .build 118 #[(0, .const (.string { data := #[] })), (1, .const (.string { data := #[110, 111, 112] })), (2, .const (.string { data := #[115, 116, 111, 112] })), (3, .const (.string { data := #[99, 97, 108, 108] })), (4, .const (.string { data := #[98, 97, 99, 107] })), (5, .const (.string { data := #[99, 111, 110, 115, 116] })), (6, .const (.string { data := #[104, 105, 103, 104] })), (7, .const (.string { data := #[99, 111, 112, 121] })), (8, .const (.string { data := #[97, 100, 100] })), (9, .const (.string { data := #[115, 117, 98] })), (10, .const (.string { data := #[109, 117, 108] })), (11, .const (.string { data := #[100, 105, 118] })), (12, .const (.string { data := #[109, 111, 100] })), (13, .const (.string { data := #[97, 110, 100] })), (14, .const (.string { data := #[111, 114] })), (15, .const (.string { data := #[120, 111, 114] })), (16, .const (.string { data := #[115, 104, 108] })), (17, .const (.string { data := #[115, 104, 114] })), (18, .const (.string { data := #[97, 100, 100, 105] })), (19, .const (.string { data := #[108, 111, 97, 100] })), (20, .const (.string { data := #[115, 116, 111, 114, 101] })), (21, .const (.string { data := #[108, 111, 97, 100, 98] })), (22, .const (.string { data := #[115, 116, 111, 114, 101, 98] })), (23, .const (.string { data := #[106, 117, 109, 112] })), (24, .const (.string { data := #[106, 117, 109, 112, 114] })), (25, .const (.string { data := #[108, 105, 110, 107] })), (26, .const (.string { data := #[98, 101, 113] })), (27, .const (.string { data := #[98, 110, 101] })), (28, .const (.string { data := #[98, 108, 116] }))], none⟩,
 ⟨none, .store 118 (.tmp 0) (.tmp 1), none⟩])
 .ret))
theorem ir65_eq : (Try.f65.body.map low, Try.f65.ntmps, Try.f65.results.toList) = (some ir65, 2, [.cell 0 118]) := by kernel_rfl



end Go.Proofs.Ytmkdbninmimndaa
