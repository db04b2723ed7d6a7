/- The code of this seat struck bare (printed by program). -/
import Derived.Test.YthdkhbhicimpdaaProg
import Derived.Test.YthdkhbhicimpdaaV4
import Derived.KernelRfl
set_option linter.unusedVariables false
set_option maxRecDepth 100000
namespace Go.Proofs.Ythdkhbhicimpdaa
open Go Go.Vm
def ir6_l0 : LC := (.seq (.seq (.ops [⟨some 38, .move (.tmp 9), none⟩,
 ⟨some 39, .move (.tmp 1), none⟩,
 ⟨some 40, .call ⟨.builtin .len, #[.tmp 39], #[36]⟩, none⟩,
 ⟨some 41, .binOp .lss 3 (.tmp 38) (.tmp 40) 3, none⟩,
 ⟨some 42, .move (.tmp 41), none⟩,
 ⟨some 43, .move (.tmp 9), some (42, true)⟩,
 ⟨some 44, .binOp .lss 3 (.tmp 43) (.const (.int .i64 60)) 3, some (42, true)⟩,
 ⟨some 45, .pick (.tmp 42) (.tmp 44) (.const (.bool false)), none⟩,
 ⟨some 46, .move (.tmp 45), none⟩,
 ⟨some 47, .move (.tmp 8), some (46, true)⟩,
 ⟨some 48, .pick (.tmp 46) (.tmp 47) (.const (.bool false)), none⟩])
 (.cond (.tmp 48)
 .skip
 (.exit 0)))
 (.seq (.block 1 (.draw [⟨some 52, .load 29 (.tmp 7), none⟩,
 ⟨some 53, .move (.tmp 1), none⟩,
 ⟨some 54, .move (.tmp 9), none⟩,
 ⟨some 55, .indexAddr 36 (.tmp 53) (.tmp 54), none⟩,
 ⟨some 56, .load 48 (.tmp 55), none⟩,
 ⟨some 57, .call ⟨.value (.func 22), #[.tmp 52, .tmp 56], #[29, 48]⟩, none⟩,
 ⟨some 51, .move (.tmp 57), none⟩,
 ⟨some 58, .extract (.tmp 51) 0, none⟩,
 ⟨some 59, .extract (.tmp 51) 1, none⟩,
 ⟨none, .store 29 (.tmp 7) (.tmp 58), none⟩,
 ⟨some 8, .assign (.tmp 59), none⟩] [(8, 9)]))
 (.ops [⟨some 49, .move (.tmp 9), none⟩,
 ⟨some 50, .binOp .add 3 (.tmp 49) (.const (.int .i64 1)) 3, none⟩,
 ⟨some 9, .assign (.tmp 50), none⟩])))
def ir6_l1 : LC := (.seq (.seq (.ops [⟨some 128, .move (.tmp 20), none⟩,
 ⟨some 129, .move (.tmp 18), none⟩,
 ⟨some 130, .move (.tmp 2), none⟩,
 ⟨some 131, .binOp .add 3 (.tmp 129) (.tmp 130) 3, none⟩,
 ⟨some 132, .binOp .lss 3 (.tmp 128) (.tmp 131) 3, none⟩])
 (.cond (.tmp 132)
 .skip
 (.exit 4)))
 (.seq (.block 5 (.ops [⟨some 135, .move (.tmp 19), none⟩,
 ⟨some 136, .move (.tmp 135), none⟩,
 ⟨some 137, .move (.tmp 15), some (136, true)⟩,
 ⟨some 138, .move (.tmp 20), some (136, true)⟩,
 ⟨some 139, .indexAddr 64 (.tmp 137) (.tmp 138), some (136, true)⟩,
 ⟨some 140, .load 4 (.tmp 139), some (136, true)⟩,
 ⟨some 141, .unOp .not 4 (.tmp 140), some (136, true)⟩,
 ⟨some 142, .pick (.tmp 136) (.tmp 141) (.const (.bool false)), none⟩,
 ⟨some 19, .assign (.tmp 142), none⟩]))
 (.ops [⟨some 133, .move (.tmp 20), none⟩,
 ⟨some 134, .binOp .add 3 (.tmp 133) (.const (.int .i64 1)) 3, none⟩,
 ⟨some 20, .assign (.tmp 134), none⟩])))
def ir6_l2 : LC := (.seq (.seq (.ops [⟨some 118, .move (.tmp 18), none⟩,
 ⟨some 119, .binOp .geq 3 (.tmp 118) (.const (.int .i64 0)) 3, none⟩])
 (.cond (.tmp 119)
 .skip
 (.exit 2)))
 (.seq (.block 3 (.seq (.seq (.ops [⟨some 122, .move (.tmp 2), none⟩,
 ⟨some 123, .move (.tmp 0), none⟩,
 ⟨some 124, .move (.tmp 18), none⟩,
 ⟨some 125, .binOp .sub 3 (.tmp 123) (.tmp 124) 3, none⟩,
 ⟨some 126, .binOp .gtr 3 (.tmp 122) (.tmp 125) 3, none⟩])
 (.cond (.tmp 126)
 (.exit 3)
 .skip))
 (.seq (.ops [⟨some 19, .assign (.const (.bool true)), none⟩])
 (.seq (.seq (.ops [⟨some 127, .move (.tmp 18), none⟩,
 ⟨some 20, .assign (.tmp 127), none⟩])
 (.block 4 (.loop ir6_l1)))
 (.seq (.ops [⟨some 143, .move (.tmp 19), none⟩])
 (.cond (.tmp 143)
 (.ops [⟨some 144, .move (.tmp 18), none⟩,
 ⟨some 17, .assign (.tmp 144), none⟩])
 .skip))))))
 (.ops [⟨some 120, .move (.tmp 18), none⟩,
 ⟨some 121, .binOp .sub 3 (.tmp 120) (.const (.int .i64 1)) 3, none⟩,
 ⟨some 18, .assign (.tmp 121), none⟩])))
def ir6 : LC := (.seq (.ops [⟨some 6, .assign (.const (.bool false)), none⟩])
 (.seq (.seq (.ops [⟨some 21, .move (.tmp 0), none⟩,
 ⟨some 22, .binOp .lss 3 (.tmp 21) (.const (.int .i64 1)) 3, none⟩,
 ⟨some 23, .move (.tmp 22), none⟩,
 ⟨some 24, .move (.tmp 0), some (23, false)⟩,
 ⟨some 25, .binOp .gtr 3 (.tmp 24) (.const (.int .i64 64)) 3, some (23, false)⟩,
 ⟨some 26, .pick (.tmp 23) (.const (.bool true)) (.tmp 25), none⟩,
 ⟨some 27, .move (.tmp 26), none⟩,
 ⟨some 28, .move (.tmp 1), some (27, false)⟩,
 ⟨some 29, .call ⟨.value (.func 8), #[.const (.int .i64 64), .const (.slice none 0 0), .tmp 28], #[3, 22, 36]⟩, some (27, false)⟩,
 ⟨some 30, .pick (.tmp 27) (.const (.bool true)) (.tmp 29), none⟩])
 (.cond (.tmp 30)
 (.seq (.ops [⟨some 31, .call ⟨.value (.func 9), #[], #[]⟩, none⟩,
 ⟨some 6, .assign (.tmp 31), none⟩])
 .ret)
 .skip))
 (.seq (.ops [⟨some 33, .move (.tmp 0), none⟩,
 ⟨some 34, .buildSlice 22 1 #[(0, .tmp 33)], none⟩,
 ⟨some 35, .call ⟨.value (.func 10), #[.const (.int .i64 64), .tmp 34], #[3, 22]⟩, none⟩,
 ⟨some 32, .move (.tmp 35), none⟩,
 ⟨some 36, .extract (.tmp 32) 0, none⟩,
 ⟨some 37, .extract (.tmp 32) 1, none⟩,
 ⟨some 7, .alloc 29, none⟩,
 ⟨none, .store 29 (.tmp 7) (.tmp 36), none⟩,
 ⟨some 8, .assign (.tmp 37), none⟩])
 (.seq (.seq (.ops [⟨some 9, .assign (.const (.int .i64 0)), none⟩])
 (.block 0 (.loop ir6_l0)))
 (.seq (.seq (.ops [⟨some 60, .move (.tmp 8), none⟩,
 ⟨some 61, .unOp .not 4 (.tmp 60), none⟩])
 (.cond (.tmp 61)
 (.seq (.ops [⟨some 6, .assign (.const (.bool false)), none⟩])
 .ret)
 .skip))
 (.seq (.draw [⟨some 63, .fieldAddr 29 (.tmp 7) 0, none⟩,
 ⟨some 64, .load 25 (.tmp 63), none⟩,
 ⟨some 65, .fieldAddr 29 (.tmp 7) 1, none⟩,
 ⟨some 66, .load 26 (.tmp 65), none⟩,
 ⟨some 67, .call ⟨.value (.func 23), #[.tmp 66], #[26]⟩, none⟩,
 ⟨some 68, .call ⟨.value (.func 18), #[.tmp 64, .tmp 67], #[25, 26]⟩, none⟩,
 ⟨some 62, .move (.tmp 68), none⟩,
 ⟨some 69, .extract (.tmp 62) 0, none⟩,
 ⟨some 70, .extract (.tmp 62) 1, none⟩,
 ⟨some 10, .assign (.tmp 69), none⟩,
 ⟨some 11, .assign (.tmp 70), none⟩] [(0, 4), (1, 4)])
 (.seq (.seq (.ops [⟨some 71, .move (.tmp 10), none⟩,
 ⟨some 72, .binOp .eql 25 (.tmp 71) (.const (.pointer none)) 25, none⟩,
 ⟨some 73, .move (.tmp 72), none⟩,
 ⟨some 74, .move (.tmp 11), some (73, false)⟩,
 ⟨some 75, .call ⟨.value (.func 15), #[.tmp 74], #[37]⟩, some (73, false)⟩,
 ⟨some 76, .binOp .neq 3 (.tmp 75) (.const (.int .i64 0)) 3, some (73, false)⟩,
 ⟨some 77, .pick (.tmp 73) (.const (.bool true)) (.tmp 76), none⟩])
 (.cond (.tmp 77)
 (.seq (.ops [⟨some 6, .assign (.const (.bool false)), none⟩])
 .ret)
 .skip))
 (.seq (.ops [⟨some 79, .move (.tmp 10), none⟩,
 ⟨some 80, .call ⟨.value (.func 19), #[.tmp 79, .const (.int .i64 0), .const (.int .i64 1)], #[25, 3, 3]⟩, none⟩,
 ⟨some 78, .move (.tmp 80), none⟩,
 ⟨some 81, .extract (.tmp 78) 0, none⟩,
 ⟨some 82, .extract (.tmp 78) 1, none⟩,
 ⟨some 12, .assign (.tmp 81), none⟩,
 ⟨some 13, .assign (.tmp 82), none⟩])
 (.seq (.seq (.draw [⟨some 83, .move (.tmp 13), none⟩,
 ⟨some 84, .call ⟨.value (.func 15), #[.tmp 83], #[37]⟩, none⟩,
 ⟨some 85, .binOp .eql 3 (.tmp 84) (.const (.int .i64 5)) 3, none⟩,
 ⟨some 86, .fieldAddr 29 (.tmp 7) 0, none⟩,
 ⟨some 87, .load 25 (.tmp 86), none⟩,
 ⟨some 88, .call ⟨.value (.func 24), #[.tmp 87, .const (.int .i64 0)], #[25, 3]⟩, none⟩,
 ⟨some 89, .move (.tmp 0), none⟩,
 ⟨some 90, .binOp .eql 3 (.tmp 88) (.tmp 89) 3, none⟩,
 ⟨some 91, .binOp .neq 4 (.tmp 85) (.tmp 90) 4, none⟩] [(1, 3), (1, 4), (2, 5), (1, 6), (5, 6)])
 (.cond (.tmp 91)
 (.seq (.ops [⟨some 6, .assign (.const (.bool false)), none⟩])
 .ret)
 .skip))
 (.seq (.ops [⟨some 92, .fieldAddr 29 (.tmp 7) 2, none⟩,
 ⟨some 93, .load 27 (.tmp 92), none⟩,
 ⟨some 94, .nilCheck (.tmp 93), none⟩,
 ⟨some 95, .fieldAddr 68 (.tmp 94) 2, none⟩,
 ⟨some 96, .load 66 (.tmp 95), none⟩,
 ⟨some 97, .indexAddr 66 (.tmp 96) (.const (.int .i64 0)), none⟩,
 ⟨some 98, .load 64 (.tmp 97), none⟩,
 ⟨some 14, .assign (.tmp 98), none⟩])
 (.seq (.ops [⟨some 99, .move (.tmp 14), none⟩,
 ⟨some 100, .call ⟨.builtin .append, #[.const (.slice none 0 0), .tmp 99], #[64, 64]⟩, none⟩,
 ⟨some 15, .assign (.tmp 100), none⟩])
 (.seq (.ops [⟨some 102, .fieldAddr 29 (.tmp 7) 0, none⟩,
 ⟨some 103, .load 25 (.tmp 102), none⟩,
 ⟨some 104, .move (.tmp 2), none⟩,
 ⟨some 105, .call ⟨.value (.func 19), #[.tmp 103, .const (.int .i64 0), .tmp 104], #[25, 3, 3]⟩, none⟩,
 ⟨some 101, .move (.tmp 105), none⟩,
 ⟨some 106, .extract (.tmp 101) 0, none⟩,
 ⟨some 107, .extract (.tmp 101) 1, none⟩,
 ⟨some 16, .assign (.tmp 106), none⟩,
 ⟨some 13, .assign (.tmp 107), none⟩])
 (.seq (.seq (.ops [⟨some 108, .move (.tmp 2), none⟩,
 ⟨some 109, .binOp .lss 3 (.tmp 108) (.const (.int .i64 1)) 3, none⟩])
 (.cond (.tmp 109)
 (.seq (.ops [⟨some 110, .move (.tmp 13), none⟩,
 ⟨some 111, .call ⟨.value (.func 15), #[.tmp 110], #[37]⟩, none⟩,
 ⟨some 112, .binOp .eql 3 (.tmp 111) (.const (.int .i64 2)) 3, none⟩,
 ⟨some 113, .move (.tmp 112), none⟩,
 ⟨some 114, .call ⟨.value (.func 9), #[], #[]⟩, some (113, true)⟩,
 ⟨some 115, .pick (.tmp 113) (.tmp 114) (.const (.bool false)), none⟩,
 ⟨some 6, .assign (.tmp 115), none⟩])
 .ret)
 .skip))
 (.seq (.ops [⟨some 17, .assign (.const (.int .i64 (-1))), none⟩])
 (.seq (.seq (.ops [⟨some 116, .move (.tmp 0), none⟩,
 ⟨some 117, .binOp .sub 3 (.tmp 116) (.const (.int .i64 1)) 3, none⟩,
 ⟨some 18, .assign (.tmp 117), none⟩])
 (.block 2 (.loop ir6_l2)))
 (.seq (.seq (.ops [⟨some 145, .move (.tmp 17), none⟩,
 ⟨some 146, .binOp .lss 3 (.tmp 145) (.const (.int .i64 0)) 3, none⟩])
 (.cond (.tmp 146)
 (.seq (.ops [⟨some 147, .move (.tmp 13), none⟩,
 ⟨some 148, .call ⟨.value (.func 15), #[.tmp 147], #[37]⟩, none⟩,
 ⟨some 149, .binOp .eql 3 (.tmp 148) (.const (.int .i64 5)) 3, none⟩,
 ⟨some 150, .move (.tmp 149), none⟩,
 ⟨some 151, .move (.tmp 16), some (150, true)⟩,
 ⟨some 152, .binOp .eql 3 (.tmp 151) (.const (.int .i64 0)) 3, some (150, true)⟩,
 ⟨some 153, .pick (.tmp 150) (.tmp 152) (.const (.bool false)), none⟩,
 ⟨some 154, .move (.tmp 153), none⟩,
 ⟨some 155, .call ⟨.value (.func 9), #[], #[]⟩, some (154, true)⟩,
 ⟨some 156, .pick (.tmp 154) (.tmp 155) (.const (.bool false)), none⟩,
 ⟨some 6, .assign (.tmp 156), none⟩])
 .ret)
 .skip))
 (.seq (.ops [⟨some 157, .move (.tmp 13), none⟩,
 ⟨some 158, .call ⟨.value (.func 15), #[.tmp 157], #[37]⟩, none⟩,
 ⟨some 159, .binOp .eql 3 (.tmp 158) (.const (.int .i64 0)) 3, none⟩,
 ⟨some 160, .move (.tmp 159), none⟩,
 ⟨some 161, .move (.tmp 16), some (160, true)⟩,
 ⟨some 162, .move (.tmp 17), some (160, true)⟩,
 ⟨some 163, .binOp .eql 3 (.tmp 161) (.tmp 162) 3, some (160, true)⟩,
 ⟨some 164, .pick (.tmp 160) (.tmp 163) (.const (.bool false)), none⟩,
 ⟨some 165, .move (.tmp 164), none⟩,
 ⟨some 166, .call ⟨.value (.func 9), #[], #[]⟩, some (165, true)⟩,
 ⟨some 167, .pick (.tmp 165) (.tmp 166) (.const (.bool false)), none⟩,
 ⟨some 6, .assign (.tmp 167), none⟩])
 .ret)))))))))))))))))
theorem ir6_eq : (Try.f6.body.map low, Try.f6.ntmps, Try.f6.results.toList) = (some ir6, 168, [.tmp 6]) := by kernel_rfl
def ir7_l0 : LC := (.seq (.seq (.ops [⟨some 32, .move (.tmp 9), none⟩,
 ⟨some 33, .move (.tmp 2), none⟩,
 ⟨some 34, .call ⟨.builtin .len, #[.tmp 33], #[36]⟩, none⟩,
 ⟨some 35, .binOp .lss 3 (.tmp 32) (.tmp 34) 3, none⟩,
 ⟨some 36, .move (.tmp 35), none⟩,
 ⟨some 37, .move (.tmp 9), some (36, true)⟩,
 ⟨some 38, .binOp .lss 3 (.tmp 37) (.const (.int .i64 60)) 3, some (36, true)⟩,
 ⟨some 39, .pick (.tmp 36) (.tmp 38) (.const (.bool false)), none⟩])
 (.cond (.tmp 39)
 .skip
 (.exit 0)))
 (.seq (.block 1 (.seq (.draw [⟨some 43, .load 29 (.tmp 7), none⟩,
 ⟨some 44, .move (.tmp 2), none⟩,
 ⟨some 45, .move (.tmp 9), none⟩,
 ⟨some 46, .indexAddr 36 (.tmp 44) (.tmp 45), none⟩,
 ⟨some 47, .load 48 (.tmp 46), none⟩,
 ⟨some 48, .call ⟨.value (.func 22), #[.tmp 43, .tmp 47], #[29, 48]⟩, none⟩,
 ⟨some 42, .move (.tmp 48), none⟩,
 ⟨some 49, .extract (.tmp 42) 0, none⟩,
 ⟨some 50, .extract (.tmp 42) 1, none⟩,
 ⟨none, .store 29 (.tmp 7) (.tmp 49), none⟩,
 ⟨some 8, .assign (.tmp 50), none⟩] [(8, 9)])
 (.seq (.ops [⟨some 51, .move (.tmp 8), none⟩,
 ⟨some 52, .unOp .not 4 (.tmp 51), none⟩,
 ⟨some 53, .move (.tmp 52), none⟩,
 ⟨some 54, .load 29 (.tmp 7), some (53, false)⟩,
 ⟨some 55, .move (.tmp 9), some (53, false)⟩,
 ⟨some 56, .binOp .rem 3 (.tmp 55) (.const (.int .i64 4)) 3, some (53, false)⟩,
 ⟨some 57, .call ⟨.value (.func 12), #[.tmp 54, .tmp 56], #[29, 3]⟩, some (53, false)⟩,
 ⟨some 58, .unOp .not 4 (.tmp 57), some (53, false)⟩,
 ⟨some 59, .pick (.tmp 53) (.const (.bool true)) (.tmp 58), none⟩])
 (.cond (.tmp 59)
 (.seq (.ops [⟨some 6, .assign (.const (.bool false)), none⟩])
 .ret)
 .skip))))
 (.ops [⟨some 40, .move (.tmp 9), none⟩,
 ⟨some 41, .binOp .add 3 (.tmp 40) (.const (.int .i64 1)) 3, none⟩,
 ⟨some 9, .assign (.tmp 41), none⟩])))
def ir7 : LC := (.seq (.ops [⟨some 6, .assign (.const (.bool false)), none⟩])
 (.seq (.seq (.ops [⟨some 10, .move (.tmp 0), none⟩,
 ⟨some 11, .move (.tmp 1), none⟩,
 ⟨some 12, .move (.tmp 2), none⟩,
 ⟨some 13, .call ⟨.value (.func 8), #[.tmp 10, .tmp 11, .tmp 12], #[3, 22, 36]⟩, none⟩])
 (.cond (.tmp 13)
 (.seq (.ops [⟨some 14, .call ⟨.value (.func 9), #[], #[]⟩, none⟩,
 ⟨some 6, .assign (.tmp 14), none⟩])
 .ret)
 .skip))
 (.seq (.ops [⟨some 16, .move (.tmp 0), none⟩,
 ⟨some 17, .move (.tmp 1), none⟩,
 ⟨some 18, .call ⟨.value (.func 10), #[.tmp 16, .tmp 17], #[3, 22]⟩, none⟩,
 ⟨some 15, .move (.tmp 18), none⟩,
 ⟨some 19, .extract (.tmp 15) 0, none⟩,
 ⟨some 20, .extract (.tmp 15) 1, none⟩,
 ⟨some 7, .alloc 29, none⟩,
 ⟨none, .store 29 (.tmp 7) (.tmp 19), none⟩,
 ⟨some 8, .assign (.tmp 20), none⟩])
 (.seq (.seq (.ops [⟨some 21, .move (.tmp 8), none⟩,
 ⟨some 22, .unOp .not 4 (.tmp 21), none⟩,
 ⟨some 23, .move (.tmp 22), none⟩,
 ⟨some 24, .fieldAddr 29 (.tmp 7) 2, some (23, false)⟩,
 ⟨some 25, .load 27 (.tmp 24), some (23, false)⟩,
 ⟨some 26, .binOp .eql 27 (.tmp 25) (.const (.pointer none)) 27, some (23, false)⟩,
 ⟨some 27, .pick (.tmp 23) (.const (.bool true)) (.tmp 26), none⟩])
 (.cond (.tmp 27)
 (.seq (.ops [⟨some 28, .move (.tmp 8), none⟩,
 ⟨some 29, .move (.tmp 28), none⟩,
 ⟨some 30, .call ⟨.value (.func 9), #[], #[]⟩, some (29, true)⟩,
 ⟨some 31, .pick (.tmp 29) (.tmp 30) (.const (.bool false)), none⟩,
 ⟨some 6, .assign (.tmp 31), none⟩])
 .ret)
 .skip))
 (.seq (.seq (.ops [⟨some 9, .assign (.const (.int .i64 0)), none⟩])
 (.block 0 (.loop ir7_l0)))
 (.seq (.ops [⟨some 60, .load 29 (.tmp 7), none⟩,
 ⟨some 61, .call ⟨.value (.func 12), #[.tmp 60, .const (.int .i64 0)], #[29, 3]⟩, none⟩,
 ⟨some 62, .move (.tmp 61), none⟩,
 ⟨some 63, .call ⟨.value (.func 9), #[], #[]⟩, some (62, true)⟩,
 ⟨some 64, .pick (.tmp 62) (.tmp 63) (.const (.bool false)), none⟩,
 ⟨some 6, .assign (.tmp 64), none⟩])
 .ret))))))
theorem ir7_eq : (Try.f7.body.map low, Try.f7.ntmps, Try.f7.results.toList) = (some ir7, 65, [.tmp 6]) := by kernel_rfl
def ir18_l0 : LC := (.seq (.ops [⟨some 32, .binOp .lss 3 (.tmp 31) (.const (.int .i64 8)) 3, none⟩])
 (.seq (.cond (.tmp 32)
 .skip
 (.exit 1))
 (.seq (.block 2 (.seq (.ops [⟨some 33, .move (.tmp 31), none⟩,
 ⟨some 7, .assign (.tmp 33), none⟩])
 (.ops [⟨some 34, .move (.tmp 7), none⟩,
 ⟨some 35, .move (.tmp 0), none⟩,
 ⟨some 36, .move (.tmp 7), none⟩,
 ⟨some 37, .nilCheck (.tmp 35), none⟩,
 ⟨some 38, .fieldAddr 60 (.tmp 37) 1, none⟩,
 ⟨some 39, .indexAddr 58 (.tmp 38) (.tmp 36), none⟩,
 ⟨some 40, .fieldAddr 57 (.tmp 39) 2, none⟩,
 ⟨some 41, .load 55 (.tmp 40), none⟩,
 ⟨some 42, .call ⟨.builtin .append, #[.const (.slice none 0 0), .tmp 41], #[55, 55]⟩, none⟩,
 ⟨some 43, .fieldAddr 60 (.tmp 6) 1, none⟩,
 ⟨some 44, .indexAddr 58 (.tmp 43) (.tmp 34), none⟩,
 ⟨some 45, .fieldAddr 57 (.tmp 44) 2, none⟩,
 ⟨none, .store 55 (.tmp 45) (.tmp 42), none⟩])))
 (.ops [⟨some 46, .binOp .add 3 (.tmp 31) (.const (.int .i64 1)) 3, none⟩,
 ⟨some 31, .move (.tmp 46), none⟩]))))
def ir18 : LC := (.seq (.ops [⟨some 4, .assign (.const (.pointer none)), none⟩,
 ⟨some 5, .assign (.const (.int .i64 0)), none⟩])
 (.seq (.block 0 (.seq (.ops [⟨some 9, .move (.tmp 0), none⟩,
 ⟨some 10, .call ⟨.value (.func 44), #[.tmp 9], #[25]⟩, none⟩,
 ⟨some 11, .unOp .not 4 (.tmp 10), none⟩,
 ⟨some 12, .move (.tmp 11), none⟩,
 ⟨some 13, .move (.tmp 1), some (12, false)⟩,
 ⟨some 14, .call ⟨.value (.func 41), #[.tmp 13], #[26]⟩, some (12, false)⟩,
 ⟨some 15, .binOp .eql 3 (.tmp 14) (.const (.int .i64 0)) 3, some (12, false)⟩,
 ⟨some 16, .pick (.tmp 12) (.const (.bool true)) (.tmp 15), none⟩,
 ⟨some 8, .assign (.tmp 16), none⟩])
 (.cond (.tmp 8)
 (.seq (.ops [⟨some 4, .assign (.const (.pointer none)), none⟩,
 ⟨some 5, .assign (.const (.int .i64 1)), none⟩])
 .ret)
 (.seq (.draw [⟨some 18, .move (.tmp 1), none⟩,
 ⟨some 19, .call ⟨.value (.func 41), #[.tmp 18], #[26]⟩, none⟩,
 ⟨some 20, .move (.tmp 0), none⟩,
 ⟨some 21, .nilCheck (.tmp 20), none⟩,
 ⟨some 22, .fieldAddr 60 (.tmp 21) 0, none⟩,
 ⟨some 23, .load 26 (.tmp 22), none⟩,
 ⟨some 24, .call ⟨.value (.func 41), #[.tmp 23], #[26]⟩, none⟩,
 ⟨some 25, .binOp .neq 3 (.tmp 19) (.tmp 24) 3, none⟩,
 ⟨some 17, .assign (.tmp 25), none⟩] [(1, 2), (1, 3), (1, 4), (1, 5)])
 (.cond (.tmp 17)
 (.seq (.ops [⟨some 4, .assign (.const (.pointer none)), none⟩,
 ⟨some 5, .assign (.const (.int .i64 2)), none⟩])
 .ret)
 .skip)))))
 (.seq (.ops [⟨some 26, .move (.tmp 0), none⟩,
 ⟨some 27, .nilCheck (.tmp 26), none⟩,
 ⟨some 28, .load 60 (.tmp 27), none⟩,
 ⟨some 6, .alloc 60, none⟩,
 ⟨none, .store 60 (.tmp 6) (.tmp 28), none⟩])
 (.seq (.ops [⟨some 29, .move (.tmp 1), none⟩,
 ⟨some 30, .fieldAddr 60 (.tmp 6) 0, none⟩,
 ⟨none, .store 26 (.tmp 30) (.tmp 29), none⟩])
 (.seq (.seq (.ops [⟨some 31, .move (.const (.int .i64 0)), none⟩])
 (.block 1 (.loop ir18_l0)))
 (.seq (.ops [⟨some 4, .assign (.tmp 6), none⟩,
 ⟨some 5, .assign (.const (.int .i64 0)), none⟩])
 .ret))))))
theorem ir18_eq : (Try.f18.body.map low, Try.f18.ntmps, Try.f18.results.toList) = (some ir18, 47, [.tmp 4, .tmp 5]) := by kernel_rfl
def ir22 : LC := (.seq (.ops [⟨some 2, .box 29 (.tmp 0), none⟩,
 ⟨some 3, .box 48 (.tmp 1), none⟩,
 ⟨some 4, .alloc 29, none⟩,
 ⟨some 5, .assign (.const (.bool false)), none⟩])
 (.seq (.seq (.ops [⟨some 25, .fieldAddr 48 (.tmp 3) 0, none⟩,
 ⟨some 26, .load 3 (.tmp 25), none⟩])
 (.block 0 (.seq (.ops [⟨some 28, .binOp .eql 3 (.tmp 26) (.const (.int .i64 1)) 3, none⟩,
 ⟨some 27, .assign (.tmp 28), none⟩])
 (.cond (.tmp 27)
 (.seq (.ops [⟨some 30, .fieldAddr 29 (.tmp 2) 0, none⟩,
 ⟨some 31, .load 25 (.tmp 30), none⟩,
 ⟨some 32, .fieldAddr 48 (.tmp 3) 1, none⟩,
 ⟨some 33, .load 3 (.tmp 32), none⟩,
 ⟨some 34, .fieldAddr 48 (.tmp 3) 2, none⟩,
 ⟨some 35, .load 3 (.tmp 34), none⟩,
 ⟨some 36, .call ⟨.value (.func 19), #[.tmp 31, .tmp 33, .tmp 35], #[25, 3, 3]⟩, none⟩,
 ⟨some 29, .move (.tmp 36), none⟩,
 ⟨some 37, .extract (.tmp 29) 0, none⟩,
 ⟨some 38, .extract (.tmp 29) 1, none⟩,
 ⟨some 6, .assign (.tmp 37), none⟩,
 ⟨some 7, .assign (.tmp 38), none⟩])
 (.seq (.ops [⟨some 40, .fieldAddr 29 (.tmp 2) 2, none⟩,
 ⟨some 41, .load 27 (.tmp 40), none⟩,
 ⟨some 42, .fieldAddr 48 (.tmp 3) 1, none⟩,
 ⟨some 43, .load 3 (.tmp 42), none⟩,
 ⟨some 44, .fieldAddr 48 (.tmp 3) 2, none⟩,
 ⟨some 45, .load 3 (.tmp 44), none⟩,
 ⟨some 46, .call ⟨.value (.func 49), #[.tmp 41, .tmp 43, .tmp 45], #[27, 3, 3]⟩, none⟩,
 ⟨some 39, .move (.tmp 46), none⟩,
 ⟨some 47, .extract (.tmp 39) 0, none⟩,
 ⟨some 48, .extract (.tmp 39) 1, none⟩,
 ⟨some 8, .assign (.tmp 47), none⟩,
 ⟨some 9, .assign (.tmp 48), none⟩])
 (.seq (.draw [⟨some 49, .load 29 (.tmp 2), none⟩,
 ⟨some 50, .move (.tmp 6), none⟩,
 ⟨some 51, .move (.tmp 8), none⟩,
 ⟨some 52, .binOp .eql 3 (.tmp 50) (.tmp 51) 3, none⟩,
 ⟨some 53, .move (.tmp 52), none⟩,
 ⟨some 54, .move (.tmp 7), some (53, true)⟩,
 ⟨some 55, .call ⟨.value (.func 15), #[.tmp 54], #[37]⟩, some (53, true)⟩,
 ⟨some 56, .move (.tmp 9), some (53, true)⟩,
 ⟨some 57, .binOp .eql 3 (.tmp 55) (.tmp 56) 3, some (53, true)⟩,
 ⟨some 58, .pick (.tmp 53) (.tmp 57) (.const (.bool false)), none⟩,
 ⟨none, .store 29 (.tmp 4) (.tmp 49), none⟩,
 ⟨some 5, .assign (.tmp 58), none⟩] [(0, 6), (6, 7), (7, 10), (8, 10), (9, 10)])
 .ret)))
 (.seq (.ops [⟨some 60, .binOp .eql 3 (.tmp 26) (.const (.int .i64 2)) 3, none⟩,
 ⟨some 59, .assign (.tmp 60), none⟩])
 (.cond (.tmp 59)
 (.seq (.draw [⟨some 61, .load 29 (.tmp 2), none⟩,
 ⟨some 62, .fieldAddr 29 (.tmp 2) 0, none⟩,
 ⟨some 63, .load 25 (.tmp 62), none⟩,
 ⟨some 64, .fieldAddr 48 (.tmp 3) 1, none⟩,
 ⟨some 65, .load 3 (.tmp 64), none⟩,
 ⟨some 66, .fieldAddr 48 (.tmp 3) 2, none⟩,
 ⟨some 67, .load 3 (.tmp 66), none⟩,
 ⟨some 68, .fieldAddr 48 (.tmp 3) 3, none⟩,
 ⟨some 69, .load 3 (.tmp 68), none⟩,
 ⟨some 70, .call ⟨.value (.func 20), #[.tmp 63, .tmp 65, .tmp 67, .tmp 69], #[25, 3, 3, 3]⟩, none⟩,
 ⟨some 71, .call ⟨.value (.func 15), #[.tmp 70], #[37]⟩, none⟩,
 ⟨some 72, .fieldAddr 29 (.tmp 2) 2, none⟩,
 ⟨some 73, .load 27 (.tmp 72), none⟩,
 ⟨some 74, .fieldAddr 48 (.tmp 3) 1, none⟩,
 ⟨some 75, .load 3 (.tmp 74), none⟩,
 ⟨some 76, .fieldAddr 48 (.tmp 3) 2, none⟩,
 ⟨some 77, .load 3 (.tmp 76), none⟩,
 ⟨some 78, .fieldAddr 48 (.tmp 3) 3, none⟩,
 ⟨some 79, .load 3 (.tmp 78), none⟩,
 ⟨some 80, .call ⟨.value (.func 50), #[.tmp 73, .tmp 75, .tmp 77, .tmp 79], #[27, 3, 3, 3]⟩, none⟩,
 ⟨some 81, .binOp .eql 3 (.tmp 71) (.tmp 80) 3, none⟩,
 ⟨none, .store 29 (.tmp 4) (.tmp 61), none⟩,
 ⟨some 5, .assign (.tmp 81), none⟩] [(0, 9), (0, 10), (9, 11), (10, 11), (9, 12), (10, 12), (9, 13), (10, 13), (9, 14), (10, 14), (9, 15), (10, 15), (9, 16), (10, 16), (9, 17), (10, 17), (9, 18), (10, 18), (0, 19), (20, 21)])
 .ret)
 (.seq (.ops [⟨some 83, .binOp .eql 3 (.tmp 26) (.const (.int .i64 3)) 3, none⟩,
 ⟨some 82, .assign (.tmp 83), none⟩])
 (.cond (.tmp 82)
 (.seq (.ops [⟨some 84, .fieldAddr 48 (.tmp 3) 4, none⟩,
 ⟨some 85, .load 45 (.tmp 84), none⟩,
 ⟨some 86, .call ⟨.builtin .append, #[.const (.slice none 0 0), .tmp 85], #[45, 45]⟩, none⟩,
 ⟨some 87, .buildSlice 45 1 #[(0, .const (.int .u8 119))], none⟩,
 ⟨some 88, .call ⟨.builtin .append, #[.tmp 86, .tmp 87], #[45, 45]⟩, none⟩,
 ⟨some 10, .assign (.tmp 88), none⟩])
 (.seq (.draw [⟨some 89, .fieldAddr 29 (.tmp 2) 0, none⟩,
 ⟨some 90, .load 25 (.tmp 89), none⟩,
 ⟨some 91, .fieldAddr 48 (.tmp 3) 1, none⟩,
 ⟨some 92, .load 3 (.tmp 91), none⟩,
 ⟨some 93, .fieldAddr 48 (.tmp 3) 2, none⟩,
 ⟨some 94, .load 3 (.tmp 93), none⟩,
 ⟨some 95, .move (.tmp 10), none⟩,
 ⟨some 96, .fieldAddr 48 (.tmp 3) 4, none⟩,
 ⟨some 97, .load 45 (.tmp 96), none⟩,
 ⟨some 98, .call ⟨.builtin .len, #[.tmp 97], #[45]⟩, none⟩,
 ⟨some 99, .slice 45 (.tmp 95) none (some (.tmp 98)) none, none⟩,
 ⟨some 100, .call ⟨.value (.func 26), #[.tmp 90, .tmp 92, .tmp 94, .tmp 99], #[25, 3, 3, 45]⟩, none⟩,
 ⟨some 11, .assign (.tmp 100), none⟩] [])
 (.seq (.draw [⟨some 101, .load 29 (.tmp 2), none⟩,
 ⟨some 102, .move (.tmp 10), none⟩,
 ⟨some 103, .convert 45 9 (.tmp 102), none⟩,
 ⟨some 104, .fieldAddr 48 (.tmp 3) 4, none⟩,
 ⟨some 105, .load 45 (.tmp 104), none⟩,
 ⟨some 106, .convert 45 9 (.tmp 105), none⟩,
 ⟨some 107, .binOp .add 9 (.tmp 106) (.const (.string { data := #[119] })) 9, none⟩,
 ⟨some 108, .binOp .eql 9 (.tmp 103) (.tmp 107) 9, none⟩,
 ⟨some 109, .move (.tmp 108), none⟩,
 ⟨some 110, .move (.tmp 11), some (109, true)⟩,
 ⟨some 111, .call ⟨.value (.func 15), #[.tmp 110], #[37]⟩, some (109, true)⟩,
 ⟨some 112, .fieldAddr 29 (.tmp 2) 2, some (109, true)⟩,
 ⟨some 113, .load 27 (.tmp 112), some (109, true)⟩,
 ⟨some 114, .fieldAddr 48 (.tmp 3) 1, some (109, true)⟩,
 ⟨some 115, .load 3 (.tmp 114), some (109, true)⟩,
 ⟨some 116, .fieldAddr 48 (.tmp 3) 2, some (109, true)⟩,
 ⟨some 117, .load 3 (.tmp 116), some (109, true)⟩,
 ⟨some 118, .fieldAddr 48 (.tmp 3) 4, some (109, true)⟩,
 ⟨some 119, .load 45 (.tmp 118), some (109, true)⟩,
 ⟨some 120, .call ⟨.value (.func 51), #[.tmp 113, .tmp 115, .tmp 117, .tmp 119], #[27, 3, 3, 45]⟩, some (109, true)⟩,
 ⟨some 121, .binOp .eql 3 (.tmp 111) (.tmp 120) 3, some (109, true)⟩,
 ⟨some 122, .pick (.tmp 109) (.tmp 121) (.const (.bool false)), none⟩,
 ⟨none, .store 29 (.tmp 4) (.tmp 101), none⟩,
 ⟨some 5, .assign (.tmp 122), none⟩] [(0, 10), (10, 11), (10, 12), (10, 13), (10, 14), (10, 15), (10, 16), (10, 17), (10, 18), (0, 19), (20, 22), (21, 22)])
 .ret)))
 (.seq (.ops [⟨some 124, .binOp .eql 3 (.tmp 26) (.const (.int .i64 4)) 3, none⟩,
 ⟨some 123, .assign (.tmp 124), none⟩])
 (.cond (.tmp 123)
 (.seq (.draw [⟨some 125, .load 29 (.tmp 2), none⟩,
 ⟨some 126, .fieldAddr 29 (.tmp 2) 0, none⟩,
 ⟨some 127, .load 25 (.tmp 126), none⟩,
 ⟨some 128, .fieldAddr 48 (.tmp 3) 1, none⟩,
 ⟨some 129, .load 3 (.tmp 128), none⟩,
 ⟨some 130, .call ⟨.value (.func 28), #[.tmp 127, .tmp 129], #[25, 3]⟩, none⟩,
 ⟨some 131, .call ⟨.value (.func 15), #[.tmp 130], #[37]⟩, none⟩,
 ⟨some 132, .fieldAddr 29 (.tmp 2) 2, none⟩,
 ⟨some 133, .load 27 (.tmp 132), none⟩,
 ⟨some 134, .fieldAddr 48 (.tmp 3) 1, none⟩,
 ⟨some 135, .load 3 (.tmp 134), none⟩,
 ⟨some 136, .call ⟨.value (.func 52), #[.tmp 133, .tmp 135], #[27, 3]⟩, none⟩,
 ⟨some 137, .binOp .eql 3 (.tmp 131) (.tmp 136) 3, none⟩,
 ⟨none, .store 29 (.tmp 4) (.tmp 125), none⟩,
 ⟨some 5, .assign (.tmp 137), none⟩] [(0, 5), (0, 6), (5, 7), (6, 7), (5, 8), (6, 8), (5, 9), (6, 9), (5, 10), (6, 10), (0, 11), (12, 13)])
 .ret)
 (.seq (.ops [⟨some 139, .binOp .eql 3 (.tmp 26) (.const (.int .i64 5)) 3, none⟩,
 ⟨some 138, .assign (.tmp 139), none⟩])
 (.cond (.tmp 138)
 (.seq (.ops [⟨some 141, .fieldAddr 29 (.tmp 2) 0, none⟩,
 ⟨some 142, .load 25 (.tmp 141), none⟩,
 ⟨some 143, .fieldAddr 48 (.tmp 3) 1, none⟩,
 ⟨some 144, .load 3 (.tmp 143), none⟩,
 ⟨some 145, .fieldAddr 48 (.tmp 3) 2, none⟩,
 ⟨some 146, .load 3 (.tmp 145), none⟩,
 ⟨some 147, .call ⟨.value (.func 42), #[.tmp 142, .tmp 144, .tmp 146], #[25, 3, 3]⟩, none⟩,
 ⟨some 140, .move (.tmp 147), none⟩,
 ⟨some 148, .extract (.tmp 140) 0, none⟩,
 ⟨some 149, .extract (.tmp 140) 1, none⟩,
 ⟨some 12, .assign (.tmp 148), none⟩,
 ⟨some 13, .assign (.tmp 149), none⟩])
 (.seq (.ops [⟨some 151, .fieldAddr 29 (.tmp 2) 2, none⟩,
 ⟨some 152, .load 27 (.tmp 151), none⟩,
 ⟨some 153, .fieldAddr 48 (.tmp 3) 1, none⟩,
 ⟨some 154, .load 3 (.tmp 153), none⟩,
 ⟨some 155, .fieldAddr 48 (.tmp 3) 2, none⟩,
 ⟨some 156, .load 3 (.tmp 155), none⟩,
 ⟨some 157, .call ⟨.value (.func 53), #[.tmp 152, .tmp 154, .tmp 156], #[27, 3, 3]⟩, none⟩,
 ⟨some 150, .move (.tmp 157), none⟩,
 ⟨some 158, .extract (.tmp 150) 0, none⟩,
 ⟨some 159, .extract (.tmp 150) 1, none⟩,
 ⟨some 14, .assign (.tmp 158), none⟩,
 ⟨some 15, .assign (.tmp 159), none⟩])
 (.seq (.draw [⟨some 160, .load 29 (.tmp 2), none⟩,
 ⟨some 161, .move (.tmp 12), none⟩,
 ⟨some 162, .convert 45 9 (.tmp 161), none⟩,
 ⟨some 163, .move (.tmp 14), none⟩,
 ⟨some 164, .convert 45 9 (.tmp 163), none⟩,
 ⟨some 165, .binOp .eql 9 (.tmp 162) (.tmp 164) 9, none⟩,
 ⟨some 166, .move (.tmp 165), none⟩,
 ⟨some 167, .move (.tmp 13), some (166, true)⟩,
 ⟨some 168, .call ⟨.value (.func 15), #[.tmp 167], #[37]⟩, some (166, true)⟩,
 ⟨some 169, .move (.tmp 15), some (166, true)⟩,
 ⟨some 170, .binOp .eql 3 (.tmp 168) (.tmp 169) 3, some (166, true)⟩,
 ⟨some 171, .pick (.tmp 166) (.tmp 170) (.const (.bool false)), none⟩,
 ⟨none, .store 29 (.tmp 4) (.tmp 160), none⟩,
 ⟨some 5, .assign (.tmp 171), none⟩] [(0, 8), (8, 9), (9, 12), (10, 12), (11, 12)])
 .ret)))
 (.seq (.ops [⟨some 173, .binOp .eql 3 (.tmp 26) (.const (.int .i64 6)) 3, none⟩,
 ⟨some 172, .assign (.tmp 173), none⟩])
 (.cond (.tmp 172)
 (.seq (.ops [⟨some 175, .fieldAddr 29 (.tmp 2) 0, none⟩,
 ⟨some 176, .load 25 (.tmp 175), none⟩,
 ⟨some 177, .fieldAddr 48 (.tmp 3) 1, none⟩,
 ⟨some 178, .load 3 (.tmp 177), none⟩,
 ⟨some 179, .fieldAddr 48 (.tmp 3) 5, none⟩,
 ⟨some 180, .load 46 (.tmp 179), none⟩,
 ⟨some 181, .call ⟨.value (.func 47), #[.tmp 176, .tmp 178, .tmp 180], #[25, 3, 46]⟩, none⟩,
 ⟨some 174, .move (.tmp 181), none⟩,
 ⟨some 182, .extract (.tmp 174) 0, none⟩,
 ⟨some 183, .extract (.tmp 174) 1, none⟩,
 ⟨some 16, .assign (.tmp 182), none⟩,
 ⟨some 17, .assign (.tmp 183), none⟩])
 (.seq (.ops [⟨some 185, .fieldAddr 29 (.tmp 2) 2, none⟩,
 ⟨some 186, .load 27 (.tmp 185), none⟩,
 ⟨some 187, .fieldAddr 48 (.tmp 3) 1, none⟩,
 ⟨some 188, .load 3 (.tmp 187), none⟩,
 ⟨some 189, .fieldAddr 48 (.tmp 3) 5, none⟩,
 ⟨some 190, .load 46 (.tmp 189), none⟩,
 ⟨some 191, .call ⟨.value (.func 54), #[.tmp 186, .tmp 188, .tmp 190], #[27, 3, 46]⟩, none⟩,
 ⟨some 184, .move (.tmp 191), none⟩,
 ⟨some 192, .extract (.tmp 184) 0, none⟩,
 ⟨some 193, .extract (.tmp 184) 1, none⟩,
 ⟨some 18, .assign (.tmp 192), none⟩,
 ⟨some 19, .assign (.tmp 193), none⟩])
 (.seq (.draw [⟨some 194, .load 29 (.tmp 2), none⟩,
 ⟨some 195, .move (.tmp 16), none⟩,
 ⟨some 196, .move (.tmp 18), none⟩,
 ⟨some 197, .call ⟨.value (.func 55), #[.tmp 195, .tmp 196], #[46, 46]⟩, none⟩,
 ⟨some 198, .move (.tmp 197), none⟩,
 ⟨some 199, .move (.tmp 17), some (198, true)⟩,
 ⟨some 200, .call ⟨.value (.func 15), #[.tmp 199], #[37]⟩, some (198, true)⟩,
 ⟨some 201, .move (.tmp 19), some (198, true)⟩,
 ⟨some 202, .binOp .eql 3 (.tmp 200) (.tmp 201) 3, some (198, true)⟩,
 ⟨some 203, .pick (.tmp 198) (.tmp 202) (.const (.bool false)), none⟩,
 ⟨none, .store 29 (.tmp 4) (.tmp 194), none⟩,
 ⟨some 5, .assign (.tmp 203), none⟩] [(0, 3), (0, 6), (6, 7), (7, 10), (8, 10), (9, 10)])
 .ret)))
 (.seq (.ops [⟨some 205, .binOp .eql 3 (.tmp 26) (.const (.int .i64 7)) 3, none⟩,
 ⟨some 204, .assign (.tmp 205), none⟩])
 (.cond (.tmp 204)
 (.seq (.ops [⟨some 206, .fieldAddr 29 (.tmp 2) 1, none⟩,
 ⟨some 207, .load 26 (.tmp 206), none⟩,
 ⟨some 208, .call ⟨.value (.func 23), #[.tmp 207], #[26]⟩, none⟩,
 ⟨some 20, .assign (.tmp 208), none⟩])
 (.seq (.ops [⟨some 210, .fieldAddr 29 (.tmp 2) 0, none⟩,
 ⟨some 211, .load 25 (.tmp 210), none⟩,
 ⟨some 212, .move (.tmp 20), none⟩,
 ⟨some 213, .call ⟨.value (.func 18), #[.tmp 211, .tmp 212], #[25, 26]⟩, none⟩,
 ⟨some 209, .move (.tmp 213), none⟩,
 ⟨some 214, .extract (.tmp 209) 0, none⟩,
 ⟨some 215, .extract (.tmp 209) 1, none⟩,
 ⟨some 21, .assign (.tmp 214), none⟩,
 ⟨some 22, .assign (.tmp 215), none⟩])
 (.seq (.draw [⟨some 217, .fieldAddr 29 (.tmp 2) 2, none⟩,
 ⟨some 218, .load 27 (.tmp 217), none⟩,
 ⟨some 219, .fieldAddr 29 (.tmp 2) 2, none⟩,
 ⟨some 220, .load 27 (.tmp 219), none⟩,
 ⟨some 221, .nilCheck (.tmp 220), none⟩,
 ⟨some 222, .fieldAddr 68 (.tmp 221) 0, none⟩,
 ⟨some 223, .load 65 (.tmp 222), none⟩,
 ⟨some 224, .call ⟨.value (.func 57), #[.tmp 223], #[65]⟩, none⟩,
 ⟨some 225, .call ⟨.value (.func 56), #[.tmp 218, .tmp 224], #[27, 65]⟩, none⟩,
 ⟨some 216, .move (.tmp 225), none⟩,
 ⟨some 226, .extract (.tmp 216) 0, none⟩,
 ⟨some 227, .extract (.tmp 216) 1, none⟩,
 ⟨some 23, .assign (.tmp 226), none⟩,
 ⟨some 24, .assign (.tmp 227), none⟩] [(0, 7), (1, 7)])
 (.seq (.seq (.ops [⟨some 228, .move (.tmp 21), none⟩,
 ⟨some 229, .binOp .eql 25 (.tmp 228) (.const (.pointer none)) 25, none⟩,
 ⟨some 230, .move (.tmp 229), none⟩,
 ⟨some 231, .move (.tmp 23), some (230, false)⟩,
 ⟨some 232, .binOp .eql 27 (.tmp 231) (.const (.pointer none)) 27, some (230, false)⟩,
 ⟨some 233, .pick (.tmp 230) (.const (.bool true)) (.tmp 232), none⟩,
 ⟨some 234, .move (.tmp 233), none⟩,
 ⟨some 235, .move (.tmp 22), some (234, false)⟩,
 ⟨some 236, .call ⟨.value (.func 15), #[.tmp 235], #[37]⟩, some (234, false)⟩,
 ⟨some 237, .move (.tmp 24), some (234, false)⟩,
 ⟨some 238, .binOp .neq 3 (.tmp 236) (.tmp 237) 3, some (234, false)⟩,
 ⟨some 239, .pick (.tmp 234) (.const (.bool true)) (.tmp 238), none⟩])
 (.cond (.tmp 239)
 (.seq (.ops [⟨some 240, .load 29 (.tmp 2), none⟩,
 ⟨none, .store 29 (.tmp 4) (.tmp 240), none⟩,
 ⟨some 5, .assign (.const (.bool false)), none⟩])
 .ret)
 .skip))
 (.seq (.ops [⟨some 241, .fieldAddr 29 (.tmp 2) 0, none⟩,
 ⟨some 242, .load 25 (.tmp 241), none⟩,
 ⟨some 243, .call ⟨.value (.func 19), #[.tmp 242, .const (.int .i64 0), .const (.int .i64 1)], #[25, 3, 3]⟩, none⟩])
 (.seq (.ops [⟨some 244, .fieldAddr 29 (.tmp 2) 0, none⟩,
 ⟨some 245, .load 25 (.tmp 244), none⟩,
 ⟨some 246, .call ⟨.value (.func 28), #[.tmp 245, .const (.int .i64 0)], #[25, 3]⟩, none⟩])
 (.seq (.ops [⟨some 247, .move (.tmp 21), none⟩,
 ⟨some 248, .move (.tmp 20), none⟩,
 ⟨some 249, .move (.tmp 23), none⟩,
 ⟨some 250, .build 29 #[(0, .tmp 247), (1, .tmp 248), (2, .tmp 249)], none⟩,
 ⟨none, .store 29 (.tmp 4) (.tmp 250), none⟩,
 ⟨some 5, .assign (.const (.bool true)), none⟩])
 .ret)))))))
 .skip))))))))))))))))
 (.seq (.ops [⟨some 251, .load 29 (.tmp 2), none⟩,
 ⟨none, .store 29 (.tmp 4) (.tmp 251), none⟩,
 ⟨some 5, .assign (.const (.bool true)), none⟩])
 .ret)))
theorem ir22_eq : (Try.f22.body.map low, Try.f22.ntmps, Try.f22.results.toList) = (some ir22, 252, [.cell 4 29, .tmp 5]) := by kernel_rfl
noncomputable def rc23 (i : Nat) : Code × Code := (((Try.f23.body.map rangesOf).getD [])[i]?).getD (.skip, .skip)
noncomputable def ir23_a0 : LC := (.seq (.ops [⟨some 4, .assign (.tmp 26), none⟩])
 (.ops [⟨some 5, .assign (.tmp 27), none⟩]))
noncomputable def ir23_b0 : LC := (.block 1 (.draw [⟨some 28, .load 26 (.tmp 3), none⟩,
 ⟨some 29, .nilCheck (.tmp 28), none⟩,
 ⟨some 30, .fieldAddr 88 (.tmp 29) 1, none⟩,
 ⟨some 31, .load 86 (.tmp 30), none⟩,
 ⟨some 32, .move (.tmp 4), none⟩,
 ⟨some 33, .move (.tmp 5), none⟩,
 ⟨some 34, .call ⟨.value (.func 59), #[.tmp 33], #[85]⟩, none⟩,
 ⟨none, .mapUpdate 86 (.tmp 31) (.tmp 32) (.tmp 34), none⟩] [(0, 6), (1, 6), (2, 6), (3, 6), (4, 6)]))
theorem ir23_a0_eq : low (rc23 0).1 = ir23_a0 := by kernel_rfl
theorem ir23_b0_eq : low (rc23 0).2 = ir23_b0 := by kernel_rfl
noncomputable def ir23 : LC := (.seq (.ops [⟨some 2, .assign (.const (.pointer none)), none⟩])
 (.seq (.seq (.ops [⟨some 6, .move (.tmp 0), none⟩,
 ⟨some 7, .call ⟨.value (.func 58), #[.tmp 6], #[26]⟩, none⟩,
 ⟨some 8, .unOp .not 4 (.tmp 7), none⟩])
 (.cond (.tmp 8)
 (.seq (.ops [⟨some 2, .assign (.const (.pointer none)), none⟩])
 .ret)
 .skip))
 (.seq (.draw [⟨some 9, .move (.tmp 0), none⟩,
 ⟨some 10, .nilCheck (.tmp 9), none⟩,
 ⟨some 11, .fieldAddr 88 (.tmp 10) 0, none⟩,
 ⟨some 12, .load 85 (.tmp 11), none⟩,
 ⟨some 13, .call ⟨.value (.func 59), #[.tmp 12], #[85]⟩, none⟩,
 ⟨some 14, .makeMap 86 none, none⟩,
 ⟨some 15, .move (.tmp 0), none⟩,
 ⟨some 16, .nilCheck (.tmp 15), none⟩,
 ⟨some 17, .fieldAddr 88 (.tmp 16) 2, none⟩,
 ⟨some 18, .load 2 (.tmp 17), none⟩,
 ⟨some 19, .build 88 #[(0, .tmp 13), (1, .tmp 14), (2, .tmp 18)], none⟩,
 ⟨some 20, .box 88 (.tmp 19), none⟩,
 ⟨some 3, .alloc 26, none⟩,
 ⟨none, .store 26 (.tmp 3) (.tmp 20), none⟩] [(0, 5), (1, 5), (2, 5), (3, 5), (4, 5), (4, 6), (5, 6), (4, 7), (5, 7), (4, 8), (5, 8), (4, 9), (5, 9), (0, 12), (1, 12), (2, 12), (3, 12), (4, 12), (5, 12), (6, 12), (7, 12), (8, 12), (9, 12), (10, 12), (11, 12)])
 (.seq (.seq (.ops [⟨some 21, .move (.tmp 0), none⟩,
 ⟨some 22, .nilCheck (.tmp 21), none⟩,
 ⟨some 23, .fieldAddr 88 (.tmp 22) 1, none⟩,
 ⟨some 24, .load 86 (.tmp 23), none⟩,
 ⟨some 25, .call ⟨.value (.func 60), #[.tmp 24], #[86]⟩, none⟩])
 (.block 0 (.range (.tmp 25) #[26, 27] (rc23 0).1 (rc23 0).2)))
 (.seq (.ops [⟨some 35, .load 26 (.tmp 3), none⟩,
 ⟨some 2, .assign (.tmp 35), none⟩])
 .ret)))))
theorem ir23_eq : (Try.f23.body.map low, Try.f23.ntmps, Try.f23.results.toList) = (some ir23, 36, [.tmp 2]) := by kernel_rfl
def ir47_l0 : LC := (.seq (.ops [⟨some 25, .binOp .lss 3 (.tmp 24) (.tmp 23) 3, none⟩])
 (.seq (.cond (.tmp 25)
 .skip
 (.exit 0))
 (.seq (.block 1 (.seq (.ops [⟨some 26, .indexAddr 46 (.tmp 22) (.tmp 24), none⟩,
 ⟨some 27, .load 125 (.tmp 26), none⟩,
 ⟨some 12, .alloc 125, none⟩,
 ⟨none, .store 125 (.tmp 12) (.tmp 27), none⟩])
 (.seq (.seq (.draw [⟨some 28, .fieldAddr 125 (.tmp 12) 0, none⟩,
 ⟨some 29, .load 3 (.tmp 28), none⟩,
 ⟨some 30, .binOp .lss 3 (.tmp 29) (.const (.int .i64 0)) 3, none⟩,
 ⟨some 31, .move (.tmp 30), none⟩,
 ⟨some 32, .fieldAddr 125 (.tmp 12) 0, some (31, false)⟩,
 ⟨some 33, .load 3 (.tmp 32), some (31, false)⟩,
 ⟨some 34, .move (.tmp 8), some (31, false)⟩,
 ⟨some 35, .nilCheck (.tmp 34), some (31, false)⟩,
 ⟨some 36, .fieldAddr 57 (.tmp 35) 1, some (31, false)⟩,
 ⟨some 37, .load 3 (.tmp 36), some (31, false)⟩,
 ⟨some 38, .binOp .geq 3 (.tmp 33) (.tmp 37) 3, some (31, false)⟩,
 ⟨some 39, .pick (.tmp 31) (.const (.bool true)) (.tmp 38), none⟩] [])
 (.cond (.tmp 39)
 (.seq (.ops [⟨some 6, .assign (.const (.slice none 0 0)), none⟩,
 ⟨some 7, .assign (.const (.int .i64 2)), none⟩])
 .ret)
 .skip))
 (.seq (.draw [⟨some 40, .fieldAddr 125 (.tmp 12) 0, none⟩,
 ⟨some 41, .load 3 (.tmp 40), none⟩,
 ⟨some 42, .move (.tmp 8), none⟩,
 ⟨some 43, .nilCheck (.tmp 42), none⟩,
 ⟨some 44, .fieldAddr 57 (.tmp 43) 0, none⟩,
 ⟨some 45, .load 3 (.tmp 44), none⟩,
 ⟨some 46, .binOp .add 3 (.tmp 41) (.tmp 45) 3, none⟩,
 ⟨some 47, .fieldAddr 125 (.tmp 12) 0, none⟩,
 ⟨none, .store 3 (.tmp 47) (.tmp 46), none⟩] [])
 (.ops [⟨some 48, .move (.tmp 10), none⟩,
 ⟨some 49, .load 125 (.tmp 12), none⟩,
 ⟨some 50, .buildSlice 46 1 #[(0, .tmp 49)], none⟩,
 ⟨some 51, .call ⟨.builtin .append, #[.tmp 48, .tmp 50], #[46, 46]⟩, none⟩,
 ⟨some 10, .assign (.tmp 51), none⟩])))))
 (.ops [⟨some 52, .binOp .add 3 (.tmp 24) (.const (.int .i64 1)) 3, none⟩,
 ⟨some 24, .move (.tmp 52), none⟩]))))
def ir47 : LC := (.seq (.ops [⟨some 6, .assign (.const (.slice none 0 0)), none⟩,
 ⟨some 7, .assign (.const (.int .i64 0)), none⟩])
 (.seq (.ops [⟨some 14, .move (.tmp 0), none⟩,
 ⟨some 15, .move (.tmp 1), none⟩,
 ⟨some 16, .call ⟨.value (.func 32), #[.tmp 14, .tmp 15], #[25, 3]⟩, none⟩,
 ⟨some 13, .move (.tmp 16), none⟩,
 ⟨some 17, .extract (.tmp 13) 0, none⟩,
 ⟨some 18, .extract (.tmp 13) 1, none⟩,
 ⟨some 8, .assign (.tmp 17), none⟩,
 ⟨some 9, .assign (.tmp 18), none⟩])
 (.seq (.seq (.ops [⟨some 19, .move (.tmp 9), none⟩,
 ⟨some 20, .binOp .neq 37 (.tmp 19) (.const (.int .i64 0)) 37, none⟩])
 (.cond (.tmp 20)
 (.seq (.ops [⟨some 21, .move (.tmp 9), none⟩,
 ⟨some 6, .assign (.const (.slice none 0 0)), none⟩,
 ⟨some 7, .assign (.tmp 21), none⟩])
 .ret)
 .skip))
 (.seq (.ops [⟨some 10, .assign (.const (.slice none 0 0)), none⟩])
 (.seq (.seq (.ops [⟨some 22, .move (.tmp 2), none⟩,
 ⟨some 23, .call ⟨.builtin .len, #[.tmp 22], #[46]⟩, none⟩,
 ⟨some 24, .move (.const (.int .i64 0)), none⟩])
 (.block 0 (.loop ir47_l0)))
 (.seq (.ops [⟨some 53, .move (.tmp 10), none⟩,
 ⟨some 6, .assign (.tmp 53), none⟩,
 ⟨some 7, .assign (.const (.int .i64 0)), none⟩])
 .ret))))))
theorem ir47_eq : (Try.f47.body.map low, Try.f47.ntmps, Try.f47.results.toList) = (some ir47, 54, [.tmp 6, .tmp 7]) := by kernel_rfl
def ir49_l0 : LC := (.seq (.seq (.ops [⟨some 47, .move (.tmp 10), none⟩,
 ⟨some 48, .move (.tmp 8), none⟩,
 ⟨some 49, .move (.tmp 2), none⟩,
 ⟨some 50, .binOp .add 3 (.tmp 48) (.tmp 49) 3, none⟩,
 ⟨some 51, .binOp .lss 3 (.tmp 47) (.tmp 50) 3, none⟩])
 (.cond (.tmp 51)
 .skip
 (.exit 2)))
 (.seq (.block 3 (.ops [⟨some 54, .move (.tmp 9), none⟩,
 ⟨some 55, .move (.tmp 54), none⟩,
 ⟨some 56, .move (.tmp 0), some (55, true)⟩,
 ⟨some 57, .nilCheck (.tmp 56), some (55, true)⟩,
 ⟨some 58, .fieldAddr 68 (.tmp 57) 2, some (55, true)⟩,
 ⟨some 59, .load 66 (.tmp 58), some (55, true)⟩,
 ⟨some 60, .move (.tmp 1), some (55, true)⟩,
 ⟨some 61, .indexAddr 66 (.tmp 59) (.tmp 60), some (55, true)⟩,
 ⟨some 62, .load 64 (.tmp 61), some (55, true)⟩,
 ⟨some 63, .move (.tmp 10), some (55, true)⟩,
 ⟨some 64, .indexAddr 64 (.tmp 62) (.tmp 63), some (55, true)⟩,
 ⟨some 65, .load 4 (.tmp 64), some (55, true)⟩,
 ⟨some 66, .unOp .not 4 (.tmp 65), some (55, true)⟩,
 ⟨some 67, .pick (.tmp 55) (.tmp 66) (.const (.bool false)), none⟩,
 ⟨some 9, .assign (.tmp 67), none⟩]))
 (.ops [⟨some 52, .move (.tmp 10), none⟩,
 ⟨some 53, .binOp .add 3 (.tmp 52) (.const (.int .i64 1)) 3, none⟩,
 ⟨some 10, .assign (.tmp 53), none⟩])))
def ir49_l1 : LC := (.seq (.seq (.ops [⟨some 70, .move (.tmp 11), none⟩,
 ⟨some 71, .move (.tmp 8), none⟩,
 ⟨some 72, .move (.tmp 2), none⟩,
 ⟨some 73, .binOp .add 3 (.tmp 71) (.tmp 72) 3, none⟩,
 ⟨some 74, .binOp .lss 3 (.tmp 70) (.tmp 73) 3, none⟩])
 (.cond (.tmp 74)
 .skip
 (.exit 4)))
 (.seq (.block 5 (.ops [⟨some 77, .move (.tmp 0), none⟩,
 ⟨some 78, .nilCheck (.tmp 77), none⟩,
 ⟨some 79, .fieldAddr 68 (.tmp 78) 2, none⟩,
 ⟨some 80, .load 66 (.tmp 79), none⟩,
 ⟨some 81, .move (.tmp 1), none⟩,
 ⟨some 82, .indexAddr 66 (.tmp 80) (.tmp 81), none⟩,
 ⟨some 83, .load 64 (.tmp 82), none⟩,
 ⟨some 84, .move (.tmp 11), none⟩,
 ⟨some 85, .indexAddr 64 (.tmp 83) (.tmp 84), none⟩,
 ⟨none, .store 4 (.tmp 85) (.const (.bool true)), none⟩]))
 (.ops [⟨some 75, .move (.tmp 11), none⟩,
 ⟨some 76, .binOp .add 3 (.tmp 75) (.const (.int .i64 1)) 3, none⟩,
 ⟨some 11, .assign (.tmp 76), none⟩])))
def ir49_l2 : LC := (.seq (.seq (.ops [⟨some 22, .move (.tmp 8), none⟩,
 ⟨some 23, .move (.tmp 0), none⟩,
 ⟨some 24, .nilCheck (.tmp 23), none⟩,
 ⟨some 25, .fieldAddr 68 (.tmp 24) 1, none⟩,
 ⟨some 26, .load 22 (.tmp 25), none⟩,
 ⟨some 27, .move (.tmp 1), none⟩,
 ⟨some 28, .indexAddr 22 (.tmp 26) (.tmp 27), none⟩,
 ⟨some 29, .load 3 (.tmp 28), none⟩,
 ⟨some 30, .binOp .lss 3 (.tmp 22) (.tmp 29) 3, none⟩,
 ⟨some 31, .move (.tmp 30), none⟩,
 ⟨some 32, .move (.tmp 2), some (31, true)⟩,
 ⟨some 33, .move (.tmp 0), some (31, true)⟩,
 ⟨some 34, .nilCheck (.tmp 33), some (31, true)⟩,
 ⟨some 35, .fieldAddr 68 (.tmp 34) 1, some (31, true)⟩,
 ⟨some 36, .load 22 (.tmp 35), some (31, true)⟩,
 ⟨some 37, .move (.tmp 1), some (31, true)⟩,
 ⟨some 38, .indexAddr 22 (.tmp 36) (.tmp 37), some (31, true)⟩,
 ⟨some 39, .load 3 (.tmp 38), some (31, true)⟩,
 ⟨some 40, .move (.tmp 8), some (31, true)⟩,
 ⟨some 41, .binOp .sub 3 (.tmp 39) (.tmp 40) 3, some (31, true)⟩,
 ⟨some 42, .binOp .leq 3 (.tmp 32) (.tmp 41) 3, some (31, true)⟩,
 ⟨some 43, .pick (.tmp 31) (.tmp 42) (.const (.bool false)), none⟩])
 (.cond (.tmp 43)
 .skip
 (.exit 0)))
 (.seq (.block 1 (.seq (.ops [⟨some 9, .assign (.const (.bool true)), none⟩])
 (.seq (.seq (.ops [⟨some 46, .move (.tmp 8), none⟩,
 ⟨some 10, .assign (.tmp 46), none⟩])
 (.block 2 (.loop ir49_l0)))
 (.seq (.ops [⟨some 68, .move (.tmp 9), none⟩])
 (.cond (.tmp 68)
 (.seq (.seq (.ops [⟨some 69, .move (.tmp 8), none⟩,
 ⟨some 11, .assign (.tmp 69), none⟩])
 (.block 4 (.loop ir49_l1)))
 (.seq (.ops [⟨some 86, .move (.tmp 8), none⟩,
 ⟨some 6, .assign (.tmp 86), none⟩,
 ⟨some 7, .assign (.const (.int .i64 0)), none⟩])
 .ret))
 .skip)))))
 (.ops [⟨some 44, .move (.tmp 8), none⟩,
 ⟨some 45, .binOp .add 3 (.tmp 44) (.const (.int .i64 1)) 3, none⟩,
 ⟨some 8, .assign (.tmp 45), none⟩])))
def ir49 : LC := (.seq (.ops [⟨some 6, .assign (.const (.int .i64 0)), none⟩,
 ⟨some 7, .assign (.const (.int .i64 0)), none⟩])
 (.seq (.seq (.ops [⟨some 12, .move (.tmp 0), none⟩,
 ⟨some 13, .binOp .eql 27 (.tmp 12) (.const (.pointer none)) 27, none⟩])
 (.cond (.tmp 13)
 (.seq (.ops [⟨some 6, .assign (.const (.int .i64 0)), none⟩,
 ⟨some 7, .assign (.const (.int .i64 1)), none⟩])
 .ret)
 .skip))
 (.seq (.seq (.ops [⟨some 14, .move (.tmp 0), none⟩,
 ⟨some 15, .move (.tmp 1), none⟩,
 ⟨some 16, .call ⟨.value (.func 65), #[.tmp 14, .tmp 15], #[27, 3]⟩, none⟩,
 ⟨some 17, .unOp .not 4 (.tmp 16), none⟩,
 ⟨some 18, .move (.tmp 17), none⟩,
 ⟨some 19, .move (.tmp 2), some (18, false)⟩,
 ⟨some 20, .binOp .lss 3 (.tmp 19) (.const (.int .i64 1)) 3, some (18, false)⟩,
 ⟨some 21, .pick (.tmp 18) (.const (.bool true)) (.tmp 20), none⟩])
 (.cond (.tmp 21)
 (.seq (.ops [⟨some 6, .assign (.const (.int .i64 0)), none⟩,
 ⟨some 7, .assign (.const (.int .i64 2)), none⟩])
 .ret)
 .skip))
 (.seq (.seq (.ops [⟨some 8, .assign (.const (.int .i64 0)), none⟩])
 (.block 0 (.loop ir49_l2)))
 (.seq (.ops [⟨some 6, .assign (.const (.int .i64 0)), none⟩,
 ⟨some 7, .assign (.const (.int .i64 5)), none⟩])
 .ret)))))
theorem ir49_eq : (Try.f49.body.map low, Try.f49.ntmps, Try.f49.results.toList) = (some ir49, 87, [.tmp 6, .tmp 7]) := by kernel_rfl
def ir50_l0 : LC := (.seq (.seq (.ops [⟨some 48, .move (.tmp 9), none⟩,
 ⟨some 49, .move (.tmp 2), none⟩,
 ⟨some 50, .move (.tmp 3), none⟩,
 ⟨some 51, .binOp .add 3 (.tmp 49) (.tmp 50) 3, none⟩,
 ⟨some 52, .binOp .lss 3 (.tmp 48) (.tmp 51) 3, none⟩])
 (.cond (.tmp 52)
 .skip
 (.exit 0)))
 (.seq (.block 1 (.seq (.ops [⟨some 55, .move (.tmp 0), none⟩,
 ⟨some 56, .nilCheck (.tmp 55), none⟩,
 ⟨some 57, .fieldAddr 68 (.tmp 56) 2, none⟩,
 ⟨some 58, .load 66 (.tmp 57), none⟩,
 ⟨some 59, .move (.tmp 1), none⟩,
 ⟨some 60, .indexAddr 66 (.tmp 58) (.tmp 59), none⟩,
 ⟨some 61, .load 64 (.tmp 60), none⟩,
 ⟨some 62, .move (.tmp 9), none⟩,
 ⟨some 63, .indexAddr 64 (.tmp 61) (.tmp 62), none⟩,
 ⟨some 64, .load 4 (.tmp 63), none⟩,
 ⟨some 65, .unOp .not 4 (.tmp 64), none⟩])
 (.cond (.tmp 65)
 (.seq (.ops [⟨some 8, .assign (.const (.int .i64 6)), none⟩])
 .ret)
 .skip)))
 (.ops [⟨some 53, .move (.tmp 9), none⟩,
 ⟨some 54, .binOp .add 3 (.tmp 53) (.const (.int .i64 1)) 3, none⟩,
 ⟨some 9, .assign (.tmp 54), none⟩])))
def ir50_l1 : LC := (.seq (.seq (.ops [⟨some 67, .move (.tmp 10), none⟩,
 ⟨some 68, .move (.tmp 2), none⟩,
 ⟨some 69, .move (.tmp 3), none⟩,
 ⟨some 70, .binOp .add 3 (.tmp 68) (.tmp 69) 3, none⟩,
 ⟨some 71, .binOp .lss 3 (.tmp 67) (.tmp 70) 3, none⟩])
 (.cond (.tmp 71)
 .skip
 (.exit 2)))
 (.seq (.block 3 (.ops [⟨some 74, .move (.tmp 0), none⟩,
 ⟨some 75, .nilCheck (.tmp 74), none⟩,
 ⟨some 76, .fieldAddr 68 (.tmp 75) 2, none⟩,
 ⟨some 77, .load 66 (.tmp 76), none⟩,
 ⟨some 78, .move (.tmp 1), none⟩,
 ⟨some 79, .indexAddr 66 (.tmp 77) (.tmp 78), none⟩,
 ⟨some 80, .load 64 (.tmp 79), none⟩,
 ⟨some 81, .move (.tmp 10), none⟩,
 ⟨some 82, .indexAddr 64 (.tmp 80) (.tmp 81), none⟩,
 ⟨none, .store 4 (.tmp 82) (.const (.bool false)), none⟩]))
 (.ops [⟨some 72, .move (.tmp 10), none⟩,
 ⟨some 73, .binOp .add 3 (.tmp 72) (.const (.int .i64 1)) 3, none⟩,
 ⟨some 10, .assign (.tmp 73), none⟩])))
def ir50 : LC := (.seq (.ops [⟨some 8, .assign (.const (.int .i64 0)), none⟩])
 (.seq (.seq (.ops [⟨some 11, .move (.tmp 0), none⟩,
 ⟨some 12, .binOp .eql 27 (.tmp 11) (.const (.pointer none)) 27, none⟩])
 (.cond (.tmp 12)
 (.seq (.ops [⟨some 8, .assign (.const (.int .i64 1)), none⟩])
 .ret)
 .skip))
 (.seq (.seq (.ops [⟨some 13, .move (.tmp 0), none⟩,
 ⟨some 14, .move (.tmp 1), none⟩,
 ⟨some 15, .call ⟨.value (.func 65), #[.tmp 13, .tmp 14], #[27, 3]⟩, none⟩,
 ⟨some 16, .unOp .not 4 (.tmp 15), none⟩,
 ⟨some 17, .move (.tmp 16), none⟩,
 ⟨some 18, .move (.tmp 3), some (17, false)⟩,
 ⟨some 19, .binOp .lss 3 (.tmp 18) (.const (.int .i64 1)) 3, some (17, false)⟩,
 ⟨some 20, .pick (.tmp 17) (.const (.bool true)) (.tmp 19), none⟩,
 ⟨some 21, .move (.tmp 20), none⟩,
 ⟨some 22, .move (.tmp 2), some (21, false)⟩,
 ⟨some 23, .binOp .lss 3 (.tmp 22) (.const (.int .i64 0)) 3, some (21, false)⟩,
 ⟨some 24, .pick (.tmp 21) (.const (.bool true)) (.tmp 23), none⟩])
 (.cond (.tmp 24)
 (.seq (.ops [⟨some 8, .assign (.const (.int .i64 2)), none⟩])
 .ret)
 .skip))
 (.seq (.seq (.ops [⟨some 25, .move (.tmp 2), none⟩,
 ⟨some 26, .move (.tmp 0), none⟩,
 ⟨some 27, .nilCheck (.tmp 26), none⟩,
 ⟨some 28, .fieldAddr 68 (.tmp 27) 1, none⟩,
 ⟨some 29, .load 22 (.tmp 28), none⟩,
 ⟨some 30, .move (.tmp 1), none⟩,
 ⟨some 31, .indexAddr 22 (.tmp 29) (.tmp 30), none⟩,
 ⟨some 32, .load 3 (.tmp 31), none⟩,
 ⟨some 33, .binOp .gtr 3 (.tmp 25) (.tmp 32) 3, none⟩,
 ⟨some 34, .move (.tmp 33), none⟩,
 ⟨some 35, .move (.tmp 3), some (34, false)⟩,
 ⟨some 36, .move (.tmp 0), some (34, false)⟩,
 ⟨some 37, .nilCheck (.tmp 36), some (34, false)⟩,
 ⟨some 38, .fieldAddr 68 (.tmp 37) 1, some (34, false)⟩,
 ⟨some 39, .load 22 (.tmp 38), some (34, false)⟩,
 ⟨some 40, .move (.tmp 1), some (34, false)⟩,
 ⟨some 41, .indexAddr 22 (.tmp 39) (.tmp 40), some (34, false)⟩,
 ⟨some 42, .load 3 (.tmp 41), some (34, false)⟩,
 ⟨some 43, .move (.tmp 2), some (34, false)⟩,
 ⟨some 44, .binOp .sub 3 (.tmp 42) (.tmp 43) 3, some (34, false)⟩,
 ⟨some 45, .binOp .gtr 3 (.tmp 35) (.tmp 44) 3, some (34, false)⟩,
 ⟨some 46, .pick (.tmp 34) (.const (.bool true)) (.tmp 45), none⟩])
 (.cond (.tmp 46)
 (.seq (.ops [⟨some 8, .assign (.const (.int .i64 6)), none⟩])
 .ret)
 .skip))
 (.seq (.seq (.ops [⟨some 47, .move (.tmp 2), none⟩,
 ⟨some 9, .assign (.tmp 47), none⟩])
 (.block 0 (.loop ir50_l0)))
 (.seq (.seq (.ops [⟨some 66, .move (.tmp 2), none⟩,
 ⟨some 10, .assign (.tmp 66), none⟩])
 (.block 2 (.loop ir50_l1)))
 (.seq (.ops [⟨some 8, .assign (.const (.int .i64 0)), none⟩])
 .ret)))))))
theorem ir50_eq : (Try.f50.body.map low, Try.f50.ntmps, Try.f50.results.toList) = (some ir50, 83, [.tmp 8]) := by kernel_rfl
def ir51 : LC := (.seq (.ops [⟨some 8, .assign (.const (.int .i64 0)), none⟩])
 (.seq (.seq (.ops [⟨some 13, .move (.tmp 0), none⟩,
 ⟨some 14, .move (.tmp 1), none⟩,
 ⟨some 15, .move (.tmp 2), none⟩,
 ⟨some 16, .call ⟨.value (.func 69), #[.tmp 13, .tmp 14, .tmp 15], #[27, 3, 3]⟩, none⟩,
 ⟨some 9, .assign (.tmp 16), none⟩])
 (.seq (.ops [⟨some 17, .move (.tmp 9), none⟩,
 ⟨some 18, .binOp .neq 3 (.tmp 17) (.const (.int .i64 0)) 3, none⟩])
 (.cond (.tmp 18)
 (.seq (.ops [⟨some 19, .move (.tmp 9), none⟩,
 ⟨some 8, .assign (.tmp 19), none⟩])
 .ret)
 .skip)))
 (.seq (.ops [⟨some 21, .move (.tmp 0), none⟩,
 ⟨some 22, .move (.tmp 1), none⟩,
 ⟨some 23, .call ⟨.value (.func 33), #[.tmp 21, .tmp 22], #[27, 3]⟩, none⟩,
 ⟨some 20, .move (.tmp 23), none⟩,
 ⟨some 24, .extract (.tmp 20) 0, none⟩,
 ⟨some 25, .extract (.tmp 20) 1, none⟩,
 ⟨some 26, .extract (.tmp 20) 2, none⟩,
 ⟨some 10, .assign (.tmp 24), none⟩,
 ⟨some 11, .assign (.tmp 25), none⟩,
 ⟨some 12, .assign (.tmp 26), none⟩])
 (.seq (.ops [⟨some 27, .move (.tmp 0), none⟩,
 ⟨some 28, .nilCheck (.tmp 27), none⟩,
 ⟨some 29, .fieldAddr 68 (.tmp 28) 0, none⟩,
 ⟨some 30, .load 65 (.tmp 29), none⟩,
 ⟨some 31, .move (.tmp 10), none⟩,
 ⟨some 32, .move (.tmp 2), none⟩,
 ⟨some 33, .binOp .add 3 (.tmp 31) (.tmp 32) 3, none⟩,
 ⟨some 34, .move (.tmp 3), none⟩,
 ⟨some 35, .call ⟨.value (.func 70), #[.tmp 30, .tmp 33, .tmp 34], #[65, 3, 45]⟩, none⟩,
 ⟨some 8, .assign (.tmp 35), none⟩])
 .ret))))
theorem ir51_eq : (Try.f51.body.map low, Try.f51.ntmps, Try.f51.results.toList) = (some ir51, 36, [.tmp 8]) := by kernel_rfl
def ir52 : LC := (.seq (.ops [⟨some 4, .assign (.const (.int .i64 0)), none⟩])
 (.seq (.seq (.ops [⟨some 8, .move (.tmp 0), none⟩,
 ⟨some 9, .binOp .eql 27 (.tmp 8) (.const (.pointer none)) 27, none⟩])
 (.cond (.tmp 9)
 (.seq (.ops [⟨some 4, .assign (.const (.int .i64 1)), none⟩])
 .ret)
 .skip))
 (.seq (.seq (.ops [⟨some 10, .move (.tmp 0), none⟩,
 ⟨some 11, .move (.tmp 1), none⟩,
 ⟨some 12, .call ⟨.value (.func 65), #[.tmp 10, .tmp 11], #[27, 3]⟩, none⟩,
 ⟨some 13, .unOp .not 4 (.tmp 12), none⟩])
 (.cond (.tmp 13)
 (.seq (.ops [⟨some 4, .assign (.const (.int .i64 2)), none⟩])
 .ret)
 .skip))
 (.seq (.ops [⟨some 15, .move (.tmp 0), none⟩,
 ⟨some 16, .move (.tmp 1), none⟩,
 ⟨some 17, .call ⟨.value (.func 33), #[.tmp 15, .tmp 16], #[27, 3]⟩, none⟩,
 ⟨some 14, .move (.tmp 17), none⟩,
 ⟨some 18, .extract (.tmp 14) 0, none⟩,
 ⟨some 19, .extract (.tmp 14) 1, none⟩,
 ⟨some 20, .extract (.tmp 14) 2, none⟩,
 ⟨some 5, .assign (.tmp 18), none⟩,
 ⟨some 6, .assign (.tmp 19), none⟩,
 ⟨some 7, .assign (.tmp 20), none⟩])
 (.seq (.ops [⟨some 21, .move (.tmp 0), none⟩,
 ⟨some 22, .nilCheck (.tmp 21), none⟩,
 ⟨some 23, .fieldAddr 68 (.tmp 22) 0, none⟩,
 ⟨some 24, .load 65 (.tmp 23), none⟩,
 ⟨some 25, .move (.tmp 5), none⟩,
 ⟨some 26, .move (.tmp 6), none⟩,
 ⟨some 27, .call ⟨.value (.func 71), #[.tmp 24, .tmp 25, .tmp 26], #[65, 3, 3]⟩, none⟩,
 ⟨some 4, .assign (.tmp 27), none⟩])
 .ret)))))
theorem ir52_eq : (Try.f52.body.map low, Try.f52.ntmps, Try.f52.results.toList) = (some ir52, 28, [.tmp 4]) := by kernel_rfl
def ir53 : LC := (.seq (.ops [⟨some 6, .assign (.const (.slice none 0 0)), none⟩,
 ⟨some 7, .assign (.const (.int .i64 0)), none⟩])
 (.seq (.seq (.ops [⟨some 12, .move (.tmp 0), none⟩,
 ⟨some 13, .move (.tmp 1), none⟩,
 ⟨some 14, .move (.tmp 2), none⟩,
 ⟨some 15, .call ⟨.value (.func 69), #[.tmp 12, .tmp 13, .tmp 14], #[27, 3, 3]⟩, none⟩,
 ⟨some 8, .assign (.tmp 15), none⟩])
 (.seq (.ops [⟨some 16, .move (.tmp 8), none⟩,
 ⟨some 17, .binOp .neq 3 (.tmp 16) (.const (.int .i64 0)) 3, none⟩])
 (.cond (.tmp 17)
 (.seq (.ops [⟨some 18, .move (.tmp 8), none⟩,
 ⟨some 6, .assign (.const (.slice none 0 0)), none⟩,
 ⟨some 7, .assign (.tmp 18), none⟩])
 .ret)
 .skip)))
 (.seq (.ops [⟨some 20, .move (.tmp 0), none⟩,
 ⟨some 21, .move (.tmp 1), none⟩,
 ⟨some 22, .call ⟨.value (.func 33), #[.tmp 20, .tmp 21], #[27, 3]⟩, none⟩,
 ⟨some 19, .move (.tmp 22), none⟩,
 ⟨some 23, .extract (.tmp 19) 0, none⟩,
 ⟨some 24, .extract (.tmp 19) 1, none⟩,
 ⟨some 25, .extract (.tmp 19) 2, none⟩,
 ⟨some 9, .assign (.tmp 23), none⟩,
 ⟨some 10, .assign (.tmp 24), none⟩,
 ⟨some 11, .assign (.tmp 25), none⟩])
 (.seq (.ops [⟨some 26, .move (.tmp 0), none⟩,
 ⟨some 27, .nilCheck (.tmp 26), none⟩,
 ⟨some 28, .fieldAddr 68 (.tmp 27) 0, none⟩,
 ⟨some 29, .load 65 (.tmp 28), none⟩,
 ⟨some 30, .move (.tmp 9), none⟩,
 ⟨some 31, .move (.tmp 2), none⟩,
 ⟨some 32, .binOp .add 3 (.tmp 30) (.tmp 31) 3, none⟩,
 ⟨some 33, .call ⟨.value (.func 72), #[.tmp 29, .tmp 32], #[65, 3]⟩, none⟩,
 ⟨some 34, .extract (.tmp 33) 0, none⟩,
 ⟨some 35, .extract (.tmp 33) 1, none⟩,
 ⟨some 6, .assign (.tmp 34), none⟩,
 ⟨some 7, .assign (.tmp 35), none⟩])
 .ret))))
theorem ir53_eq : (Try.f53.body.map low, Try.f53.ntmps, Try.f53.results.toList) = (some ir53, 36, [.tmp 6, .tmp 7]) := by kernel_rfl
def ir54_l0 : LC := (.seq (.seq (.ops [⟨some 26, .move (.tmp 12), none⟩,
 ⟨some 27, .move (.tmp 2), none⟩,
 ⟨some 28, .call ⟨.builtin .len, #[.tmp 27], #[46]⟩, none⟩,
 ⟨some 29, .binOp .lss 3 (.tmp 26) (.tmp 28) 3, none⟩])
 (.cond (.tmp 29)
 .skip
 (.exit 0)))
 (.seq (.block 1 (.seq (.seq (.ops [⟨some 32, .move (.tmp 2), none⟩,
 ⟨some 33, .move (.tmp 12), none⟩,
 ⟨some 34, .indexAddr 46 (.tmp 32) (.tmp 33), none⟩,
 ⟨some 35, .fieldAddr 125 (.tmp 34) 0, none⟩,
 ⟨some 36, .load 3 (.tmp 35), none⟩,
 ⟨some 37, .binOp .lss 3 (.tmp 36) (.const (.int .i64 0)) 3, none⟩,
 ⟨some 38, .move (.tmp 37), none⟩,
 ⟨some 39, .move (.tmp 2), some (38, false)⟩,
 ⟨some 40, .move (.tmp 12), some (38, false)⟩,
 ⟨some 41, .indexAddr 46 (.tmp 39) (.tmp 40), some (38, false)⟩,
 ⟨some 42, .fieldAddr 125 (.tmp 41) 0, some (38, false)⟩,
 ⟨some 43, .load 3 (.tmp 42), some (38, false)⟩,
 ⟨some 44, .move (.tmp 9), some (38, false)⟩,
 ⟨some 45, .binOp .geq 3 (.tmp 43) (.tmp 44) 3, some (38, false)⟩,
 ⟨some 46, .pick (.tmp 38) (.const (.bool true)) (.tmp 45), none⟩])
 (.cond (.tmp 46)
 (.seq (.ops [⟨some 6, .assign (.const (.slice none 0 0)), none⟩,
 ⟨some 7, .assign (.const (.int .i64 2)), none⟩])
 .ret)
 .skip))
 (.draw [⟨some 47, .move (.tmp 11), none⟩,
 ⟨some 48, .move (.tmp 8), none⟩,
 ⟨some 49, .move (.tmp 2), none⟩,
 ⟨some 50, .move (.tmp 12), none⟩,
 ⟨some 51, .indexAddr 46 (.tmp 49) (.tmp 50), none⟩,
 ⟨some 52, .fieldAddr 125 (.tmp 51) 0, none⟩,
 ⟨some 53, .load 3 (.tmp 52), none⟩,
 ⟨some 54, .binOp .add 3 (.tmp 48) (.tmp 53) 3, none⟩,
 ⟨some 55, .move (.tmp 2), none⟩,
 ⟨some 56, .move (.tmp 12), none⟩,
 ⟨some 57, .indexAddr 46 (.tmp 55) (.tmp 56), none⟩,
 ⟨some 58, .fieldAddr 125 (.tmp 57) 1, none⟩,
 ⟨some 59, .load 3 (.tmp 58), none⟩,
 ⟨some 60, .build 125 #[(0, .tmp 54), (1, .tmp 59)], none⟩,
 ⟨some 61, .buildSlice 46 1 #[(0, .tmp 60)], none⟩,
 ⟨some 62, .call ⟨.builtin .append, #[.tmp 47, .tmp 61], #[46, 46]⟩, none⟩,
 ⟨some 11, .assign (.tmp 62), none⟩] [(0, 14)])))
 (.ops [⟨some 30, .move (.tmp 12), none⟩,
 ⟨some 31, .binOp .add 3 (.tmp 30) (.const (.int .i64 1)) 3, none⟩,
 ⟨some 12, .assign (.tmp 31), none⟩])))
def ir54 : LC := (.seq (.ops [⟨some 6, .assign (.const (.slice none 0 0)), none⟩,
 ⟨some 7, .assign (.const (.int .i64 0)), none⟩])
 (.seq (.seq (.ops [⟨some 13, .move (.tmp 0), none⟩,
 ⟨some 14, .binOp .eql 27 (.tmp 13) (.const (.pointer none)) 27, none⟩])
 (.cond (.tmp 14)
 (.seq (.ops [⟨some 6, .assign (.const (.slice none 0 0)), none⟩,
 ⟨some 7, .assign (.const (.int .i64 1)), none⟩])
 .ret)
 .skip))
 (.seq (.seq (.ops [⟨some 15, .move (.tmp 0), none⟩,
 ⟨some 16, .move (.tmp 1), none⟩,
 ⟨some 17, .call ⟨.value (.func 65), #[.tmp 15, .tmp 16], #[27, 3]⟩, none⟩,
 ⟨some 18, .unOp .not 4 (.tmp 17), none⟩])
 (.cond (.tmp 18)
 (.seq (.ops [⟨some 6, .assign (.const (.slice none 0 0)), none⟩,
 ⟨some 7, .assign (.const (.int .i64 2)), none⟩])
 .ret)
 .skip))
 (.seq (.ops [⟨some 20, .move (.tmp 0), none⟩,
 ⟨some 21, .move (.tmp 1), none⟩,
 ⟨some 22, .call ⟨.value (.func 33), #[.tmp 20, .tmp 21], #[27, 3]⟩, none⟩,
 ⟨some 19, .move (.tmp 22), none⟩,
 ⟨some 23, .extract (.tmp 19) 0, none⟩,
 ⟨some 24, .extract (.tmp 19) 1, none⟩,
 ⟨some 25, .extract (.tmp 19) 2, none⟩,
 ⟨some 8, .assign (.tmp 23), none⟩,
 ⟨some 9, .assign (.tmp 24), none⟩,
 ⟨some 10, .assign (.tmp 25), none⟩])
 (.seq (.ops [⟨some 11, .assign (.const (.slice none 0 0)), none⟩])
 (.seq (.seq (.ops [⟨some 12, .assign (.const (.int .i64 0)), none⟩])
 (.block 0 (.loop ir54_l0)))
 (.seq (.ops [⟨some 63, .move (.tmp 11), none⟩,
 ⟨some 6, .assign (.tmp 63), none⟩,
 ⟨some 7, .assign (.const (.int .i64 0)), none⟩])
 .ret)))))))
theorem ir54_eq : (Try.f54.body.map low, Try.f54.ntmps, Try.f54.results.toList) = (some ir54, 64, [.tmp 6, .tmp 7]) := by kernel_rfl
def ir55_l0 : LC := (.seq (.seq (.ops [⟨some 11, .move (.tmp 5), none⟩,
 ⟨some 12, .move (.tmp 0), none⟩,
 ⟨some 13, .call ⟨.builtin .len, #[.tmp 12], #[46]⟩, none⟩,
 ⟨some 14, .binOp .lss 3 (.tmp 11) (.tmp 13) 3, none⟩])
 (.cond (.tmp 14)
 .skip
 (.exit 0)))
 (.seq (.block 1 (.seq (.draw [⟨some 17, .move (.tmp 0), none⟩,
 ⟨some 18, .move (.tmp 5), none⟩,
 ⟨some 19, .indexAddr 46 (.tmp 17) (.tmp 18), none⟩,
 ⟨some 20, .load 125 (.tmp 19), none⟩,
 ⟨some 21, .move (.tmp 1), none⟩,
 ⟨some 22, .move (.tmp 5), none⟩,
 ⟨some 23, .indexAddr 46 (.tmp 21) (.tmp 22), none⟩,
 ⟨some 24, .load 125 (.tmp 23), none⟩,
 ⟨some 25, .binOp .neq 125 (.tmp 20) (.tmp 24) 125, none⟩] [])
 (.cond (.tmp 25)
 (.seq (.ops [⟨some 4, .assign (.const (.bool false)), none⟩])
 .ret)
 .skip)))
 (.ops [⟨some 15, .move (.tmp 5), none⟩,
 ⟨some 16, .binOp .add 3 (.tmp 15) (.const (.int .i64 1)) 3, none⟩,
 ⟨some 5, .assign (.tmp 16), none⟩])))
def ir55 : LC := (.seq (.ops [⟨some 4, .assign (.const (.bool false)), none⟩])
 (.seq (.seq (.ops [⟨some 6, .move (.tmp 0), none⟩,
 ⟨some 7, .call ⟨.builtin .len, #[.tmp 6], #[46]⟩, none⟩,
 ⟨some 8, .move (.tmp 1), none⟩,
 ⟨some 9, .call ⟨.builtin .len, #[.tmp 8], #[46]⟩, none⟩,
 ⟨some 10, .binOp .neq 3 (.tmp 7) (.tmp 9) 3, none⟩])
 (.cond (.tmp 10)
 (.seq (.ops [⟨some 4, .assign (.const (.bool false)), none⟩])
 .ret)
 .skip))
 (.seq (.seq (.ops [⟨some 5, .assign (.const (.int .i64 0)), none⟩])
 (.block 0 (.loop ir55_l0)))
 (.seq (.ops [⟨some 4, .assign (.const (.bool true)), none⟩])
 .ret))))
theorem ir55_eq : (Try.f55.body.map low, Try.f55.ntmps, Try.f55.results.toList) = (some ir55, 26, [.tmp 4]) := by kernel_rfl
def ir56_l0 : LC := (.seq (.seq (.ops [⟨some 36, .move (.tmp 7), none⟩,
 ⟨some 37, .move (.tmp 0), none⟩,
 ⟨some 38, .nilCheck (.tmp 37), none⟩,
 ⟨some 39, .fieldAddr 68 (.tmp 38) 2, none⟩,
 ⟨some 40, .load 66 (.tmp 39), none⟩,
 ⟨some 41, .call ⟨.builtin .len, #[.tmp 40], #[66]⟩, none⟩,
 ⟨some 42, .binOp .lss 3 (.tmp 36) (.tmp 41) 3, none⟩])
 (.cond (.tmp 42)
 .skip
 (.exit 0)))
 (.seq (.block 1 (.draw [⟨some 45, .move (.tmp 6), none⟩,
 ⟨some 46, .move (.tmp 6), none⟩,
 ⟨some 47, .nilCheck (.tmp 46), none⟩,
 ⟨some 48, .fieldAddr 68 (.tmp 47) 2, none⟩,
 ⟨some 49, .load 66 (.tmp 48), none⟩,
 ⟨some 50, .move (.tmp 0), none⟩,
 ⟨some 51, .nilCheck (.tmp 50), none⟩,
 ⟨some 52, .fieldAddr 68 (.tmp 51) 2, none⟩,
 ⟨some 53, .load 66 (.tmp 52), none⟩,
 ⟨some 54, .move (.tmp 7), none⟩,
 ⟨some 55, .indexAddr 66 (.tmp 53) (.tmp 54), none⟩,
 ⟨some 56, .load 64 (.tmp 55), none⟩,
 ⟨some 57, .call ⟨.builtin .append, #[.const (.slice none 0 0), .tmp 56], #[64, 64]⟩, none⟩,
 ⟨some 58, .buildSlice 66 1 #[(0, .tmp 57)], none⟩,
 ⟨some 59, .call ⟨.builtin .append, #[.tmp 49, .tmp 58], #[66, 66]⟩, none⟩,
 ⟨some 60, .nilCheck (.tmp 45), none⟩,
 ⟨some 61, .fieldAddr 68 (.tmp 60) 2, none⟩,
 ⟨none, .store 66 (.tmp 61) (.tmp 59), none⟩] [(0, 12), (1, 12), (2, 12), (3, 12), (4, 12), (0, 13), (1, 13), (2, 13), (3, 13), (4, 13), (0, 14)]))
 (.ops [⟨some 43, .move (.tmp 7), none⟩,
 ⟨some 44, .binOp .add 3 (.tmp 43) (.const (.int .i64 1)) 3, none⟩,
 ⟨some 7, .assign (.tmp 44), none⟩])))
def ir56 : LC := (.seq (.ops [⟨some 4, .assign (.const (.pointer none)), none⟩,
 ⟨some 5, .assign (.const (.int .i64 0)), none⟩])
 (.seq (.seq (.ops [⟨some 8, .move (.tmp 0), none⟩,
 ⟨some 9, .binOp .eql 27 (.tmp 8) (.const (.pointer none)) 27, none⟩,
 ⟨some 10, .move (.tmp 9), none⟩,
 ⟨some 11, .move (.tmp 1), some (10, false)⟩,
 ⟨some 12, .binOp .eql 65 (.tmp 11) (.const (.pointer none)) 65, some (10, false)⟩,
 ⟨some 13, .pick (.tmp 10) (.const (.bool true)) (.tmp 12), none⟩])
 (.cond (.tmp 13)
 (.seq (.ops [⟨some 4, .assign (.const (.pointer none)), none⟩,
 ⟨some 5, .assign (.const (.int .i64 1)), none⟩])
 .ret)
 .skip))
 (.seq (.seq (.draw [⟨some 14, .move (.tmp 1), none⟩,
 ⟨some 15, .nilCheck (.tmp 14), none⟩,
 ⟨some 16, .fieldAddr 83 (.tmp 15) 0, none⟩,
 ⟨some 17, .load 80 (.tmp 16), none⟩,
 ⟨some 18, .call ⟨.builtin .len, #[.tmp 17], #[80]⟩, none⟩,
 ⟨some 19, .move (.tmp 0), none⟩,
 ⟨some 20, .nilCheck (.tmp 19), none⟩,
 ⟨some 21, .fieldAddr 68 (.tmp 20) 0, none⟩,
 ⟨some 22, .load 65 (.tmp 21), none⟩,
 ⟨some 23, .nilCheck (.tmp 22), none⟩,
 ⟨some 24, .fieldAddr 83 (.tmp 23) 0, none⟩,
 ⟨some 25, .load 80 (.tmp 24), none⟩,
 ⟨some 26, .call ⟨.builtin .len, #[.tmp 25], #[80]⟩, none⟩,
 ⟨some 27, .binOp .neq 3 (.tmp 18) (.tmp 26) 3, none⟩] [])
 (.cond (.tmp 27)
 (.seq (.ops [⟨some 4, .assign (.const (.pointer none)), none⟩,
 ⟨some 5, .assign (.const (.int .i64 2)), none⟩])
 .ret)
 .skip))
 (.seq (.ops [⟨some 28, .move (.tmp 1), none⟩,
 ⟨some 29, .move (.tmp 0), none⟩,
 ⟨some 30, .nilCheck (.tmp 29), none⟩,
 ⟨some 31, .fieldAddr 68 (.tmp 30) 1, none⟩,
 ⟨some 32, .load 22 (.tmp 31), none⟩,
 ⟨some 33, .call ⟨.builtin .append, #[.const (.slice none 0 0), .tmp 32], #[22, 22]⟩, none⟩,
 ⟨some 34, .build 68 #[(0, .tmp 28), (1, .tmp 33)], none⟩,
 ⟨some 35, .box 68 (.tmp 34), none⟩,
 ⟨some 6, .assign (.tmp 35), none⟩])
 (.seq (.seq (.ops [⟨some 7, .assign (.const (.int .i64 0)), none⟩])
 (.block 0 (.loop ir56_l0)))
 (.seq (.ops [⟨some 62, .move (.tmp 6), none⟩,
 ⟨some 4, .assign (.tmp 62), none⟩,
 ⟨some 5, .assign (.const (.int .i64 0)), none⟩])
 .ret))))))
theorem ir56_eq : (Try.f56.body.map low, Try.f56.ntmps, Try.f56.results.toList) = (some ir56, 63, [.tmp 4, .tmp 5]) := by kernel_rfl
def ir57 : LC := (.seq (.ops [⟨some 2, .assign (.const (.pointer none)), none⟩])
 (.seq (.seq (.ops [⟨some 3, .move (.tmp 0), none⟩,
 ⟨some 4, .binOp .eql 65 (.tmp 3) (.const (.pointer none)) 65, none⟩])
 (.cond (.tmp 4)
 (.seq (.ops [⟨some 2, .assign (.const (.pointer none)), none⟩])
 .ret)
 .skip))
 (.seq (.draw [⟨some 5, .move (.tmp 0), none⟩,
 ⟨some 6, .nilCheck (.tmp 5), none⟩,
 ⟨some 7, .fieldAddr 83 (.tmp 6) 0, none⟩,
 ⟨some 8, .load 80 (.tmp 7), none⟩,
 ⟨some 9, .call ⟨.builtin .append, #[.const (.slice none 0 0), .tmp 8], #[80, 80]⟩, none⟩,
 ⟨some 10, .move (.tmp 0), none⟩,
 ⟨some 11, .nilCheck (.tmp 10), none⟩,
 ⟨some 12, .fieldAddr 83 (.tmp 11) 1, none⟩,
 ⟨some 13, .load 81 (.tmp 12), none⟩,
 ⟨some 14, .call ⟨.builtin .append, #[.const (.slice none 0 0), .tmp 13], #[81, 81]⟩, none⟩,
 ⟨some 15, .move (.tmp 0), none⟩,
 ⟨some 16, .nilCheck (.tmp 15), none⟩,
 ⟨some 17, .fieldAddr 83 (.tmp 16) 2, none⟩,
 ⟨some 18, .load 2 (.tmp 17), none⟩,
 ⟨some 19, .build 83 #[(0, .tmp 9), (1, .tmp 14), (2, .tmp 18)], none⟩,
 ⟨some 20, .box 83 (.tmp 19), none⟩,
 ⟨some 2, .assign (.tmp 20), none⟩] [(4, 5), (4, 6), (4, 7), (4, 8), (4, 10), (9, 10), (4, 11), (9, 11), (4, 12), (9, 12), (4, 13), (9, 13)])
 .ret)))
theorem ir57_eq : (Try.f57.body.map low, Try.f57.ntmps, Try.f57.results.toList) = (some ir57, 21, [.tmp 2]) := by kernel_rfl
def ir59 : LC := (.seq (.ops [⟨some 2, .assign (.const (.slice none 0 0)), none⟩])
 (.seq (.seq (.ops [⟨some 3, .move (.tmp 0), none⟩,
 ⟨some 4, .binOp .eql 85 (.tmp 3) (.const (.slice none 0 0)) 85, none⟩])
 (.cond (.tmp 4)
 (.seq (.ops [⟨some 2, .assign (.const (.slice none 0 0)), none⟩])
 .ret)
 .skip))
 (.seq (.ops [⟨some 5, .buildSlice 85 0 #[], none⟩,
 ⟨some 6, .move (.tmp 0), none⟩,
 ⟨some 7, .call ⟨.builtin .append, #[.tmp 5, .tmp 6], #[85, 85]⟩, none⟩,
 ⟨some 2, .assign (.tmp 7), none⟩])
 .ret)))
theorem ir59_eq : (Try.f59.body.map low, Try.f59.ntmps, Try.f59.results.toList) = (some ir59, 8, [.tmp 2]) := by kernel_rfl
def ir60 : LC := (.seq (.ops [⟨some 1, .box 86 (.tmp 0), none⟩,
 ⟨some 2, .assign (.const .nilFunc), none⟩])
 (.seq (.ops [⟨some 3, .makeFunc (Fn.func 73) #[] #[.tmp 1], none⟩,
 ⟨some 2, .assign (.tmp 3), none⟩])
 .ret))
theorem ir60_eq : (Try.f60.body.map low, Try.f60.ntmps, Try.f60.results.toList) = (some ir60, 4, [.tmp 2]) := by kernel_rfl
def ir69 : LC := (.seq (.ops [⟨some 6, .assign (.const (.int .i64 0)), none⟩])
 (.seq (.seq (.ops [⟨some 7, .move (.tmp 0), none⟩,
 ⟨some 8, .binOp .eql 27 (.tmp 7) (.const (.pointer none)) 27, none⟩])
 (.cond (.tmp 8)
 (.seq (.ops [⟨some 6, .assign (.const (.int .i64 1)), none⟩])
 .ret)
 .skip))
 (.seq (.seq (.ops [⟨some 9, .move (.tmp 0), none⟩,
 ⟨some 10, .move (.tmp 1), none⟩,
 ⟨some 11, .call ⟨.value (.func 65), #[.tmp 9, .tmp 10], #[27, 3]⟩, none⟩,
 ⟨some 12, .unOp .not 4 (.tmp 11), none⟩])
 (.cond (.tmp 12)
 (.seq (.ops [⟨some 6, .assign (.const (.int .i64 2)), none⟩])
 .ret)
 .skip))
 (.seq (.seq (.ops [⟨some 13, .move (.tmp 2), none⟩,
 ⟨some 14, .binOp .lss 3 (.tmp 13) (.const (.int .i64 0)) 3, none⟩,
 ⟨some 15, .move (.tmp 14), none⟩,
 ⟨some 16, .move (.tmp 2), some (15, false)⟩,
 ⟨some 17, .move (.tmp 0), some (15, false)⟩,
 ⟨some 18, .nilCheck (.tmp 17), some (15, false)⟩,
 ⟨some 19, .fieldAddr 68 (.tmp 18) 1, some (15, false)⟩,
 ⟨some 20, .load 22 (.tmp 19), some (15, false)⟩,
 ⟨some 21, .move (.tmp 1), some (15, false)⟩,
 ⟨some 22, .indexAddr 22 (.tmp 20) (.tmp 21), some (15, false)⟩,
 ⟨some 23, .load 3 (.tmp 22), some (15, false)⟩,
 ⟨some 24, .binOp .geq 3 (.tmp 16) (.tmp 23) 3, some (15, false)⟩,
 ⟨some 25, .pick (.tmp 15) (.const (.bool true)) (.tmp 24), none⟩,
 ⟨some 26, .move (.tmp 25), none⟩,
 ⟨some 27, .move (.tmp 0), some (26, false)⟩,
 ⟨some 28, .nilCheck (.tmp 27), some (26, false)⟩,
 ⟨some 29, .fieldAddr 68 (.tmp 28) 2, some (26, false)⟩,
 ⟨some 30, .load 66 (.tmp 29), some (26, false)⟩,
 ⟨some 31, .move (.tmp 1), some (26, false)⟩,
 ⟨some 32, .indexAddr 66 (.tmp 30) (.tmp 31), some (26, false)⟩,
 ⟨some 33, .load 64 (.tmp 32), some (26, false)⟩,
 ⟨some 34, .move (.tmp 2), some (26, false)⟩,
 ⟨some 35, .indexAddr 64 (.tmp 33) (.tmp 34), some (26, false)⟩,
 ⟨some 36, .load 4 (.tmp 35), some (26, false)⟩,
 ⟨some 37, .unOp .not 4 (.tmp 36), some (26, false)⟩,
 ⟨some 38, .pick (.tmp 26) (.const (.bool true)) (.tmp 37), none⟩])
 (.cond (.tmp 38)
 (.seq (.ops [⟨some 6, .assign (.const (.int .i64 6)), none⟩])
 .ret)
 .skip))
 (.seq (.ops [⟨some 6, .assign (.const (.int .i64 0)), none⟩])
 .ret)))))
theorem ir69_eq : (Try.f69.body.map low, Try.f69.ntmps, Try.f69.results.toList) = (some ir69, 39, [.tmp 6]) := by kernel_rfl
def ir70 : LC := (.seq (.ops [⟨some 6, .assign (.const (.int .i64 0)), none⟩])
 (.seq (.seq (.ops [⟨some 7, .move (.tmp 0), none⟩,
 ⟨some 8, .binOp .eql 65 (.tmp 7) (.const (.pointer none)) 65, none⟩])
 (.cond (.tmp 8)
 (.seq (.ops [⟨some 6, .assign (.const (.int .i64 1)), none⟩])
 .ret)
 .skip))
 (.seq (.seq (.ops [⟨some 9, .move (.tmp 0), none⟩,
 ⟨some 10, .move (.tmp 1), none⟩,
 ⟨some 11, .call ⟨.value (.func 75), #[.tmp 9, .tmp 10], #[65, 3]⟩, none⟩,
 ⟨some 12, .unOp .not 4 (.tmp 11), none⟩,
 ⟨some 13, .move (.tmp 12), none⟩,
 ⟨some 14, .move (.tmp 2), some (13, false)⟩,
 ⟨some 15, .call ⟨.builtin .len, #[.tmp 14], #[45]⟩, some (13, false)⟩,
 ⟨some 16, .binOp .neq 3 (.tmp 15) (.const (.int .i64 128)) 3, some (13, false)⟩,
 ⟨some 17, .pick (.tmp 13) (.const (.bool true)) (.tmp 16), none⟩])
 (.cond (.tmp 17)
 (.seq (.ops [⟨some 6, .assign (.const (.int .i64 2)), none⟩])
 .ret)
 .skip))
 (.seq (.draw [⟨some 18, .move (.tmp 0), none⟩,
 ⟨some 19, .nilCheck (.tmp 18), none⟩,
 ⟨some 20, .fieldAddr 83 (.tmp 19) 1, none⟩,
 ⟨some 21, .load 81 (.tmp 20), none⟩,
 ⟨some 22, .move (.tmp 1), none⟩,
 ⟨some 23, .move (.tmp 0), none⟩,
 ⟨some 24, .nilCheck (.tmp 23), none⟩,
 ⟨some 25, .fieldAddr 83 (.tmp 24) 1, none⟩,
 ⟨some 26, .load 81 (.tmp 25), none⟩,
 ⟨some 27, .move (.tmp 1), none⟩,
 ⟨some 28, .indexAddr 81 (.tmp 26) (.tmp 27), none⟩,
 ⟨some 29, .load 80 (.tmp 28), none⟩,
 ⟨some 30, .call ⟨.builtin .append, #[.const (.slice none 0 0), .tmp 29], #[80, 80]⟩, none⟩,
 ⟨some 31, .move (.tmp 2), none⟩,
 ⟨some 32, .call ⟨.builtin .append, #[.const (.slice none 0 0), .tmp 31], #[45, 45]⟩, none⟩,
 ⟨some 33, .buildSlice 80 1 #[(0, .tmp 32)], none⟩,
 ⟨some 34, .call ⟨.builtin .append, #[.tmp 30, .tmp 33], #[80, 80]⟩, none⟩,
 ⟨some 35, .indexAddr 81 (.tmp 21) (.tmp 22), none⟩,
 ⟨none, .store 80 (.tmp 35) (.tmp 34), none⟩] [(0, 12), (1, 12), (2, 12), (3, 12), (4, 12), (12, 13), (0, 14), (1, 14), (2, 14), (3, 14), (4, 14), (0, 15), (1, 15), (2, 15), (3, 15), (4, 15), (0, 16), (1, 16), (2, 16), (3, 16), (4, 16)])
 (.seq (.ops [⟨some 36, .move (.tmp 0), none⟩,
 ⟨some 37, .nilCheck (.tmp 36), none⟩,
 ⟨some 38, .fieldAddr 83 (.tmp 37) 2, none⟩,
 ⟨some 39, .load 2 (.tmp 38), none⟩,
 ⟨some 40, .binOp .add 2 (.tmp 39) (.const (.int .i64 1)) 2, none⟩,
 ⟨some 41, .nilCheck (.tmp 36), none⟩,
 ⟨some 42, .fieldAddr 83 (.tmp 41) 2, none⟩,
 ⟨none, .store 2 (.tmp 42) (.tmp 40), none⟩])
 (.seq (.ops [⟨some 6, .assign (.const (.int .i64 0)), none⟩])
 .ret))))))
theorem ir70_eq : (Try.f70.body.map low, Try.f70.ntmps, Try.f70.results.toList) = (some ir70, 43, [.tmp 6]) := by kernel_rfl
def ir71_l0 : LC := (.seq (.seq (.ops [⟨some 37, .move (.tmp 7), none⟩,
 ⟨some 38, .move (.tmp 1), none⟩,
 ⟨some 39, .move (.tmp 2), none⟩,
 ⟨some 40, .binOp .add 3 (.tmp 38) (.tmp 39) 3, none⟩,
 ⟨some 41, .binOp .lss 3 (.tmp 37) (.tmp 40) 3, none⟩])
 (.cond (.tmp 41)
 .skip
 (.exit 0)))
 (.seq (.block 1 (.seq (.draw [⟨some 44, .move (.tmp 0), none⟩,
 ⟨some 45, .nilCheck (.tmp 44), none⟩,
 ⟨some 46, .fieldAddr 83 (.tmp 45) 0, none⟩,
 ⟨some 47, .load 80 (.tmp 46), none⟩,
 ⟨some 48, .move (.tmp 7), none⟩,
 ⟨some 49, .move (.tmp 0), none⟩,
 ⟨some 50, .move (.tmp 7), none⟩,
 ⟨some 51, .call ⟨.value (.func 76), #[.tmp 49, .tmp 50], #[65, 3]⟩, none⟩,
 ⟨some 52, .call ⟨.builtin .append, #[.const (.slice none 0 0), .tmp 51], #[45, 45]⟩, none⟩,
 ⟨some 53, .indexAddr 80 (.tmp 47) (.tmp 48), none⟩,
 ⟨none, .store 45 (.tmp 53) (.tmp 52), none⟩] [(0, 7), (1, 7), (2, 7), (3, 7), (4, 7), (0, 8), (1, 8), (2, 8), (3, 8), (4, 8)])
 (.ops [⟨some 54, .move (.tmp 0), none⟩,
 ⟨some 55, .nilCheck (.tmp 54), none⟩,
 ⟨some 56, .fieldAddr 83 (.tmp 55) 1, none⟩,
 ⟨some 57, .load 81 (.tmp 56), none⟩,
 ⟨some 58, .move (.tmp 7), none⟩,
 ⟨some 59, .indexAddr 81 (.tmp 57) (.tmp 58), none⟩,
 ⟨none, .store 80 (.tmp 59) (.const (.slice none 0 0)), none⟩])))
 (.ops [⟨some 42, .move (.tmp 7), none⟩,
 ⟨some 43, .binOp .add 3 (.tmp 42) (.const (.int .i64 1)) 3, none⟩,
 ⟨some 7, .assign (.tmp 43), none⟩])))
def ir71 : LC := (.seq (.ops [⟨some 6, .assign (.const (.int .i64 0)), none⟩])
 (.seq (.seq (.ops [⟨some 8, .move (.tmp 0), none⟩,
 ⟨some 9, .binOp .eql 65 (.tmp 8) (.const (.pointer none)) 65, none⟩])
 (.cond (.tmp 9)
 (.seq (.ops [⟨some 6, .assign (.const (.int .i64 1)), none⟩])
 .ret)
 .skip))
 (.seq (.seq (.ops [⟨some 10, .move (.tmp 2), none⟩,
 ⟨some 11, .binOp .lss 3 (.tmp 10) (.const (.int .i64 0)) 3, none⟩,
 ⟨some 12, .move (.tmp 11), none⟩,
 ⟨some 13, .move (.tmp 1), some (12, false)⟩,
 ⟨some 14, .binOp .lss 3 (.tmp 13) (.const (.int .i64 0)) 3, some (12, false)⟩,
 ⟨some 15, .pick (.tmp 12) (.const (.bool true)) (.tmp 14), none⟩,
 ⟨some 16, .move (.tmp 15), none⟩,
 ⟨some 17, .move (.tmp 1), some (16, false)⟩,
 ⟨some 18, .move (.tmp 0), some (16, false)⟩,
 ⟨some 19, .nilCheck (.tmp 18), some (16, false)⟩,
 ⟨some 20, .fieldAddr 83 (.tmp 19) 0, some (16, false)⟩,
 ⟨some 21, .load 80 (.tmp 20), some (16, false)⟩,
 ⟨some 22, .call ⟨.builtin .len, #[.tmp 21], #[80]⟩, some (16, false)⟩,
 ⟨some 23, .binOp .gtr 3 (.tmp 17) (.tmp 22) 3, some (16, false)⟩,
 ⟨some 24, .pick (.tmp 16) (.const (.bool true)) (.tmp 23), none⟩,
 ⟨some 25, .move (.tmp 24), none⟩,
 ⟨some 26, .move (.tmp 2), some (25, false)⟩,
 ⟨some 27, .move (.tmp 0), some (25, false)⟩,
 ⟨some 28, .nilCheck (.tmp 27), some (25, false)⟩,
 ⟨some 29, .fieldAddr 83 (.tmp 28) 0, some (25, false)⟩,
 ⟨some 30, .load 80 (.tmp 29), some (25, false)⟩,
 ⟨some 31, .call ⟨.builtin .len, #[.tmp 30], #[80]⟩, some (25, false)⟩,
 ⟨some 32, .move (.tmp 1), some (25, false)⟩,
 ⟨some 33, .binOp .sub 3 (.tmp 31) (.tmp 32) 3, some (25, false)⟩,
 ⟨some 34, .binOp .gtr 3 (.tmp 26) (.tmp 33) 3, some (25, false)⟩,
 ⟨some 35, .pick (.tmp 25) (.const (.bool true)) (.tmp 34), none⟩])
 (.cond (.tmp 35)
 (.seq (.ops [⟨some 6, .assign (.const (.int .i64 2)), none⟩])
 .ret)
 .skip))
 (.seq (.seq (.ops [⟨some 36, .move (.tmp 1), none⟩,
 ⟨some 7, .assign (.tmp 36), none⟩])
 (.block 0 (.loop ir71_l0)))
 (.seq (.ops [⟨some 6, .assign (.const (.int .i64 0)), none⟩])
 .ret)))))
theorem ir71_eq : (Try.f71.body.map low, Try.f71.ntmps, Try.f71.results.toList) = (some ir71, 60, [.tmp 6]) := by kernel_rfl
def ir72 : LC := (.seq (.ops [⟨some 4, .assign (.const (.slice none 0 0)), none⟩,
 ⟨some 5, .assign (.const (.int .i64 0)), none⟩])
 (.seq (.seq (.ops [⟨some 6, .move (.tmp 0), none⟩,
 ⟨some 7, .binOp .eql 65 (.tmp 6) (.const (.pointer none)) 65, none⟩])
 (.cond (.tmp 7)
 (.seq (.ops [⟨some 4, .assign (.const (.slice none 0 0)), none⟩,
 ⟨some 5, .assign (.const (.int .i64 1)), none⟩])
 .ret)
 .skip))
 (.seq (.seq (.ops [⟨some 8, .move (.tmp 0), none⟩,
 ⟨some 9, .move (.tmp 1), none⟩,
 ⟨some 10, .call ⟨.value (.func 75), #[.tmp 8, .tmp 9], #[65, 3]⟩, none⟩,
 ⟨some 11, .unOp .not 4 (.tmp 10), none⟩])
 (.cond (.tmp 11)
 (.seq (.ops [⟨some 4, .assign (.const (.slice none 0 0)), none⟩,
 ⟨some 5, .assign (.const (.int .i64 2)), none⟩])
 .ret)
 .skip))
 (.seq (.ops [⟨some 12, .move (.tmp 0), none⟩,
 ⟨some 13, .move (.tmp 1), none⟩,
 ⟨some 14, .call ⟨.value (.func 76), #[.tmp 12, .tmp 13], #[65, 3]⟩, none⟩,
 ⟨some 4, .assign (.tmp 14), none⟩,
 ⟨some 5, .assign (.const (.int .i64 0)), none⟩])
 .ret))))
theorem ir72_eq : (Try.f72.body.map low, Try.f72.ntmps, Try.f72.results.toList) = (some ir72, 15, [.tmp 4, .tmp 5]) := by kernel_rfl
def ir73_l0 : LC := (.seq (.ops [⟨some 7, .next (.tmp 6) false, none⟩,
 ⟨some 8, .extract (.tmp 7) 0, none⟩])
 (.seq (.cond (.tmp 8)
 .skip
 (.exit 0))
 (.block 1 (.seq (.ops [⟨some 9, .entry (.tmp 6), none⟩,
 ⟨some 10, .extract (.tmp 9) 0, none⟩,
 ⟨some 11, .extract (.tmp 9) 1, none⟩,
 ⟨some 3, .assign (.tmp 10), none⟩,
 ⟨some 4, .assign (.tmp 11), none⟩])
 (.seq (.ops [⟨some 12, .move (.tmp 0), none⟩,
 ⟨some 13, .move (.tmp 3), none⟩,
 ⟨some 14, .move (.tmp 4), none⟩,
 ⟨some 15, .call ⟨.value (.tmp 12), #[.tmp 13, .tmp 14], #[3, 85]⟩, none⟩,
 ⟨some 16, .unOp .not 4 (.tmp 15), none⟩])
 (.cond (.tmp 16)
 .ret
 .skip))))))
def ir73 : LC := (.seq (.ops [⟨some 5, .load 86 (.tmp 1), none⟩,
 ⟨some 6, .range 86 (.tmp 5), none⟩])
 (.block 0 (.loop ir73_l0)))
theorem ir73_eq : (Try.f73.body.map low, Try.f73.ntmps, Try.f73.results.toList) = (some ir73, 17, []) := by kernel_rfl
def ir75 : LC := (.seq (.ops [⟨some 4, .assign (.const (.bool false)), none⟩])
 (.seq (.ops [⟨some 5, .move (.tmp 1), none⟩,
 ⟨some 6, .binOp .geq 3 (.tmp 5) (.const (.int .i64 0)) 3, none⟩,
 ⟨some 7, .move (.tmp 6), none⟩,
 ⟨some 8, .move (.tmp 1), some (7, true)⟩,
 ⟨some 9, .move (.tmp 0), some (7, true)⟩,
 ⟨some 10, .nilCheck (.tmp 9), some (7, true)⟩,
 ⟨some 11, .fieldAddr 83 (.tmp 10) 0, some (7, true)⟩,
 ⟨some 12, .load 80 (.tmp 11), some (7, true)⟩,
 ⟨some 13, .call ⟨.builtin .len, #[.tmp 12], #[80]⟩, some (7, true)⟩,
 ⟨some 14, .binOp .lss 3 (.tmp 8) (.tmp 13) 3, some (7, true)⟩,
 ⟨some 15, .pick (.tmp 7) (.tmp 14) (.const (.bool false)), none⟩,
 ⟨some 4, .assign (.tmp 15), none⟩])
 .ret))
theorem ir75_eq : (Try.f75.body.map low, Try.f75.ntmps, Try.f75.results.toList) = (some ir75, 16, [.tmp 4]) := by kernel_rfl
def ir76 : LC := (.seq (.ops [⟨some 4, .assign (.const (.slice none 0 0)), none⟩])
 (.seq (.ops [⟨some 6, .move (.tmp 0), none⟩,
 ⟨some 7, .nilCheck (.tmp 6), none⟩,
 ⟨some 8, .fieldAddr 83 (.tmp 7) 1, none⟩,
 ⟨some 9, .load 81 (.tmp 8), none⟩,
 ⟨some 10, .move (.tmp 1), none⟩,
 ⟨some 11, .indexAddr 81 (.tmp 9) (.tmp 10), none⟩,
 ⟨some 12, .load 80 (.tmp 11), none⟩,
 ⟨some 13, .call ⟨.builtin .len, #[.tmp 12], #[80]⟩, none⟩,
 ⟨some 5, .assign (.tmp 13), none⟩])
 (.seq (.seq (.ops [⟨some 14, .move (.tmp 5), none⟩,
 ⟨some 15, .binOp .gtr 3 (.tmp 14) (.const (.int .i64 0)) 3, none⟩])
 (.cond (.tmp 15)
 (.seq (.ops [⟨some 16, .move (.tmp 0), none⟩,
 ⟨some 17, .nilCheck (.tmp 16), none⟩,
 ⟨some 18, .fieldAddr 83 (.tmp 17) 1, none⟩,
 ⟨some 19, .load 81 (.tmp 18), none⟩,
 ⟨some 20, .move (.tmp 1), none⟩,
 ⟨some 21, .indexAddr 81 (.tmp 19) (.tmp 20), none⟩,
 ⟨some 22, .load 80 (.tmp 21), none⟩,
 ⟨some 23, .move (.tmp 5), none⟩,
 ⟨some 24, .binOp .sub 3 (.tmp 23) (.const (.int .i64 1)) 3, none⟩,
 ⟨some 25, .indexAddr 80 (.tmp 22) (.tmp 24), none⟩,
 ⟨some 26, .load 45 (.tmp 25), none⟩,
 ⟨some 4, .assign (.tmp 26), none⟩])
 .ret)
 .skip))
 (.seq (.ops [⟨some 27, .move (.tmp 0), none⟩,
 ⟨some 28, .nilCheck (.tmp 27), none⟩,
 ⟨some 29, .fieldAddr 83 (.tmp 28) 0, none⟩,
 ⟨some 30, .load 80 (.tmp 29), none⟩,
 ⟨some 31, .move (.tmp 1), none⟩,
 ⟨some 32, .indexAddr 80 (.tmp 30) (.tmp 31), none⟩,
 ⟨some 33, .load 45 (.tmp 32), none⟩,
 ⟨some 4, .assign (.tmp 33), none⟩])
 .ret))))
theorem ir76_eq : (Try.f76.body.map low, Try.f76.ntmps, Try.f76.results.toList) = (some ir76, 34, [.tmp 4]) := by kernel_rfl



end Go.Proofs.Ythdkhbhicimpdaa
