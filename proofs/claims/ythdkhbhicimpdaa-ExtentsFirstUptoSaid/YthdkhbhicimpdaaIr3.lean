/- The code of this seat struck bare (printed by program). -/
import Derived.Test.YthdkhbhicimpdaaProg
import Derived.Test.YthdkhbhicimpdaaV4
import Derived.KernelRfl
set_option linter.unusedVariables false
set_option maxRecDepth 100000
namespace Go.Proofs.Ythdkhbhicimpdaa
open Go Go.Vm
def ir3_l0 : LC := (.seq (.seq (.ops [⟨some 33, .move (.tmp 8), none⟩,
 ⟨some 34, .move (.tmp 1), none⟩,
 ⟨some 35, .call ⟨.builtin .len, #[.tmp 34], #[22]⟩, none⟩,
 ⟨some 36, .binOp .lss 3 (.tmp 33) (.tmp 35) 3, none⟩])
 (.cond (.tmp 36)
 .skip
 (.exit 0)))
 (.seq (.block 1 (.seq (.ops [⟨some 40, .fieldAddr 29 (.tmp 5) 0, none⟩,
 ⟨some 41, .load 25 (.tmp 40), none⟩,
 ⟨some 42, .move (.tmp 8), none⟩,
 ⟨some 43, .call ⟨.value (.func 11), #[.tmp 41, .tmp 42], #[25, 3]⟩, none⟩,
 ⟨some 39, .move (.tmp 43), none⟩,
 ⟨some 44, .extract (.tmp 39) 0, none⟩,
 ⟨some 45, .extract (.tmp 39) 1, none⟩,
 ⟨some 46, .extract (.tmp 39) 2, none⟩,
 ⟨some 9, .assign (.tmp 44), none⟩,
 ⟨some 10, .assign (.tmp 45), none⟩,
 ⟨some 11, .assign (.tmp 46), none⟩])
 (.seq (.seq (.ops [⟨some 47, .move (.tmp 9), none⟩,
 ⟨some 48, .move (.tmp 7), none⟩,
 ⟨some 49, .binOp .neq 3 (.tmp 47) (.tmp 48) 3, none⟩,
 ⟨some 50, .move (.tmp 49), none⟩,
 ⟨some 51, .move (.tmp 10), some (50, false)⟩,
 ⟨some 52, .move (.tmp 1), some (50, false)⟩,
 ⟨some 53, .move (.tmp 8), some (50, false)⟩,
 ⟨some 54, .indexAddr 22 (.tmp 52) (.tmp 53), some (50, false)⟩,
 ⟨some 55, .load 3 (.tmp 54), some (50, false)⟩,
 ⟨some 56, .binOp .neq 3 (.tmp 51) (.tmp 55) 3, some (50, false)⟩,
 ⟨some 57, .pick (.tmp 50) (.const (.bool true)) (.tmp 56), none⟩,
 ⟨some 58, .move (.tmp 57), none⟩,
 ⟨some 59, .move (.tmp 11), some (58, false)⟩,
 ⟨some 60, .unOp .not 4 (.tmp 59), some (58, false)⟩,
 ⟨some 61, .pick (.tmp 58) (.const (.bool true)) (.tmp 60), none⟩])
 (.cond (.tmp 61)
 (.seq (.ops [⟨some 4, .assign (.const (.bool false)), none⟩])
 .ret)
 .skip))
 (.ops [⟨some 62, .move (.tmp 7), none⟩,
 ⟨some 63, .move (.tmp 10), none⟩,
 ⟨some 64, .binOp .add 3 (.tmp 62) (.tmp 63) 3, none⟩,
 ⟨some 7, .assign (.tmp 64), none⟩]))))
 (.ops [⟨some 37, .move (.tmp 8), none⟩,
 ⟨some 38, .binOp .add 3 (.tmp 37) (.const (.int .i64 1)) 3, none⟩,
 ⟨some 8, .assign (.tmp 38), none⟩])))
def ir3 : LC := (.seq (.ops [⟨some 4, .assign (.const (.bool false)), none⟩])
 (.seq (.seq (.ops [⟨some 12, .move (.tmp 0), none⟩,
 ⟨some 13, .move (.tmp 1), none⟩,
 ⟨some 14, .call ⟨.value (.func 8), #[.tmp 12, .tmp 13, .const (.slice none 0 0)], #[3, 22, 36]⟩, none⟩])
 (.cond (.tmp 14)
 (.seq (.ops [⟨some 15, .call ⟨.value (.func 9), #[], #[]⟩, none⟩,
 ⟨some 4, .assign (.tmp 15), none⟩])
 .ret)
 .skip))
 (.seq (.ops [⟨some 17, .move (.tmp 0), none⟩,
 ⟨some 18, .move (.tmp 1), none⟩,
 ⟨some 19, .call ⟨.value (.func 10), #[.tmp 17, .tmp 18], #[3, 22]⟩, none⟩,
 ⟨some 16, .move (.tmp 19), none⟩,
 ⟨some 20, .extract (.tmp 16) 0, none⟩,
 ⟨some 21, .extract (.tmp 16) 1, none⟩,
 ⟨some 5, .alloc 29, none⟩,
 ⟨none, .store 29 (.tmp 5) (.tmp 20), none⟩,
 ⟨some 6, .assign (.tmp 21), none⟩])
 (.seq (.seq (.ops [⟨some 22, .move (.tmp 6), none⟩,
 ⟨some 23, .unOp .not 4 (.tmp 22), none⟩,
 ⟨some 24, .move (.tmp 23), none⟩,
 ⟨some 25, .fieldAddr 29 (.tmp 5) 2, some (24, false)⟩,
 ⟨some 26, .load 27 (.tmp 25), some (24, false)⟩,
 ⟨some 27, .binOp .eql 27 (.tmp 26) (.const (.pointer none)) 27, some (24, false)⟩,
 ⟨some 28, .pick (.tmp 24) (.const (.bool true)) (.tmp 27), none⟩])
 (.cond (.tmp 28)
 (.seq (.ops [⟨some 29, .move (.tmp 6), none⟩,
 ⟨some 30, .move (.tmp 29), none⟩,
 ⟨some 31, .call ⟨.value (.func 9), #[], #[]⟩, some (30, true)⟩,
 ⟨some 32, .pick (.tmp 30) (.tmp 31) (.const (.bool false)), none⟩,
 ⟨some 4, .assign (.tmp 32), none⟩])
 .ret)
 .skip))
 (.seq (.ops [⟨some 7, .assign (.const (.int .i64 0)), none⟩])
 (.seq (.seq (.ops [⟨some 8, .assign (.const (.int .i64 0)), none⟩])
 (.block 0 (.loop ir3_l0)))
 (.seq (.ops [⟨some 65, .load 29 (.tmp 5), none⟩,
 ⟨some 66, .call ⟨.value (.func 12), #[.tmp 65, .const (.int .i64 0)], #[29, 3]⟩, none⟩,
 ⟨some 67, .move (.tmp 66), none⟩,
 ⟨some 68, .call ⟨.value (.func 9), #[], #[]⟩, some (67, true)⟩,
 ⟨some 69, .pick (.tmp 67) (.tmp 68) (.const (.bool false)), none⟩,
 ⟨some 4, .assign (.tmp 69), none⟩])
 .ret)))))))
theorem ir3_eq : (Try.f3.body.map low, Try.f3.ntmps, Try.f3.results.toList) = (some ir3, 70, [.tmp 4]) := by kernel_rfl
def ir10_l0 : LC := (.seq (.seq (.ops [⟨some 55, .move (.tmp 14), none⟩,
 ⟨some 56, .move (.tmp 1), none⟩,
 ⟨some 57, .call ⟨.builtin .len, #[.tmp 56], #[22]⟩, none⟩,
 ⟨some 58, .binOp .lss 3 (.tmp 55) (.tmp 57) 3, none⟩])
 (.cond (.tmp 58)
 .skip
 (.exit 0)))
 (.seq (.block 1 (.seq (.seq (.draw [⟨some 61, .move (.tmp 9), none⟩,
 ⟨some 62, .move (.tmp 14), none⟩,
 ⟨some 63, .indexAddr 22 (.tmp 61) (.tmp 62), none⟩,
 ⟨some 64, .load 3 (.tmp 63), none⟩,
 ⟨some 65, .move (.tmp 1), none⟩,
 ⟨some 66, .move (.tmp 14), none⟩,
 ⟨some 67, .indexAddr 22 (.tmp 65) (.tmp 66), none⟩,
 ⟨some 68, .load 3 (.tmp 67), none⟩,
 ⟨some 69, .binOp .neq 3 (.tmp 64) (.tmp 68) 3, none⟩] [])
 (.cond (.tmp 69)
 (.seq (.ops [⟨some 70, .build 29 #[], none⟩,
 ⟨none, .store 29 (.tmp 4) (.tmp 70), none⟩,
 ⟨some 5, .assign (.const (.bool false)), none⟩])
 .ret)
 .skip))
 (.ops [⟨some 71, .move (.tmp 9), none⟩,
 ⟨some 72, .move (.tmp 14), none⟩,
 ⟨some 73, .indexAddr 22 (.tmp 71) (.tmp 72), none⟩,
 ⟨none, .store 3 (.tmp 73) (.const (.int .i64 99)), none⟩])))
 (.ops [⟨some 59, .move (.tmp 14), none⟩,
 ⟨some 60, .binOp .add 3 (.tmp 59) (.const (.int .i64 1)) 3, none⟩,
 ⟨some 14, .assign (.tmp 60), none⟩])))
def ir10 : LC := (.seq (.ops [⟨some 4, .alloc 29, none⟩,
 ⟨some 5, .assign (.const (.bool false)), none⟩])
 (.seq (.ops [⟨some 16, .move (.tmp 0), none⟩,
 ⟨some 17, .call ⟨.value (.func 13), #[.tmp 16], #[3]⟩, none⟩,
 ⟨some 15, .move (.tmp 17), none⟩,
 ⟨some 18, .extract (.tmp 15) 0, none⟩,
 ⟨some 19, .extract (.tmp 15) 1, none⟩,
 ⟨some 6, .assign (.tmp 18), none⟩,
 ⟨some 7, .assign (.tmp 19), none⟩])
 (.seq (.ops [⟨some 20, .move (.tmp 0), none⟩,
 ⟨some 21, .call ⟨.value (.func 30), #[.tmp 20], #[3]⟩, none⟩,
 ⟨some 8, .assign (.tmp 21), none⟩])
 (.seq (.seq (.ops [⟨some 22, .move (.tmp 6), none⟩,
 ⟨some 23, .binOp .eql 26 (.tmp 22) (.const (.pointer none)) 26, none⟩,
 ⟨some 24, .move (.tmp 8), none⟩,
 ⟨some 25, .binOp .eql 65 (.tmp 24) (.const (.pointer none)) 65, none⟩,
 ⟨some 26, .binOp .neq 4 (.tmp 23) (.tmp 25) 4, none⟩,
 ⟨some 27, .move (.tmp 26), none⟩,
 ⟨some 28, .move (.tmp 7), some (27, false)⟩,
 ⟨some 29, .call ⟨.value (.func 15), #[.tmp 28], #[37]⟩, some (27, false)⟩,
 ⟨some 30, .binOp .eql 3 (.tmp 29) (.const (.int .i64 0)) 3, some (27, false)⟩,
 ⟨some 31, .move (.tmp 8), some (27, false)⟩,
 ⟨some 32, .binOp .neq 65 (.tmp 31) (.const (.pointer none)) 65, some (27, false)⟩,
 ⟨some 33, .binOp .neq 4 (.tmp 30) (.tmp 32) 4, some (27, false)⟩,
 ⟨some 34, .pick (.tmp 27) (.const (.bool true)) (.tmp 33), none⟩])
 (.cond (.tmp 34)
 (.seq (.ops [⟨some 35, .build 29 #[], none⟩,
 ⟨none, .store 29 (.tmp 4) (.tmp 35), none⟩,
 ⟨some 5, .assign (.const (.bool false)), none⟩])
 .ret)
 .skip))
 (.seq (.ops [⟨some 36, .move (.tmp 1), none⟩,
 ⟨some 37, .call ⟨.builtin .append, #[.const (.slice none 0 0), .tmp 36], #[22, 22]⟩, none⟩,
 ⟨some 38, .buildSlice 22 1 #[(0, .const (.int .i64 77))], none⟩,
 ⟨some 39, .call ⟨.builtin .append, #[.tmp 37, .tmp 38], #[22, 22]⟩, none⟩,
 ⟨some 9, .assign (.tmp 39), none⟩])
 (.seq (.ops [⟨some 41, .move (.tmp 6), none⟩,
 ⟨some 42, .move (.tmp 9), none⟩,
 ⟨some 43, .move (.tmp 1), none⟩,
 ⟨some 44, .call ⟨.builtin .len, #[.tmp 43], #[22]⟩, none⟩,
 ⟨some 45, .slice 22 (.tmp 42) none (some (.tmp 44)) none, none⟩,
 ⟨some 46, .call ⟨.value (.func 14), #[.tmp 41, .tmp 45], #[26, 22]⟩, none⟩,
 ⟨some 40, .move (.tmp 46), none⟩,
 ⟨some 47, .extract (.tmp 40) 0, none⟩,
 ⟨some 48, .extract (.tmp 40) 1, none⟩,
 ⟨some 10, .assign (.tmp 47), none⟩,
 ⟨some 11, .assign (.tmp 48), none⟩])
 (.seq (.ops [⟨some 50, .move (.tmp 8), none⟩,
 ⟨some 51, .move (.tmp 1), none⟩,
 ⟨some 52, .call ⟨.value (.func 31), #[.tmp 50, .tmp 51], #[65, 22]⟩, none⟩,
 ⟨some 49, .move (.tmp 52), none⟩,
 ⟨some 53, .extract (.tmp 49) 0, none⟩,
 ⟨some 54, .extract (.tmp 49) 1, none⟩,
 ⟨some 12, .assign (.tmp 53), none⟩,
 ⟨some 13, .assign (.tmp 54), none⟩])
 (.seq (.seq (.ops [⟨some 14, .assign (.const (.int .i64 0)), none⟩])
 (.block 0 (.loop ir10_l0)))
 (.seq (.ops [⟨some 74, .move (.tmp 10), none⟩,
 ⟨some 75, .move (.tmp 6), none⟩,
 ⟨some 76, .move (.tmp 12), none⟩,
 ⟨some 77, .build 29 #[(0, .tmp 74), (1, .tmp 75), (2, .tmp 76)], none⟩,
 ⟨some 78, .move (.tmp 10), none⟩,
 ⟨some 79, .binOp .eql 25 (.tmp 78) (.const (.pointer none)) 25, none⟩,
 ⟨some 80, .move (.tmp 12), none⟩,
 ⟨some 81, .binOp .eql 27 (.tmp 80) (.const (.pointer none)) 27, none⟩,
 ⟨some 82, .binOp .eql 4 (.tmp 79) (.tmp 81) 4, none⟩,
 ⟨some 83, .move (.tmp 82), none⟩,
 ⟨some 84, .move (.tmp 11), some (83, true)⟩,
 ⟨some 85, .call ⟨.value (.func 15), #[.tmp 84], #[37]⟩, some (83, true)⟩,
 ⟨some 86, .move (.tmp 13), some (83, true)⟩,
 ⟨some 87, .binOp .eql 3 (.tmp 85) (.tmp 86) 3, some (83, true)⟩,
 ⟨some 88, .pick (.tmp 83) (.tmp 87) (.const (.bool false)), none⟩,
 ⟨none, .store 29 (.tmp 4) (.tmp 77), none⟩,
 ⟨some 5, .assign (.tmp 88), none⟩])
 .ret)))))))))
theorem ir10_eq : (Try.f10.body.map low, Try.f10.ntmps, Try.f10.results.toList) = (some ir10, 89, [.cell 4 29, .tmp 5]) := by kernel_rfl
def ir11 : LC := (.seq (.ops [⟨some 4, .assign (.const (.int .i64 0)), none⟩,
 ⟨some 5, .assign (.const (.int .i64 0)), none⟩,
 ⟨some 6, .assign (.const (.bool false)), none⟩])
 (.seq (.ops [⟨some 10, .move (.tmp 0), none⟩,
 ⟨some 11, .move (.tmp 1), none⟩,
 ⟨some 12, .call ⟨.value (.func 32), #[.tmp 10, .tmp 11], #[25, 3]⟩, none⟩,
 ⟨some 9, .move (.tmp 12), none⟩,
 ⟨some 13, .extract (.tmp 9) 0, none⟩,
 ⟨some 14, .extract (.tmp 9) 1, none⟩,
 ⟨some 7, .assign (.tmp 13), none⟩,
 ⟨some 8, .assign (.tmp 14), none⟩])
 (.seq (.seq (.ops [⟨some 15, .move (.tmp 8), none⟩,
 ⟨some 16, .binOp .neq 37 (.tmp 15) (.const (.int .i64 0)) 37, none⟩])
 (.cond (.tmp 16)
 (.seq (.ops [⟨some 4, .assign (.const (.int .i64 0)), none⟩,
 ⟨some 5, .assign (.const (.int .i64 0)), none⟩,
 ⟨some 6, .assign (.const (.bool false)), none⟩])
 .ret)
 .skip))
 (.seq (.draw [⟨some 17, .move (.tmp 7), none⟩,
 ⟨some 18, .nilCheck (.tmp 17), none⟩,
 ⟨some 19, .fieldAddr 57 (.tmp 18) 0, none⟩,
 ⟨some 20, .load 3 (.tmp 19), none⟩,
 ⟨some 21, .move (.tmp 7), none⟩,
 ⟨some 22, .nilCheck (.tmp 21), none⟩,
 ⟨some 23, .fieldAddr 57 (.tmp 22) 1, none⟩,
 ⟨some 24, .load 3 (.tmp 23), none⟩,
 ⟨some 4, .assign (.tmp 20), none⟩,
 ⟨some 5, .assign (.tmp 24), none⟩,
 ⟨some 6, .assign (.const (.bool true)), none⟩] [])
 .ret))))
theorem ir11_eq : (Try.f11.body.map low, Try.f11.ntmps, Try.f11.results.toList) = (some ir11, 25, [.tmp 4, .tmp 5, .tmp 6]) := by kernel_rfl
def ir12_l0 : LC := (.seq (.seq (.ops [⟨some 19, .move (.tmp 5), none⟩,
 ⟨some 20, .binOp .leq 3 (.tmp 19) (.const (.int .i64 9)) 3, none⟩])
 (.cond (.tmp 20)
 .skip
 (.exit 0)))
 (.seq (.block 1 (.seq (.ops [⟨some 24, .fieldAddr 29 (.tmp 2) 0, none⟩,
 ⟨some 25, .load 25 (.tmp 24), none⟩,
 ⟨some 26, .move (.tmp 5), none⟩,
 ⟨some 27, .call ⟨.value (.func 11), #[.tmp 25, .tmp 26], #[25, 3]⟩, none⟩,
 ⟨some 23, .move (.tmp 27), none⟩,
 ⟨some 28, .extract (.tmp 23) 0, none⟩,
 ⟨some 29, .extract (.tmp 23) 1, none⟩,
 ⟨some 30, .extract (.tmp 23) 2, none⟩,
 ⟨some 6, .assign (.tmp 28), none⟩,
 ⟨some 7, .assign (.tmp 29), none⟩,
 ⟨some 8, .assign (.tmp 30), none⟩])
 (.seq (.ops [⟨some 32, .fieldAddr 29 (.tmp 2) 2, none⟩,
 ⟨some 33, .load 27 (.tmp 32), none⟩,
 ⟨some 34, .move (.tmp 5), none⟩,
 ⟨some 35, .call ⟨.value (.func 33), #[.tmp 33, .tmp 34], #[27, 3]⟩, none⟩,
 ⟨some 31, .move (.tmp 35), none⟩,
 ⟨some 36, .extract (.tmp 31) 0, none⟩,
 ⟨some 37, .extract (.tmp 31) 1, none⟩,
 ⟨some 38, .extract (.tmp 31) 2, none⟩,
 ⟨some 9, .assign (.tmp 36), none⟩,
 ⟨some 10, .assign (.tmp 37), none⟩,
 ⟨some 11, .assign (.tmp 38), none⟩])
 (.seq (.draw [⟨some 39, .move (.tmp 6), none⟩,
 ⟨some 40, .move (.tmp 9), none⟩,
 ⟨some 41, .binOp .neq 3 (.tmp 39) (.tmp 40) 3, none⟩,
 ⟨some 42, .move (.tmp 41), none⟩,
 ⟨some 43, .move (.tmp 7), some (42, false)⟩,
 ⟨some 44, .move (.tmp 10), some (42, false)⟩,
 ⟨some 45, .binOp .neq 3 (.tmp 43) (.tmp 44) 3, some (42, false)⟩,
 ⟨some 46, .pick (.tmp 42) (.const (.bool true)) (.tmp 45), none⟩,
 ⟨some 47, .move (.tmp 46), none⟩,
 ⟨some 48, .move (.tmp 8), some (47, false)⟩,
 ⟨some 49, .move (.tmp 11), some (47, false)⟩,
 ⟨some 50, .binOp .neq 4 (.tmp 48) (.tmp 49) 4, some (47, false)⟩,
 ⟨some 51, .pick (.tmp 47) (.const (.bool true)) (.tmp 50), none⟩,
 ⟨some 52, .move (.tmp 51), none⟩,
 ⟨some 53, .fieldAddr 29 (.tmp 2) 0, some (52, false)⟩,
 ⟨some 54, .load 25 (.tmp 53), some (52, false)⟩,
 ⟨some 55, .move (.tmp 5), some (52, false)⟩,
 ⟨some 56, .call ⟨.value (.func 34), #[.tmp 54, .tmp 55], #[25, 3]⟩, some (52, false)⟩,
 ⟨some 57, .move (.tmp 10), some (52, false)⟩,
 ⟨some 58, .binOp .neq 3 (.tmp 56) (.tmp 57) 3, some (52, false)⟩,
 ⟨some 59, .pick (.tmp 52) (.const (.bool true)) (.tmp 58), none⟩,
 ⟨some 60, .move (.tmp 59), none⟩,
 ⟨some 61, .fieldAddr 29 (.tmp 2) 0, some (60, false)⟩,
 ⟨some 62, .load 25 (.tmp 61), some (60, false)⟩,
 ⟨some 63, .move (.tmp 5), some (60, false)⟩,
 ⟨some 64, .call ⟨.value (.func 24), #[.tmp 62, .tmp 63], #[25, 3]⟩, some (60, false)⟩,
 ⟨some 65, .fieldAddr 29 (.tmp 2) 2, some (60, false)⟩,
 ⟨some 66, .load 27 (.tmp 65), some (60, false)⟩,
 ⟨some 67, .move (.tmp 5), some (60, false)⟩,
 ⟨some 68, .call ⟨.value (.func 35), #[.tmp 66, .tmp 67], #[27, 3]⟩, some (60, false)⟩,
 ⟨some 69, .binOp .neq 3 (.tmp 64) (.tmp 68) 3, some (60, false)⟩,
 ⟨some 70, .pick (.tmp 60) (.const (.bool true)) (.tmp 69), none⟩,
 ⟨some 71, .move (.tmp 70), none⟩,
 ⟨some 72, .load 29 (.tmp 2), some (71, false)⟩,
 ⟨some 73, .move (.tmp 5), some (71, false)⟩,
 ⟨some 74, .move (.tmp 1), some (71, false)⟩,
 ⟨some 75, .call ⟨.value (.func 36), #[.tmp 72, .tmp 73, .tmp 74], #[29, 3, 3]⟩, some (71, false)⟩,
 ⟨some 76, .unOp .not 4 (.tmp 75), some (71, false)⟩,
 ⟨some 77, .pick (.tmp 71) (.const (.bool true)) (.tmp 76), none⟩] [(17, 18), (25, 26), (25, 27), (25, 28)])
 (.cond (.tmp 77)
 (.seq (.ops [⟨some 4, .assign (.const (.bool false)), none⟩])
 .ret)
 .skip)))))
 (.ops [⟨some 21, .move (.tmp 5), none⟩,
 ⟨some 22, .binOp .add 3 (.tmp 21) (.const (.int .i64 1)) 3, none⟩,
 ⟨some 5, .assign (.tmp 22), none⟩])))
def ir12_l1 : LC := (.seq (.seq (.ops [⟨some 78, .move (.tmp 12), none⟩,
 ⟨some 79, .fieldAddr 29 (.tmp 2) 2, none⟩,
 ⟨some 80, .load 27 (.tmp 79), none⟩,
 ⟨some 81, .nilCheck (.tmp 80), none⟩,
 ⟨some 82, .fieldAddr 68 (.tmp 81) 0, none⟩,
 ⟨some 83, .load 65 (.tmp 82), none⟩,
 ⟨some 84, .nilCheck (.tmp 83), none⟩,
 ⟨some 85, .fieldAddr 83 (.tmp 84) 0, none⟩,
 ⟨some 86, .load 80 (.tmp 85), none⟩,
 ⟨some 87, .call ⟨.builtin .len, #[.tmp 86], #[80]⟩, none⟩,
 ⟨some 88, .binOp .leq 3 (.tmp 78) (.tmp 87) 3, none⟩])
 (.cond (.tmp 88)
 .skip
 (.exit 2)))
 (.seq (.block 3 (.seq (.ops [⟨some 92, .fieldAddr 29 (.tmp 2) 0, none⟩,
 ⟨some 93, .load 25 (.tmp 92), none⟩,
 ⟨some 94, .move (.tmp 12), none⟩,
 ⟨some 95, .call ⟨.value (.func 25), #[.tmp 93, .tmp 94], #[25, 3]⟩, none⟩,
 ⟨some 91, .move (.tmp 95), none⟩,
 ⟨some 96, .extract (.tmp 91) 0, none⟩,
 ⟨some 97, .extract (.tmp 91) 1, none⟩,
 ⟨some 98, .extract (.tmp 91) 2, none⟩,
 ⟨some 13, .assign (.tmp 96), none⟩,
 ⟨some 14, .assign (.tmp 97), none⟩,
 ⟨some 15, .assign (.tmp 98), none⟩])
 (.seq (.ops [⟨some 100, .fieldAddr 29 (.tmp 2) 2, none⟩,
 ⟨some 101, .load 27 (.tmp 100), none⟩,
 ⟨some 102, .move (.tmp 12), none⟩,
 ⟨some 103, .call ⟨.value (.func 37), #[.tmp 101, .tmp 102], #[27, 3]⟩, none⟩,
 ⟨some 99, .move (.tmp 103), none⟩,
 ⟨some 104, .extract (.tmp 99) 0, none⟩,
 ⟨some 105, .extract (.tmp 99) 1, none⟩,
 ⟨some 106, .extract (.tmp 99) 2, none⟩,
 ⟨some 16, .assign (.tmp 104), none⟩,
 ⟨some 17, .assign (.tmp 105), none⟩,
 ⟨some 18, .assign (.tmp 106), none⟩])
 (.seq (.ops [⟨some 107, .move (.tmp 13), none⟩,
 ⟨some 108, .move (.tmp 16), none⟩,
 ⟨some 109, .binOp .neq 3 (.tmp 107) (.tmp 108) 3, none⟩,
 ⟨some 110, .move (.tmp 109), none⟩,
 ⟨some 111, .move (.tmp 14), some (110, false)⟩,
 ⟨some 112, .move (.tmp 17), some (110, false)⟩,
 ⟨some 113, .binOp .neq 3 (.tmp 111) (.tmp 112) 3, some (110, false)⟩,
 ⟨some 114, .pick (.tmp 110) (.const (.bool true)) (.tmp 113), none⟩,
 ⟨some 115, .move (.tmp 114), none⟩,
 ⟨some 116, .move (.tmp 15), some (115, false)⟩,
 ⟨some 117, .move (.tmp 18), some (115, false)⟩,
 ⟨some 118, .binOp .neq 4 (.tmp 116) (.tmp 117) 4, some (115, false)⟩,
 ⟨some 119, .pick (.tmp 115) (.const (.bool true)) (.tmp 118), none⟩])
 (.cond (.tmp 119)
 (.seq (.ops [⟨some 4, .assign (.const (.bool false)), none⟩])
 .ret)
 .skip)))))
 (.ops [⟨some 89, .move (.tmp 12), none⟩,
 ⟨some 90, .binOp .add 3 (.tmp 89) (.const (.int .i64 1)) 3, none⟩,
 ⟨some 12, .assign (.tmp 90), none⟩])))
def ir12 : LC := (.seq (.ops [⟨some 2, .box 29 (.tmp 0), none⟩,
 ⟨some 4, .assign (.const (.bool false)), none⟩])
 (.seq (.seq (.ops [⟨some 5, .assign (.const (.int .i64 (-1))), none⟩])
 (.block 0 (.loop ir12_l0)))
 (.seq (.seq (.ops [⟨some 12, .assign (.const (.int .i64 (-1))), none⟩])
 (.block 2 (.loop ir12_l1)))
 (.seq (.draw [⟨some 120, .fieldAddr 29 (.tmp 2) 0, none⟩,
 ⟨some 121, .load 25 (.tmp 120), none⟩,
 ⟨some 122, .call ⟨.value (.func 38), #[.tmp 121], #[25]⟩, none⟩,
 ⟨some 123, .fieldAddr 29 (.tmp 2) 1, none⟩,
 ⟨some 124, .load 26 (.tmp 123), none⟩,
 ⟨some 125, .binOp .eql 26 (.tmp 122) (.tmp 124) 26, none⟩,
 ⟨some 126, .move (.tmp 125), none⟩,
 ⟨some 127, .fieldAddr 29 (.tmp 2) 1, some (126, true)⟩,
 ⟨some 128, .load 26 (.tmp 127), some (126, true)⟩,
 ⟨some 129, .call ⟨.value (.func 39), #[.tmp 128], #[26]⟩, some (126, true)⟩,
 ⟨some 130, .convert 45 9 (.tmp 129), some (126, true)⟩,
 ⟨some 131, .fieldAddr 29 (.tmp 2) 2, some (126, true)⟩,
 ⟨some 132, .load 27 (.tmp 131), some (126, true)⟩,
 ⟨some 133, .nilCheck (.tmp 132), some (126, true)⟩,
 ⟨some 134, .fieldAddr 68 (.tmp 133) 0, some (126, true)⟩,
 ⟨some 135, .load 65 (.tmp 134), some (126, true)⟩,
 ⟨some 136, .call ⟨.value (.func 40), #[.tmp 135], #[65]⟩, some (126, true)⟩,
 ⟨some 137, .convert 45 9 (.tmp 136), some (126, true)⟩,
 ⟨some 138, .binOp .eql 9 (.tmp 130) (.tmp 137) 9, some (126, true)⟩,
 ⟨some 139, .pick (.tmp 126) (.tmp 138) (.const (.bool false)), none⟩,
 ⟨some 4, .assign (.tmp 139), none⟩] [(2, 3), (2, 4), (9, 11), (9, 12), (9, 13), (9, 14), (9, 15), (10, 16)])
 .ret))))
theorem ir12_eq : (Try.f12.body.map low, Try.f12.ntmps, Try.f12.results.toList) = (some ir12, 140, [.tmp 4]) := by kernel_rfl
def ir25_l0 : LC := (.seq (.seq (.ops [⟨some 9, .move (.tmp 0), none⟩,
 ⟨some 10, .call ⟨.value (.func 44), #[.tmp 9], #[25]⟩, none⟩,
 ⟨some 11, .move (.tmp 10), none⟩,
 ⟨some 12, .move (.tmp 7), some (11, true)⟩,
 ⟨some 13, .move (.tmp 0), some (11, true)⟩,
 ⟨some 14, .nilCheck (.tmp 13), some (11, true)⟩,
 ⟨some 15, .fieldAddr 60 (.tmp 14) 2, some (11, true)⟩,
 ⟨some 16, .load 3 (.tmp 15), some (11, true)⟩,
 ⟨some 17, .binOp .lss 3 (.tmp 12) (.tmp 16) 3, some (11, true)⟩,
 ⟨some 18, .pick (.tmp 11) (.tmp 17) (.const (.bool false)), none⟩])
 (.cond (.tmp 18)
 .skip
 (.exit 0)))
 (.seq (.block 1 (.seq (.ops [⟨some 21, .move (.tmp 0), none⟩,
 ⟨some 22, .move (.tmp 7), none⟩,
 ⟨some 23, .nilCheck (.tmp 21), none⟩,
 ⟨some 24, .fieldAddr 60 (.tmp 23) 1, none⟩,
 ⟨some 25, .indexAddr 58 (.tmp 24) (.tmp 22), none⟩,
 ⟨some 26, .load 57 (.tmp 25), none⟩,
 ⟨some 8, .alloc 57, none⟩,
 ⟨none, .store 57 (.tmp 8) (.tmp 26), none⟩])
 (.seq (.ops [⟨some 27, .move (.tmp 1), none⟩,
 ⟨some 28, .fieldAddr 57 (.tmp 8) 0, none⟩,
 ⟨some 29, .load 3 (.tmp 28), none⟩,
 ⟨some 30, .binOp .geq 3 (.tmp 27) (.tmp 29) 3, none⟩,
 ⟨some 31, .move (.tmp 30), none⟩,
 ⟨some 32, .move (.tmp 1), some (31, true)⟩,
 ⟨some 33, .fieldAddr 57 (.tmp 8) 0, some (31, true)⟩,
 ⟨some 34, .load 3 (.tmp 33), some (31, true)⟩,
 ⟨some 35, .fieldAddr 57 (.tmp 8) 1, some (31, true)⟩,
 ⟨some 36, .load 3 (.tmp 35), some (31, true)⟩,
 ⟨some 37, .binOp .add 3 (.tmp 34) (.tmp 36) 3, some (31, true)⟩,
 ⟨some 38, .binOp .lss 3 (.tmp 32) (.tmp 37) 3, some (31, true)⟩,
 ⟨some 39, .pick (.tmp 31) (.tmp 38) (.const (.bool false)), none⟩])
 (.cond (.tmp 39)
 (.seq (.draw [⟨some 40, .move (.tmp 7), none⟩,
 ⟨some 41, .move (.tmp 1), none⟩,
 ⟨some 42, .fieldAddr 57 (.tmp 8) 0, none⟩,
 ⟨some 43, .load 3 (.tmp 42), none⟩,
 ⟨some 44, .binOp .sub 3 (.tmp 41) (.tmp 43) 3, none⟩,
 ⟨some 4, .assign (.tmp 40), none⟩,
 ⟨some 5, .assign (.tmp 44), none⟩,
 ⟨some 6, .assign (.const (.bool true)), none⟩] [])
 .ret)
 .skip))))
 (.ops [⟨some 19, .move (.tmp 7), none⟩,
 ⟨some 20, .binOp .add 3 (.tmp 19) (.const (.int .i64 1)) 3, none⟩,
 ⟨some 7, .assign (.tmp 20), none⟩])))
def ir25 : LC := (.seq (.ops [⟨some 4, .assign (.const (.int .i64 0)), none⟩,
 ⟨some 5, .assign (.const (.int .i64 0)), none⟩,
 ⟨some 6, .assign (.const (.bool false)), none⟩])
 (.seq (.seq (.ops [⟨some 7, .assign (.const (.int .i64 0)), none⟩])
 (.block 0 (.loop ir25_l0)))
 (.seq (.ops [⟨some 4, .assign (.const (.int .i64 0)), none⟩,
 ⟨some 5, .assign (.const (.int .i64 0)), none⟩,
 ⟨some 6, .assign (.const (.bool false)), none⟩])
 .ret)))
theorem ir25_eq : (Try.f25.body.map low, Try.f25.ntmps, Try.f25.results.toList) = (some ir25, 45, [.tmp 4, .tmp 5, .tmp 6]) := by kernel_rfl
def ir30_l0 : LC := (.seq (.seq (.ops [⟨some 15, .move (.tmp 4), none⟩,
 ⟨some 16, .move (.tmp 0), none⟩,
 ⟨some 17, .binOp .lss 3 (.tmp 15) (.tmp 16) 3, none⟩])
 (.cond (.tmp 17)
 .skip
 (.exit 0)))
 (.seq (.block 1 (.draw [⟨some 20, .move (.tmp 3), none⟩,
 ⟨some 21, .move (.tmp 3), none⟩,
 ⟨some 22, .nilCheck (.tmp 21), none⟩,
 ⟨some 23, .fieldAddr 83 (.tmp 22) 0, none⟩,
 ⟨some 24, .load 80 (.tmp 23), none⟩,
 ⟨some 25, .makeSlice 45 (.const (.int .i64 128)) (.const (.int .i64 128)), none⟩,
 ⟨some 26, .buildSlice 80 1 #[(0, .tmp 25)], none⟩,
 ⟨some 27, .call ⟨.builtin .append, #[.tmp 24, .tmp 26], #[80, 80]⟩, none⟩,
 ⟨some 28, .nilCheck (.tmp 20), none⟩,
 ⟨some 29, .fieldAddr 83 (.tmp 28) 0, none⟩,
 ⟨none, .store 80 (.tmp 29) (.tmp 27), none⟩] [(0, 5), (1, 5), (2, 5), (3, 5), (4, 5), (0, 6), (1, 6), (2, 6), (3, 6), (4, 6), (0, 7)]))
 (.ops [⟨some 18, .move (.tmp 4), none⟩,
 ⟨some 19, .binOp .add 3 (.tmp 18) (.const (.int .i64 1)) 3, none⟩,
 ⟨some 4, .assign (.tmp 19), none⟩])))
def ir30 : LC := (.seq (.ops [⟨some 2, .assign (.const (.pointer none)), none⟩])
 (.seq (.seq (.ops [⟨some 5, .move (.tmp 0), none⟩,
 ⟨some 6, .binOp .lss 3 (.tmp 5) (.const (.int .i64 1)) 3, none⟩,
 ⟨some 7, .move (.tmp 6), none⟩,
 ⟨some 8, .move (.tmp 0), some (7, false)⟩,
 ⟨some 9, .binOp .gtr 3 (.tmp 8) (.const (.int .i64 4096)) 3, some (7, false)⟩,
 ⟨some 10, .pick (.tmp 7) (.const (.bool true)) (.tmp 9), none⟩])
 (.cond (.tmp 10)
 (.seq (.ops [⟨some 2, .assign (.const (.pointer none)), none⟩])
 .ret)
 .skip))
 (.seq (.ops [⟨some 11, .move (.tmp 0), none⟩,
 ⟨some 12, .makeSlice 81 (.tmp 11) (.tmp 11), none⟩,
 ⟨some 13, .build 83 #[(1, .tmp 12)], none⟩,
 ⟨some 14, .box 83 (.tmp 13), none⟩,
 ⟨some 3, .assign (.tmp 14), none⟩])
 (.seq (.seq (.ops [⟨some 4, .assign (.const (.int .i64 0)), none⟩])
 (.block 0 (.loop ir30_l0)))
 (.seq (.ops [⟨some 30, .move (.tmp 3), none⟩,
 ⟨some 2, .assign (.tmp 30), none⟩])
 .ret)))))
theorem ir30_eq : (Try.f30.body.map low, Try.f30.ntmps, Try.f30.results.toList) = (some ir30, 31, [.tmp 2]) := by kernel_rfl
def ir31_l0 : LC := (.seq (.seq (.ops [⟨some 28, .move (.tmp 9), none⟩,
 ⟨some 29, .move (.tmp 1), none⟩,
 ⟨some 30, .call ⟨.builtin .len, #[.tmp 29], #[22]⟩, none⟩,
 ⟨some 31, .binOp .lss 3 (.tmp 28) (.tmp 30) 3, none⟩])
 (.cond (.tmp 31)
 .skip
 (.exit 0)))
 (.seq (.block 1 (.seq (.seq (.ops [⟨some 34, .move (.tmp 1), none⟩,
 ⟨some 35, .move (.tmp 9), none⟩,
 ⟨some 36, .indexAddr 22 (.tmp 34) (.tmp 35), none⟩,
 ⟨some 37, .load 3 (.tmp 36), none⟩,
 ⟨some 38, .binOp .lss 3 (.tmp 37) (.const (.int .i64 0)) 3, none⟩])
 (.cond (.tmp 38)
 (.seq (.ops [⟨some 4, .assign (.const (.pointer none)), none⟩,
 ⟨some 5, .assign (.const (.int .i64 2)), none⟩])
 .ret)
 .skip))
 (.seq (.seq (.ops [⟨some 39, .move (.tmp 1), none⟩,
 ⟨some 40, .move (.tmp 9), none⟩,
 ⟨some 41, .indexAddr 22 (.tmp 39) (.tmp 40), none⟩,
 ⟨some 42, .load 3 (.tmp 41), none⟩,
 ⟨some 43, .move (.tmp 6), none⟩,
 ⟨some 44, .binOp .gtr 3 (.tmp 42) (.tmp 43) 3, none⟩])
 (.cond (.tmp 44)
 (.seq (.ops [⟨some 7, .assign (.const (.bool true)), none⟩])
 (.exit 1))
 .skip))
 (.seq (.ops [⟨some 45, .move (.tmp 6), none⟩,
 ⟨some 46, .move (.tmp 1), none⟩,
 ⟨some 47, .move (.tmp 9), none⟩,
 ⟨some 48, .indexAddr 22 (.tmp 46) (.tmp 47), none⟩,
 ⟨some 49, .load 3 (.tmp 48), none⟩,
 ⟨some 50, .binOp .sub 3 (.tmp 45) (.tmp 49) 3, none⟩,
 ⟨some 6, .assign (.tmp 50), none⟩])
 (.seq (.draw [⟨some 51, .move (.tmp 8), none⟩,
 ⟨some 52, .move (.tmp 8), none⟩,
 ⟨some 53, .nilCheck (.tmp 52), none⟩,
 ⟨some 54, .fieldAddr 68 (.tmp 53) 1, none⟩,
 ⟨some 55, .load 22 (.tmp 54), none⟩,
 ⟨some 56, .move (.tmp 1), none⟩,
 ⟨some 57, .move (.tmp 9), none⟩,
 ⟨some 58, .indexAddr 22 (.tmp 56) (.tmp 57), none⟩,
 ⟨some 59, .load 3 (.tmp 58), none⟩,
 ⟨some 60, .buildSlice 22 1 #[(0, .tmp 59)], none⟩,
 ⟨some 61, .call ⟨.builtin .append, #[.tmp 55, .tmp 60], #[22, 22]⟩, none⟩,
 ⟨some 62, .nilCheck (.tmp 51), none⟩,
 ⟨some 63, .fieldAddr 68 (.tmp 62) 1, none⟩,
 ⟨none, .store 22 (.tmp 63) (.tmp 61), none⟩] [(0, 9), (1, 9), (2, 9), (3, 9), (4, 9), (0, 10)])
 (.draw [⟨some 64, .move (.tmp 8), none⟩,
 ⟨some 65, .move (.tmp 8), none⟩,
 ⟨some 66, .nilCheck (.tmp 65), none⟩,
 ⟨some 67, .fieldAddr 68 (.tmp 66) 2, none⟩,
 ⟨some 68, .load 66 (.tmp 67), none⟩,
 ⟨some 69, .move (.tmp 1), none⟩,
 ⟨some 70, .move (.tmp 9), none⟩,
 ⟨some 71, .indexAddr 22 (.tmp 69) (.tmp 70), none⟩,
 ⟨some 72, .load 3 (.tmp 71), none⟩,
 ⟨some 73, .makeSlice 64 (.tmp 72) (.tmp 72), none⟩,
 ⟨some 74, .buildSlice 66 1 #[(0, .tmp 73)], none⟩,
 ⟨some 75, .call ⟨.builtin .append, #[.tmp 68, .tmp 74], #[66, 66]⟩, none⟩,
 ⟨some 76, .nilCheck (.tmp 64), none⟩,
 ⟨some 77, .fieldAddr 68 (.tmp 76) 2, none⟩,
 ⟨none, .store 66 (.tmp 77) (.tmp 75), none⟩] [(0, 9), (1, 9), (2, 9), (3, 9), (4, 9), (0, 10), (1, 10), (2, 10), (3, 10), (4, 10), (0, 11)]))))))
 (.ops [⟨some 32, .move (.tmp 9), none⟩,
 ⟨some 33, .binOp .add 3 (.tmp 32) (.const (.int .i64 1)) 3, none⟩,
 ⟨some 9, .assign (.tmp 33), none⟩])))
def ir31 : LC := (.seq (.ops [⟨some 4, .assign (.const (.pointer none)), none⟩,
 ⟨some 5, .assign (.const (.int .i64 0)), none⟩])
 (.seq (.seq (.ops [⟨some 10, .move (.tmp 0), none⟩,
 ⟨some 11, .binOp .eql 65 (.tmp 10) (.const (.pointer none)) 65, none⟩])
 (.cond (.tmp 11)
 (.seq (.ops [⟨some 4, .assign (.const (.pointer none)), none⟩,
 ⟨some 5, .assign (.const (.int .i64 1)), none⟩])
 .ret)
 .skip))
 (.seq (.seq (.ops [⟨some 12, .move (.tmp 1), none⟩,
 ⟨some 13, .call ⟨.builtin .len, #[.tmp 12], #[22]⟩, none⟩,
 ⟨some 14, .binOp .eql 3 (.tmp 13) (.const (.int .i64 0)) 3, none⟩,
 ⟨some 15, .move (.tmp 14), none⟩,
 ⟨some 16, .move (.tmp 1), some (15, false)⟩,
 ⟨some 17, .call ⟨.builtin .len, #[.tmp 16], #[22]⟩, some (15, false)⟩,
 ⟨some 18, .binOp .gtr 3 (.tmp 17) (.const (.int .i64 8)) 3, some (15, false)⟩,
 ⟨some 19, .pick (.tmp 15) (.const (.bool true)) (.tmp 18), none⟩])
 (.cond (.tmp 19)
 (.seq (.ops [⟨some 4, .assign (.const (.pointer none)), none⟩,
 ⟨some 5, .assign (.const (.int .i64 2)), none⟩])
 .ret)
 .skip))
 (.seq (.ops [⟨some 20, .move (.tmp 0), none⟩,
 ⟨some 21, .nilCheck (.tmp 20), none⟩,
 ⟨some 22, .fieldAddr 83 (.tmp 21) 0, none⟩,
 ⟨some 23, .load 80 (.tmp 22), none⟩,
 ⟨some 24, .call ⟨.builtin .len, #[.tmp 23], #[80]⟩, none⟩,
 ⟨some 6, .assign (.tmp 24), none⟩])
 (.seq (.ops [⟨some 7, .assign (.const (.bool false)), none⟩])
 (.seq (.ops [⟨some 25, .move (.tmp 0), none⟩,
 ⟨some 26, .build 68 #[(0, .tmp 25)], none⟩,
 ⟨some 27, .box 68 (.tmp 26), none⟩,
 ⟨some 8, .assign (.tmp 27), none⟩])
 (.seq (.seq (.ops [⟨some 9, .assign (.const (.int .i64 0)), none⟩])
 (.block 0 (.loop ir31_l0)))
 (.seq (.seq (.ops [⟨some 78, .move (.tmp 7), none⟩])
 (.cond (.tmp 78)
 (.seq (.ops [⟨some 4, .assign (.const (.pointer none)), none⟩,
 ⟨some 5, .assign (.const (.int .i64 5)), none⟩])
 .ret)
 .skip))
 (.seq (.ops [⟨some 79, .move (.tmp 8), none⟩,
 ⟨some 4, .assign (.tmp 79), none⟩,
 ⟨some 5, .assign (.const (.int .i64 0)), none⟩])
 .ret)))))))))
theorem ir31_eq : (Try.f31.body.map low, Try.f31.ntmps, Try.f31.results.toList) = (some ir31, 80, [.tmp 4, .tmp 5]) := by kernel_rfl
def ir33_l0 : LC := (.seq (.seq (.ops [⟨some 13, .move (.tmp 8), none⟩,
 ⟨some 14, .move (.tmp 1), none⟩,
 ⟨some 15, .binOp .lss 3 (.tmp 13) (.tmp 14) 3, none⟩])
 (.cond (.tmp 15)
 .skip
 (.exit 0)))
 (.seq (.block 1 (.ops [⟨some 18, .move (.tmp 7), none⟩,
 ⟨some 19, .move (.tmp 0), none⟩,
 ⟨some 20, .nilCheck (.tmp 19), none⟩,
 ⟨some 21, .fieldAddr 68 (.tmp 20) 1, none⟩,
 ⟨some 22, .load 22 (.tmp 21), none⟩,
 ⟨some 23, .move (.tmp 8), none⟩,
 ⟨some 24, .indexAddr 22 (.tmp 22) (.tmp 23), none⟩,
 ⟨some 25, .load 3 (.tmp 24), none⟩,
 ⟨some 26, .binOp .add 3 (.tmp 18) (.tmp 25) 3, none⟩,
 ⟨some 7, .assign (.tmp 26), none⟩]))
 (.ops [⟨some 16, .move (.tmp 8), none⟩,
 ⟨some 17, .binOp .add 3 (.tmp 16) (.const (.int .i64 1)) 3, none⟩,
 ⟨some 8, .assign (.tmp 17), none⟩])))
def ir33 : LC := (.seq (.ops [⟨some 4, .assign (.const (.int .i64 0)), none⟩,
 ⟨some 5, .assign (.const (.int .i64 0)), none⟩,
 ⟨some 6, .assign (.const (.bool false)), none⟩])
 (.seq (.seq (.ops [⟨some 9, .move (.tmp 0), none⟩,
 ⟨some 10, .move (.tmp 1), none⟩,
 ⟨some 11, .call ⟨.value (.func 65), #[.tmp 9, .tmp 10], #[27, 3]⟩, none⟩,
 ⟨some 12, .unOp .not 4 (.tmp 11), none⟩])
 (.cond (.tmp 12)
 (.seq (.ops [⟨some 4, .assign (.const (.int .i64 0)), none⟩,
 ⟨some 5, .assign (.const (.int .i64 0)), none⟩,
 ⟨some 6, .assign (.const (.bool false)), none⟩])
 .ret)
 .skip))
 (.seq (.ops [⟨some 7, .assign (.const (.int .i64 0)), none⟩])
 (.seq (.seq (.ops [⟨some 8, .assign (.const (.int .i64 0)), none⟩])
 (.block 0 (.loop ir33_l0)))
 (.seq (.draw [⟨some 27, .move (.tmp 7), none⟩,
 ⟨some 28, .move (.tmp 0), none⟩,
 ⟨some 29, .nilCheck (.tmp 28), none⟩,
 ⟨some 30, .fieldAddr 68 (.tmp 29) 1, none⟩,
 ⟨some 31, .load 22 (.tmp 30), none⟩,
 ⟨some 32, .move (.tmp 1), none⟩,
 ⟨some 33, .indexAddr 22 (.tmp 31) (.tmp 32), none⟩,
 ⟨some 34, .load 3 (.tmp 33), none⟩,
 ⟨some 4, .assign (.tmp 27), none⟩,
 ⟨some 5, .assign (.tmp 34), none⟩,
 ⟨some 6, .assign (.const (.bool true)), none⟩] [])
 .ret)))))
theorem ir33_eq : (Try.f33.body.map low, Try.f33.ntmps, Try.f33.results.toList) = (some ir33, 35, [.tmp 4, .tmp 5, .tmp 6]) := by kernel_rfl
def ir34 : LC := (.seq (.ops [⟨some 4, .assign (.const (.int .i64 0)), none⟩])
 (.seq (.ops [⟨some 9, .move (.tmp 0), none⟩,
 ⟨some 10, .move (.tmp 1), none⟩,
 ⟨some 11, .call ⟨.value (.func 11), #[.tmp 9, .tmp 10], #[25, 3]⟩, none⟩,
 ⟨some 8, .move (.tmp 11), none⟩,
 ⟨some 12, .extract (.tmp 8) 0, none⟩,
 ⟨some 13, .extract (.tmp 8) 1, none⟩,
 ⟨some 14, .extract (.tmp 8) 2, none⟩,
 ⟨some 5, .assign (.tmp 12), none⟩,
 ⟨some 6, .assign (.tmp 13), none⟩,
 ⟨some 7, .assign (.tmp 14), none⟩])
 (.seq (.ops [⟨some 15, .move (.tmp 6), none⟩,
 ⟨some 4, .assign (.tmp 15), none⟩])
 .ret)))
theorem ir34_eq : (Try.f34.body.map low, Try.f34.ntmps, Try.f34.results.toList) = (some ir34, 16, [.tmp 4]) := by kernel_rfl
def ir35_l0 : LC := (.seq (.seq (.ops [⟨some 7, .move (.tmp 0), none⟩,
 ⟨some 8, .move (.tmp 1), none⟩,
 ⟨some 9, .call ⟨.value (.func 65), #[.tmp 7, .tmp 8], #[27, 3]⟩, none⟩,
 ⟨some 10, .move (.tmp 9), none⟩,
 ⟨some 11, .move (.tmp 6), some (10, true)⟩,
 ⟨some 12, .move (.tmp 0), some (10, true)⟩,
 ⟨some 13, .nilCheck (.tmp 12), some (10, true)⟩,
 ⟨some 14, .fieldAddr 68 (.tmp 13) 2, some (10, true)⟩,
 ⟨some 15, .load 66 (.tmp 14), some (10, true)⟩,
 ⟨some 16, .move (.tmp 1), some (10, true)⟩,
 ⟨some 17, .indexAddr 66 (.tmp 15) (.tmp 16), some (10, true)⟩,
 ⟨some 18, .load 64 (.tmp 17), some (10, true)⟩,
 ⟨some 19, .call ⟨.builtin .len, #[.tmp 18], #[64]⟩, some (10, true)⟩,
 ⟨some 20, .binOp .lss 3 (.tmp 11) (.tmp 19) 3, some (10, true)⟩,
 ⟨some 21, .pick (.tmp 10) (.tmp 20) (.const (.bool false)), none⟩])
 (.cond (.tmp 21)
 .skip
 (.exit 0)))
 (.seq (.block 1 (.seq (.ops [⟨some 24, .move (.tmp 0), none⟩,
 ⟨some 25, .nilCheck (.tmp 24), none⟩,
 ⟨some 26, .fieldAddr 68 (.tmp 25) 2, none⟩,
 ⟨some 27, .load 66 (.tmp 26), none⟩,
 ⟨some 28, .move (.tmp 1), none⟩,
 ⟨some 29, .indexAddr 66 (.tmp 27) (.tmp 28), none⟩,
 ⟨some 30, .load 64 (.tmp 29), none⟩,
 ⟨some 31, .move (.tmp 6), none⟩,
 ⟨some 32, .indexAddr 64 (.tmp 30) (.tmp 31), none⟩,
 ⟨some 33, .load 4 (.tmp 32), none⟩])
 (.cond (.tmp 33)
 (.ops [⟨some 34, .move (.tmp 5), none⟩,
 ⟨some 35, .binOp .add 3 (.tmp 34) (.const (.int .i64 1)) 3, none⟩,
 ⟨some 5, .assign (.tmp 35), none⟩])
 .skip)))
 (.ops [⟨some 22, .move (.tmp 6), none⟩,
 ⟨some 23, .binOp .add 3 (.tmp 22) (.const (.int .i64 1)) 3, none⟩,
 ⟨some 6, .assign (.tmp 23), none⟩])))
def ir35 : LC := (.seq (.ops [⟨some 4, .assign (.const (.int .i64 0)), none⟩])
 (.seq (.ops [⟨some 5, .assign (.const (.int .i64 0)), none⟩])
 (.seq (.seq (.ops [⟨some 6, .assign (.const (.int .i64 0)), none⟩])
 (.block 0 (.loop ir35_l0)))
 (.seq (.ops [⟨some 36, .move (.tmp 5), none⟩,
 ⟨some 4, .assign (.tmp 36), none⟩])
 .ret))))
theorem ir35_eq : (Try.f35.body.map low, Try.f35.ntmps, Try.f35.results.toList) = (some ir35, 37, [.tmp 4]) := by kernel_rfl
noncomputable def rc36 (i : Nat) : Code × Code := (((Try.f36.body.map rangesOf).getD [])[i]?).getD (.skip, .skip)
noncomputable def ir36_l0 : LC := (.seq (.seq (.ops [⟨some 22, .load 3 (.tmp 9), none⟩,
 ⟨some 23, .binOp .lss 3 (.tmp 22) (.const (.int .i64 2)) 3, none⟩])
 (.cond (.tmp 23)
 .skip
 (.exit 0)))
 (.seq (.block 1 (.seq (.ops [⟨some 10, .alloc 3, none⟩,
 ⟨none, .store 3 (.tmp 10) (.const (.int .i64 0)), none⟩])
 (.seq (.seq (.ops [⟨some 26, .move (.tmp 7), none⟩])
 (.block 2 (.range (.tmp 26) #[27] (rc36 0).1 (rc36 0).2)))
 (.seq (.ops [⟨some 49, .load 3 (.tmp 9), none⟩,
 ⟨some 50, .binOp .eql 3 (.tmp 49) (.const (.int .i64 1)) 3, none⟩,
 ⟨some 51, .move (.tmp 50), none⟩,
 ⟨some 52, .load 3 (.tmp 10), some (51, true)⟩,
 ⟨some 53, .load 121 (.tmp 8), some (51, true)⟩,
 ⟨some 54, .call ⟨.builtin .len, #[.tmp 53], #[121]⟩, some (51, true)⟩,
 ⟨some 55, .binOp .neq 3 (.tmp 52) (.tmp 54) 3, some (51, true)⟩,
 ⟨some 56, .pick (.tmp 51) (.tmp 55) (.const (.bool false)), none⟩,
 ⟨some 57, .move (.tmp 56), none⟩,
 ⟨some 58, .load 3 (.tmp 9), some (57, false)⟩,
 ⟨some 59, .binOp .eql 3 (.tmp 58) (.const (.int .i64 0)) 3, some (57, false)⟩,
 ⟨some 60, .move (.tmp 59), some (57, false)⟩,
 ⟨some 61, .load 3 (.tmp 10), some (60, true)⟩,
 ⟨some 62, .load 121 (.tmp 8), some (60, true)⟩,
 ⟨some 63, .call ⟨.builtin .len, #[.tmp 62], #[121]⟩, some (60, true)⟩,
 ⟨some 64, .binOp .neq 3 (.tmp 61) (.tmp 63) 3, some (60, true)⟩,
 ⟨some 65, .pick (.tmp 60) (.tmp 64) (.const (.bool false)), some (57, false)⟩,
 ⟨some 66, .move (.tmp 65), some (57, false)⟩,
 ⟨some 67, .load 3 (.tmp 10), some (66, true)⟩,
 ⟨some 68, .load 3 (.tmp 5), some (66, true)⟩,
 ⟨some 69, .binOp .neq 3 (.tmp 67) (.tmp 68) 3, some (66, true)⟩,
 ⟨some 70, .pick (.tmp 66) (.tmp 69) (.const (.bool false)), some (57, false)⟩,
 ⟨some 71, .pick (.tmp 57) (.const (.bool true)) (.tmp 70), none⟩])
 (.cond (.tmp 71)
 (.seq (.ops [⟨none, .store 4 (.tmp 6) (.const (.bool false)), none⟩])
 .ret)
 .skip)))))
 (.seq (.seq (.ops [⟨some 72, .load 3 (.tmp 9), none⟩])
 (.ops [⟨some 9, .alloc 3, none⟩,
 ⟨none, .store 3 (.tmp 9) (.tmp 72), none⟩]))
 (.ops [⟨some 24, .load 3 (.tmp 9), none⟩,
 ⟨some 25, .binOp .add 3 (.tmp 24) (.const (.int .i64 1)) 3, none⟩,
 ⟨none, .store 3 (.tmp 9) (.tmp 25), none⟩]))))
noncomputable def ir36_a0 : LC := (.ops [⟨some 11, .alloc 118, none⟩,
 ⟨none, .store 118 (.tmp 11) (.tmp 27), none⟩])
noncomputable def ir36_b0 : LC := (.block 3 (.seq (.seq (.draw [⟨some 28, .load 3 (.tmp 10), none⟩,
 ⟨some 29, .load 121 (.tmp 8), none⟩,
 ⟨some 30, .call ⟨.builtin .len, #[.tmp 29], #[121]⟩, none⟩,
 ⟨some 31, .binOp .geq 3 (.tmp 28) (.tmp 30) 3, none⟩,
 ⟨some 32, .move (.tmp 31), none⟩,
 ⟨some 33, .load 118 (.tmp 11), some (32, false)⟩,
 ⟨some 34, .load 121 (.tmp 8), some (32, false)⟩,
 ⟨some 35, .load 3 (.tmp 10), some (32, false)⟩,
 ⟨some 36, .indexAddr 121 (.tmp 34) (.tmp 35), some (32, false)⟩,
 ⟨some 37, .load 118 (.tmp 36), some (32, false)⟩,
 ⟨some 38, .binOp .neq 118 (.tmp 33) (.tmp 37) 118, some (32, false)⟩,
 ⟨some 39, .pick (.tmp 32) (.const (.bool true)) (.tmp 38), none⟩] [])
 (.cond (.tmp 39)
 (.seq (.ops [⟨none, .store 4 (.tmp 6) (.const (.bool false)), none⟩])
 .ret)
 .skip))
 (.seq (.ops [⟨some 40, .load 3 (.tmp 10), none⟩,
 ⟨some 41, .binOp .add 3 (.tmp 40) (.const (.int .i64 1)) 3, none⟩,
 ⟨none, .store 3 (.tmp 10) (.tmp 41), none⟩])
 (.seq (.ops [⟨some 42, .load 3 (.tmp 9), none⟩,
 ⟨some 43, .binOp .eql 3 (.tmp 42) (.const (.int .i64 0)) 3, none⟩,
 ⟨some 44, .move (.tmp 43), none⟩,
 ⟨some 45, .load 3 (.tmp 10), some (44, true)⟩,
 ⟨some 46, .load 3 (.tmp 5), some (44, true)⟩,
 ⟨some 47, .binOp .eql 3 (.tmp 45) (.tmp 46) 3, some (44, true)⟩,
 ⟨some 48, .pick (.tmp 44) (.tmp 47) (.const (.bool false)), none⟩])
 (.cond (.tmp 48)
 (.exit 2)
 .skip)))))
theorem ir36_a0_eq : low (rc36 0).1 = ir36_a0 := by kernel_rfl
theorem ir36_b0_eq : low (rc36 0).2 = ir36_b0 := by kernel_rfl
noncomputable def ir36 : LC := (.seq (.ops [⟨some 3, .box 29 (.tmp 0), none⟩,
 ⟨some 5, .box 3 (.tmp 2), none⟩,
 ⟨some 6, .alloc 4, none⟩])
 (.seq (.draw [⟨some 12, .fieldAddr 29 (.tmp 3) 0, none⟩,
 ⟨some 13, .load 25 (.tmp 12), none⟩,
 ⟨some 14, .move (.tmp 1), none⟩,
 ⟨some 15, .call ⟨.value (.func 48), #[.tmp 13, .tmp 14], #[25, 3]⟩, none⟩,
 ⟨some 16, .fieldAddr 29 (.tmp 3) 2, none⟩,
 ⟨some 17, .load 27 (.tmp 16), none⟩,
 ⟨some 18, .move (.tmp 1), none⟩,
 ⟨some 19, .call ⟨.value (.func 66), #[.tmp 17, .tmp 18], #[27, 3]⟩, none⟩,
 ⟨some 8, .alloc 121, none⟩,
 ⟨some 7, .assign (.tmp 15), none⟩,
 ⟨none, .store 121 (.tmp 8) (.tmp 19), none⟩] [(3, 4), (3, 5), (3, 6), (0, 8), (1, 8), (2, 8), (3, 8), (4, 8), (5, 8), (6, 8), (7, 8)])
 (.seq (.seq (.ops [⟨some 20, .move (.tmp 7), none⟩,
 ⟨some 21, .binOp .eql 98 (.tmp 20) (.const .nilFunc) 98, none⟩])
 (.cond (.tmp 21)
 (.seq (.ops [⟨none, .store 4 (.tmp 6) (.const (.bool false)), none⟩])
 .ret)
 .skip))
 (.seq (.seq (.ops [⟨some 9, .alloc 3, none⟩,
 ⟨none, .store 3 (.tmp 9) (.const (.int .i64 0)), none⟩])
 (.block 0 (.loop ir36_l0)))
 (.seq (.ops [⟨none, .store 4 (.tmp 6) (.const (.bool true)), none⟩])
 .ret)))))
theorem ir36_eq : (Try.f36.body.map low, Try.f36.ntmps, Try.f36.results.toList) = (some ir36, 73, [.cell 6 4]) := by kernel_rfl
def ir37_l0 : LC := (.seq (.seq (.ops [⟨some 11, .move (.tmp 0), none⟩,
 ⟨some 12, .binOp .neq 27 (.tmp 11) (.const (.pointer none)) 27, none⟩,
 ⟨some 13, .move (.tmp 12), none⟩,
 ⟨some 14, .move (.tmp 7), some (13, true)⟩,
 ⟨some 15, .move (.tmp 0), some (13, true)⟩,
 ⟨some 16, .nilCheck (.tmp 15), some (13, true)⟩,
 ⟨some 17, .fieldAddr 68 (.tmp 16) 1, some (13, true)⟩,
 ⟨some 18, .load 22 (.tmp 17), some (13, true)⟩,
 ⟨some 19, .call ⟨.builtin .len, #[.tmp 18], #[22]⟩, some (13, true)⟩,
 ⟨some 20, .binOp .lss 3 (.tmp 14) (.tmp 19) 3, some (13, true)⟩,
 ⟨some 21, .pick (.tmp 13) (.tmp 20) (.const (.bool false)), none⟩])
 (.cond (.tmp 21)
 .skip
 (.exit 0)))
 (.seq (.block 1 (.seq (.ops [⟨some 25, .move (.tmp 0), none⟩,
 ⟨some 26, .move (.tmp 7), none⟩,
 ⟨some 27, .call ⟨.value (.func 33), #[.tmp 25, .tmp 26], #[27, 3]⟩, none⟩,
 ⟨some 24, .move (.tmp 27), none⟩,
 ⟨some 28, .extract (.tmp 24) 0, none⟩,
 ⟨some 29, .extract (.tmp 24) 1, none⟩,
 ⟨some 30, .extract (.tmp 24) 2, none⟩,
 ⟨some 8, .assign (.tmp 28), none⟩,
 ⟨some 9, .assign (.tmp 29), none⟩,
 ⟨some 10, .assign (.tmp 30), none⟩])
 (.seq (.ops [⟨some 31, .move (.tmp 1), none⟩,
 ⟨some 32, .move (.tmp 8), none⟩,
 ⟨some 33, .binOp .geq 3 (.tmp 31) (.tmp 32) 3, none⟩,
 ⟨some 34, .move (.tmp 33), none⟩,
 ⟨some 35, .move (.tmp 1), some (34, true)⟩,
 ⟨some 36, .move (.tmp 8), some (34, true)⟩,
 ⟨some 37, .move (.tmp 9), some (34, true)⟩,
 ⟨some 38, .binOp .add 3 (.tmp 36) (.tmp 37) 3, some (34, true)⟩,
 ⟨some 39, .binOp .lss 3 (.tmp 35) (.tmp 38) 3, some (34, true)⟩,
 ⟨some 40, .pick (.tmp 34) (.tmp 39) (.const (.bool false)), none⟩])
 (.cond (.tmp 40)
 (.seq (.ops [⟨some 41, .move (.tmp 7), none⟩,
 ⟨some 42, .move (.tmp 1), none⟩,
 ⟨some 43, .move (.tmp 8), none⟩,
 ⟨some 44, .binOp .sub 3 (.tmp 42) (.tmp 43) 3, none⟩,
 ⟨some 4, .assign (.tmp 41), none⟩,
 ⟨some 5, .assign (.tmp 44), none⟩,
 ⟨some 6, .assign (.const (.bool true)), none⟩])
 .ret)
 .skip))))
 (.ops [⟨some 22, .move (.tmp 7), none⟩,
 ⟨some 23, .binOp .add 3 (.tmp 22) (.const (.int .i64 1)) 3, none⟩,
 ⟨some 7, .assign (.tmp 23), none⟩])))
def ir37 : LC := (.seq (.ops [⟨some 4, .assign (.const (.int .i64 0)), none⟩,
 ⟨some 5, .assign (.const (.int .i64 0)), none⟩,
 ⟨some 6, .assign (.const (.bool false)), none⟩])
 (.seq (.seq (.ops [⟨some 7, .assign (.const (.int .i64 0)), none⟩])
 (.block 0 (.loop ir37_l0)))
 (.seq (.ops [⟨some 4, .assign (.const (.int .i64 0)), none⟩,
 ⟨some 5, .assign (.const (.int .i64 0)), none⟩,
 ⟨some 6, .assign (.const (.bool false)), none⟩])
 .ret)))
theorem ir37_eq : (Try.f37.body.map low, Try.f37.ntmps, Try.f37.results.toList) = (some ir37, 45, [.tmp 4, .tmp 5, .tmp 6]) := by kernel_rfl
def ir39_l0 : LC := (.seq (.ops [⟨some 21, .binOp .lss 3 (.tmp 20) (.tmp 19) 3, none⟩])
 (.seq (.cond (.tmp 21)
 .skip
 (.exit 0))
 (.seq (.block 1 (.seq (.ops [⟨some 22, .move (.tmp 20), none⟩,
 ⟨some 4, .assign (.tmp 22), none⟩])
 (.ops [⟨some 23, .move (.tmp 3), none⟩,
 ⟨some 24, .move (.tmp 0), none⟩,
 ⟨some 25, .nilCheck (.tmp 24), none⟩,
 ⟨some 26, .fieldAddr 88 (.tmp 25) 0, none⟩,
 ⟨some 27, .load 85 (.tmp 26), none⟩,
 ⟨some 28, .move (.tmp 4), none⟩,
 ⟨some 29, .indexAddr 85 (.tmp 27) (.tmp 28), none⟩,
 ⟨some 30, .slice 113 (.tmp 29) none none none, none⟩,
 ⟨some 31, .call ⟨.builtin .append, #[.tmp 23, .tmp 30], #[45, 45]⟩, none⟩,
 ⟨some 3, .assign (.tmp 31), none⟩])))
 (.ops [⟨some 32, .binOp .add 3 (.tmp 20) (.const (.int .i64 1)) 3, none⟩,
 ⟨some 20, .move (.tmp 32), none⟩]))))
def ir39 : LC := (.seq (.ops [⟨some 2, .assign (.const (.slice none 0 0)), none⟩])
 (.seq (.seq (.ops [⟨some 5, .move (.tmp 0), none⟩,
 ⟨some 6, .call ⟨.value (.func 58), #[.tmp 5], #[26]⟩, none⟩,
 ⟨some 7, .unOp .not 4 (.tmp 6), none⟩])
 (.cond (.tmp 7)
 (.seq (.ops [⟨some 2, .assign (.const (.slice none 0 0)), none⟩])
 .ret)
 .skip))
 (.seq (.ops [⟨some 8, .move (.tmp 0), none⟩,
 ⟨some 9, .nilCheck (.tmp 8), none⟩,
 ⟨some 10, .fieldAddr 88 (.tmp 9) 0, none⟩,
 ⟨some 11, .load 85 (.tmp 10), none⟩,
 ⟨some 12, .call ⟨.builtin .len, #[.tmp 11], #[85]⟩, none⟩,
 ⟨some 13, .binOp .mul 3 (.tmp 12) (.const (.int .i64 128)) 3, none⟩,
 ⟨some 14, .makeSlice 45 (.const (.int .i64 0)) (.tmp 13), none⟩,
 ⟨some 3, .assign (.tmp 14), none⟩])
 (.seq (.seq (.ops [⟨some 15, .move (.tmp 0), none⟩,
 ⟨some 16, .nilCheck (.tmp 15), none⟩,
 ⟨some 17, .fieldAddr 88 (.tmp 16) 0, none⟩,
 ⟨some 18, .load 85 (.tmp 17), none⟩,
 ⟨some 19, .call ⟨.builtin .len, #[.tmp 18], #[85]⟩, none⟩,
 ⟨some 20, .move (.const (.int .i64 0)), none⟩])
 (.block 0 (.loop ir39_l0)))
 (.seq (.ops [⟨some 33, .move (.tmp 3), none⟩,
 ⟨some 2, .assign (.tmp 33), none⟩])
 .ret)))))
theorem ir39_eq : (Try.f39.body.map low, Try.f39.ntmps, Try.f39.results.toList) = (some ir39, 34, [.tmp 2]) := by kernel_rfl
def ir40_l0 : LC := (.seq (.seq (.ops [⟨some 7, .move (.tmp 4), none⟩,
 ⟨some 8, .move (.tmp 0), none⟩,
 ⟨some 9, .nilCheck (.tmp 8), none⟩,
 ⟨some 10, .fieldAddr 83 (.tmp 9) 0, none⟩,
 ⟨some 11, .load 80 (.tmp 10), none⟩,
 ⟨some 12, .call ⟨.builtin .len, #[.tmp 11], #[80]⟩, none⟩,
 ⟨some 13, .binOp .lss 3 (.tmp 7) (.tmp 12) 3, none⟩])
 (.cond (.tmp 13)
 .skip
 (.exit 0)))
 (.seq (.block 1 (.ops [⟨some 16, .move (.tmp 3), none⟩,
 ⟨some 17, .move (.tmp 0), none⟩,
 ⟨some 18, .nilCheck (.tmp 17), none⟩,
 ⟨some 19, .fieldAddr 83 (.tmp 18) 0, none⟩,
 ⟨some 20, .load 80 (.tmp 19), none⟩,
 ⟨some 21, .move (.tmp 4), none⟩,
 ⟨some 22, .indexAddr 80 (.tmp 20) (.tmp 21), none⟩,
 ⟨some 23, .load 45 (.tmp 22), none⟩,
 ⟨some 24, .call ⟨.builtin .append, #[.tmp 16, .tmp 23], #[45, 45]⟩, none⟩,
 ⟨some 3, .assign (.tmp 24), none⟩]))
 (.ops [⟨some 14, .move (.tmp 4), none⟩,
 ⟨some 15, .binOp .add 3 (.tmp 14) (.const (.int .i64 1)) 3, none⟩,
 ⟨some 4, .assign (.tmp 15), none⟩])))
def ir40 : LC := (.seq (.ops [⟨some 2, .assign (.const (.slice none 0 0)), none⟩])
 (.seq (.seq (.ops [⟨some 5, .move (.tmp 0), none⟩,
 ⟨some 6, .binOp .eql 65 (.tmp 5) (.const (.pointer none)) 65, none⟩])
 (.cond (.tmp 6)
 (.seq (.ops [⟨some 2, .assign (.const (.slice none 0 0)), none⟩])
 .ret)
 .skip))
 (.seq (.ops [⟨some 3, .assign (.const (.slice none 0 0)), none⟩])
 (.seq (.seq (.ops [⟨some 4, .assign (.const (.int .i64 0)), none⟩])
 (.block 0 (.loop ir40_l0)))
 (.seq (.ops [⟨some 25, .move (.tmp 3), none⟩,
 ⟨some 2, .assign (.tmp 25), none⟩])
 .ret)))))
theorem ir40_eq : (Try.f40.body.map low, Try.f40.ntmps, Try.f40.results.toList) = (some ir40, 26, [.tmp 2]) := by kernel_rfl
def ir65 : LC := (.seq (.ops [⟨some 4, .assign (.const (.bool false)), none⟩])
 (.seq (.ops [⟨some 5, .move (.tmp 0), none⟩,
 ⟨some 6, .binOp .neq 27 (.tmp 5) (.const (.pointer none)) 27, none⟩,
 ⟨some 7, .move (.tmp 6), none⟩,
 ⟨some 8, .move (.tmp 1), some (7, true)⟩,
 ⟨some 9, .binOp .geq 3 (.tmp 8) (.const (.int .i64 0)) 3, some (7, true)⟩,
 ⟨some 10, .pick (.tmp 7) (.tmp 9) (.const (.bool false)), none⟩,
 ⟨some 11, .move (.tmp 10), none⟩,
 ⟨some 12, .move (.tmp 1), some (11, true)⟩,
 ⟨some 13, .move (.tmp 0), some (11, true)⟩,
 ⟨some 14, .nilCheck (.tmp 13), some (11, true)⟩,
 ⟨some 15, .fieldAddr 68 (.tmp 14) 1, some (11, true)⟩,
 ⟨some 16, .load 22 (.tmp 15), some (11, true)⟩,
 ⟨some 17, .call ⟨.builtin .len, #[.tmp 16], #[22]⟩, some (11, true)⟩,
 ⟨some 18, .binOp .lss 3 (.tmp 12) (.tmp 17) 3, some (11, true)⟩,
 ⟨some 19, .pick (.tmp 11) (.tmp 18) (.const (.bool false)), none⟩,
 ⟨some 4, .assign (.tmp 19), none⟩])
 .ret))
theorem ir65_eq : (Try.f65.body.map low, Try.f65.ntmps, Try.f65.results.toList) = (some ir65, 20, [.tmp 4]) := by kernel_rfl
def ir66_l0 : LC := (.seq (.seq (.ops [⟨some 7, .move (.tmp 0), none⟩,
 ⟨some 8, .move (.tmp 1), none⟩,
 ⟨some 9, .call ⟨.value (.func 65), #[.tmp 7, .tmp 8], #[27, 3]⟩, none⟩,
 ⟨some 10, .move (.tmp 9), none⟩,
 ⟨some 11, .move (.tmp 6), some (10, true)⟩,
 ⟨some 12, .move (.tmp 0), some (10, true)⟩,
 ⟨some 13, .nilCheck (.tmp 12), some (10, true)⟩,
 ⟨some 14, .fieldAddr 68 (.tmp 13) 2, some (10, true)⟩,
 ⟨some 15, .load 66 (.tmp 14), some (10, true)⟩,
 ⟨some 16, .move (.tmp 1), some (10, true)⟩,
 ⟨some 17, .indexAddr 66 (.tmp 15) (.tmp 16), some (10, true)⟩,
 ⟨some 18, .load 64 (.tmp 17), some (10, true)⟩,
 ⟨some 19, .call ⟨.builtin .len, #[.tmp 18], #[64]⟩, some (10, true)⟩,
 ⟨some 20, .binOp .lss 3 (.tmp 11) (.tmp 19) 3, some (10, true)⟩,
 ⟨some 21, .pick (.tmp 10) (.tmp 20) (.const (.bool false)), none⟩])
 (.cond (.tmp 21)
 .skip
 (.exit 0)))
 (.seq (.block 1 (.seq (.seq (.ops [⟨some 24, .move (.tmp 0), none⟩,
 ⟨some 25, .nilCheck (.tmp 24), none⟩,
 ⟨some 26, .fieldAddr 68 (.tmp 25) 2, none⟩,
 ⟨some 27, .load 66 (.tmp 26), none⟩,
 ⟨some 28, .move (.tmp 1), none⟩,
 ⟨some 29, .indexAddr 66 (.tmp 27) (.tmp 28), none⟩,
 ⟨some 30, .load 64 (.tmp 29), none⟩,
 ⟨some 31, .move (.tmp 6), none⟩,
 ⟨some 32, .indexAddr 64 (.tmp 30) (.tmp 31), none⟩,
 ⟨some 33, .load 4 (.tmp 32), none⟩,
 ⟨some 34, .unOp .not 4 (.tmp 33), none⟩])
 (.cond (.tmp 34)
 (.exit 1)
 .skip))
 (.seq (.draw [⟨some 35, .move (.tmp 5), none⟩,
 ⟨some 36, .call ⟨.builtin .len, #[.tmp 35], #[121]⟩, none⟩,
 ⟨some 37, .binOp .gtr 3 (.tmp 36) (.const (.int .i64 0)) 3, none⟩,
 ⟨some 38, .move (.tmp 37), none⟩,
 ⟨some 39, .move (.tmp 5), some (38, true)⟩,
 ⟨some 40, .move (.tmp 5), some (38, true)⟩,
 ⟨some 41, .call ⟨.builtin .len, #[.tmp 40], #[121]⟩, some (38, true)⟩,
 ⟨some 42, .binOp .sub 3 (.tmp 41) (.const (.int .i64 1)) 3, some (38, true)⟩,
 ⟨some 43, .indexAddr 121 (.tmp 39) (.tmp 42), some (38, true)⟩,
 ⟨some 44, .fieldAddr 118 (.tmp 43) 0, some (38, true)⟩,
 ⟨some 45, .load 3 (.tmp 44), some (38, true)⟩,
 ⟨some 46, .move (.tmp 5), some (38, true)⟩,
 ⟨some 47, .move (.tmp 5), some (38, true)⟩,
 ⟨some 48, .call ⟨.builtin .len, #[.tmp 47], #[121]⟩, some (38, true)⟩,
 ⟨some 49, .binOp .sub 3 (.tmp 48) (.const (.int .i64 1)) 3, some (38, true)⟩,
 ⟨some 50, .indexAddr 121 (.tmp 46) (.tmp 49), some (38, true)⟩,
 ⟨some 51, .fieldAddr 118 (.tmp 50) 1, some (38, true)⟩,
 ⟨some 52, .load 3 (.tmp 51), some (38, true)⟩,
 ⟨some 53, .binOp .add 3 (.tmp 45) (.tmp 52) 3, some (38, true)⟩,
 ⟨some 54, .move (.tmp 6), some (38, true)⟩,
 ⟨some 55, .binOp .eql 3 (.tmp 53) (.tmp 54) 3, some (38, true)⟩,
 ⟨some 56, .pick (.tmp 38) (.tmp 55) (.const (.bool false)), none⟩] [])
 (.cond (.tmp 56)
 (.ops [⟨some 57, .move (.tmp 5), none⟩,
 ⟨some 58, .move (.tmp 5), none⟩,
 ⟨some 59, .call ⟨.builtin .len, #[.tmp 58], #[121]⟩, none⟩,
 ⟨some 60, .binOp .sub 3 (.tmp 59) (.const (.int .i64 1)) 3, none⟩,
 ⟨some 61, .indexAddr 121 (.tmp 57) (.tmp 60), none⟩,
 ⟨some 62, .fieldAddr 118 (.tmp 61) 1, none⟩,
 ⟨some 63, .load 3 (.tmp 62), none⟩,
 ⟨some 64, .binOp .add 3 (.tmp 63) (.const (.int .i64 1)) 3, none⟩,
 ⟨some 65, .indexAddr 121 (.tmp 57) (.tmp 60), none⟩,
 ⟨some 66, .fieldAddr 118 (.tmp 65) 1, none⟩,
 ⟨none, .store 3 (.tmp 66) (.tmp 64), none⟩])
 (.ops [⟨some 67, .move (.tmp 5), none⟩,
 ⟨some 68, .move (.tmp 6), none⟩,
 ⟨some 69, .build 118 #[(0, .tmp 68), (1, .const (.int .i64 1))], none⟩,
 ⟨some 70, .buildSlice 121 1 #[(0, .tmp 69)], none⟩,
 ⟨some 71, .call ⟨.builtin .append, #[.tmp 67, .tmp 70], #[121, 121]⟩, none⟩,
 ⟨some 5, .assign (.tmp 71), none⟩])))))
 (.ops [⟨some 22, .move (.tmp 6), none⟩,
 ⟨some 23, .binOp .add 3 (.tmp 22) (.const (.int .i64 1)) 3, none⟩,
 ⟨some 6, .assign (.tmp 23), none⟩])))
def ir66 : LC := (.seq (.ops [⟨some 4, .assign (.const (.slice none 0 0)), none⟩])
 (.seq (.ops [⟨some 5, .assign (.const (.slice none 0 0)), none⟩])
 (.seq (.seq (.ops [⟨some 6, .assign (.const (.int .i64 0)), none⟩])
 (.block 0 (.loop ir66_l0)))
 (.seq (.ops [⟨some 72, .move (.tmp 5), none⟩,
 ⟨some 4, .assign (.tmp 72), none⟩])
 .ret))))
theorem ir66_eq : (Try.f66.body.map low, Try.f66.ntmps, Try.f66.results.toList) = (some ir66, 73, [.tmp 4]) := by kernel_rfl


end Go.Proofs.Ythdkhbhicimpdaa
