/- The code of this seat struck bare (printed by program). -/
import Derived.Test.YtakgjjbmniilhaaProg
import Derived.Test.YtakgjjbmniilhaaV4
import Derived.KernelRfl
set_option linter.unusedVariables false
set_option maxRecDepth 100000
namespace Go.Proofs.Ytakgjjbmniilhaa
open Go Go.Vm
noncomputable def ir5 : LC := pk (ir0 Try.f5 [] []) _
theorem ir5_eq : IrV Try.f5 = (some ir5, 99, [.tmp 4]) := by kernel_rfl
noncomputable def ir23_l0 : LC := pk (irl Try.f23 [] [] 0) _
noncomputable def ir23 : LC := (pk (fun l0 => ir0 Try.f23 [l0] []) _) ir23_l0
theorem ir23_eq : IrV Try.f23 = (some ir23, 37, [.tmp 2]) := by kernel_rfl
noncomputable def ir24 : LC := pk (ir0 Try.f24 [] []) _
theorem ir24_eq : IrV Try.f24 = (some ir24, 68, [.tmp 6, .tmp 7]) := by kernel_rfl
noncomputable def ir25_l0 : LC := pk (irl Try.f25 [] [] 0) _
noncomputable def ir25 : LC := (pk (fun l0 => ir0 Try.f25 [l0] []) _) ir25_l0
theorem ir25_eq : IrV Try.f25 = (some ir25, 97, [.tmp 4, .tmp 5]) := by kernel_rfl
noncomputable def rc26 := rcs Try.f26
noncomputable def ir26_l0 : LC := (pk (fun r => irl Try.f26 [] [r 0] 0) _) rc26
noncomputable def ir26_l1 : LC := (pk (fun l0 r => irl Try.f26 [l0] [r 0] 1) _) ir26_l0 rc26
noncomputable def ir26_a0 : LC := (pk (fun l0 l1 r => ira Try.f26 [l0, l1] [r 0] 0) _) ir26_l0 ir26_l1 rc26
noncomputable def ir26_b0 : LC := (pk (fun l0 l1 r => irb Try.f26 [l0, l1] [r 0] 0) _) ir26_l0 ir26_l1 rc26
theorem ir26_a0_eq : low (rc26 0).1 = ir26_a0 := by kernel_rfl
theorem ir26_b0_eq : low (rc26 0).2 = ir26_b0 := by kernel_rfl
noncomputable def ir26 : LC := (pk (fun l0 l1 r => ir0 Try.f26 [l0, l1] [r 0]) _) ir26_l0 ir26_l1 rc26
theorem ir26_eq : IrV Try.f26 = (some ir26, 139, [.cell 6 4]) := by kernel_rfl
noncomputable def ir27_l0 : LC := pk (irl Try.f27 [] [] 0) _
noncomputable def ir27 : LC := (pk (fun l0 => ir0 Try.f27 [l0] []) _) ir27_l0
theorem ir27_eq : IrV Try.f27 = (some ir27, 38, [.tmp 4]) := by kernel_rfl
noncomputable def ir48_l0 : LC := pk (irl Try.f48 [] [] 0) _
noncomputable def ir48 : LC := (pk (fun l0 => ir0 Try.f48 [l0] []) _) ir48_l0
theorem ir48_eq : IrV Try.f48 = (some ir48, 31, [.tmp 2]) := by kernel_rfl
noncomputable def ir49_l0 : LC := pk (irl Try.f49 [] [] 0) _
noncomputable def ir49 : LC := (pk (fun l0 => ir0 Try.f49 [l0] []) _) ir49_l0
theorem ir49_eq : IrV Try.f49 = (some ir49, 77, [.cell 2 107, .tmp 3]) := by kernel_rfl
noncomputable def ir50_l0 : LC := pk (irl Try.f50 [] [] 0) _
noncomputable def ir50_l1 : LC := (pk (fun l0 => irl Try.f50 [l0] [] 1) _) ir50_l0
noncomputable def ir50 : LC := (pk (fun l0 l1 => ir0 Try.f50 [l0, l1] []) _) ir50_l0 ir50_l1
theorem ir50_eq : IrV Try.f50 = (some ir50, 137, []) := by kernel_rfl
noncomputable def ir51 : LC := pk (ir0 Try.f51 [] []) _
theorem ir51_eq : IrV Try.f51 = (some ir51, 26, []) := by kernel_rfl
noncomputable def ir52 : LC := pk (ir0 Try.f52 [] []) _
theorem ir52_eq : IrV Try.f52 = (some ir52, 10, [.tmp 2]) := by kernel_rfl
noncomputable def ir53 : LC := pk (ir0 Try.f53 [] []) _
theorem ir53_eq : IrV Try.f53 = (some ir53, 43, [.tmp 6]) := by kernel_rfl
noncomputable def ir54 : LC := pk (ir0 Try.f54 [] []) _
theorem ir54_eq : IrV Try.f54 = (some ir54, 18, [.tmp 2]) := by kernel_rfl
noncomputable def ir55 : LC := pk (ir0 Try.f55 [] []) _
theorem ir55_eq : IrV Try.f55 = (some ir55, 31, [.tmp 10]) := by kernel_rfl
noncomputable def ir57_l0 : LC := pk (irl Try.f57 [] [] 0) _
noncomputable def ir57 : LC := (pk (fun l0 => ir0 Try.f57 [l0] []) _) ir57_l0
theorem ir57_eq : IrV Try.f57 = (some ir57, 26, [.tmp 2]) := by kernel_rfl
noncomputable def ir59 : LC := pk (ir0 Try.f59 [] []) _
theorem ir59_eq : IrV Try.f59 = (some ir59, 34, [.tmp 4]) := by kernel_rfl
noncomputable def ir75_l0 : LC := pk (irl Try.f75 [] [] 0) _
noncomputable def ir75 : LC := (pk (fun l0 => ir0 Try.f75 [l0] []) _) ir75_l0
theorem ir75_eq : IrV Try.f75 = (some ir75, 13, [.tmp 2]) := by kernel_rfl
noncomputable def ir76_l0 : LC := pk (irl Try.f76 [] [] 0) _
noncomputable def ir76 : LC := (pk (fun l0 => ir0 Try.f76 [l0] []) _) ir76_l0
theorem ir76_eq : IrV Try.f76 = (some ir76, 75, [.cell 2 107, .tmp 3]) := by kernel_rfl
noncomputable def ir77 : LC := pk (ir0 Try.f77 [] []) _
theorem ir77_eq : IrV Try.f77 = (some ir77, 9, [.tmp 2]) := by kernel_rfl
noncomputable def ir78 : LC := pk (ir0 Try.f78 [] []) _
theorem ir78_eq : IrV Try.f78 = (some ir78, 7, [.tmp 2]) := by kernel_rfl
noncomputable def ir79_l0 : LC := pk (irl Try.f79 [] [] 0) _
noncomputable def ir79_l1 : LC := (pk (fun l0 => irl Try.f79 [l0] [] 1) _) ir79_l0
noncomputable def ir79 : LC := (pk (fun l0 l1 => ir0 Try.f79 [l0, l1] []) _) ir79_l0 ir79_l1
theorem ir79_eq : IrV Try.f79 = (some ir79, 113, [.tmp 6, .tmp 7, .tmp 8, .tmp 9]) := by kernel_rfl
noncomputable def ir80_l0 : LC := pk (irl Try.f80 [] [] 0) _
noncomputable def ir80 : LC := (pk (fun l0 => ir0 Try.f80 [l0] []) _) ir80_l0
theorem ir80_eq : IrV Try.f80 = (some ir80, 32, [.tmp 2]) := by kernel_rfl
noncomputable def ir81 : LC := pk (ir0 Try.f81 [] []) _
theorem ir81_eq : IrV Try.f81 = (some ir81, 15, []) := by kernel_rfl
noncomputable def ir82 : LC := pk (ir0 Try.f82 [] []) _
theorem ir82_eq : IrV Try.f82 = (some ir82, 16, [.tmp 4]) := by kernel_rfl
noncomputable def ir83_l0 : LC := pk (irl Try.f83 [] [] 0) _
noncomputable def ir83 : LC := (pk (fun l0 => ir0 Try.f83 [l0] []) _) ir83_l0
theorem ir83_eq : IrV Try.f83 = (some ir83, 18, [.tmp 2]) := by kernel_rfl
noncomputable def ir94_l0 : LC := pk (irl Try.f94 [] [] 0) _
noncomputable def ir94 : LC := (pk (fun l0 => ir0 Try.f94 [l0] []) _) ir94_l0
theorem ir94_eq : IrV Try.f94 = (some ir94, 72, [.tmp 2, .tmp 3]) := by kernel_rfl
noncomputable def ir95_l0 : LC := pk (irl Try.f95 [] [] 0) _
noncomputable def ir95 : LC := (pk (fun l0 => ir0 Try.f95 [l0] []) _) ir95_l0
theorem ir95_eq : IrV Try.f95 = (some ir95, 20, [.tmp 2]) := by kernel_rfl
noncomputable def ir96_l0 : LC := pk (irl Try.f96 [] [] 0) _
noncomputable def ir96 : LC := (pk (fun l0 => ir0 Try.f96 [l0] []) _) ir96_l0
theorem ir96_eq : IrV Try.f96 = (some ir96, 60, [.tmp 6]) := by kernel_rfl

end Go.Proofs.Ytakgjjbmniilhaa
