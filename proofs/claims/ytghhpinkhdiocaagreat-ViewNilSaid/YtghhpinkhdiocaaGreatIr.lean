/- The code of this seat struck bare (printed by program). -/
import Derived.Test.YtghhpinkhdiocaaGreatProg
import Derived.Test.YtghhpinkhdiocaaGreatV4
import Derived.KernelRfl
set_option linter.unusedVariables false
set_option linter.unusedSimpArgs false
set_option linter.unusedSimpArgs false
set_option maxRecDepth 100000
namespace Go.Proofs.YtghhpinkhdiocaaGreat
open Go Go.Vm
noncomputable def ir87 : LC := pk (ir0 Tryz.f87 [] []) _
theorem ir87_eq : IrV Tryz.f87 = (some ir87, 12, [.tmp 2]) := by kernel_rfl
noncomputable def ir192 : LC := pk (ir0 Tryz.f192 [] []) _
theorem ir192_eq : IrV Tryz.f192 = (some ir192, 9, [.tmp 2]) := by kernel_rfl
noncomputable def ir210_l0 : LC := pk (irl Tryz.f210 [] [] 0) _
noncomputable def ir210 : LC := (pk (fun l0 => ir0 Tryz.f210 [l0] []) _) ir210_l0
theorem ir210_eq : IrV Tryz.f210 = (some ir210, 27, [.tmp 4]) := by kernel_rfl
noncomputable def ir222 : LC := pk (ir0 Tryz.f222 [] []) _
theorem ir222_eq : IrV Tryz.f222 = (some ir222, 5, [.tmp 2]) := by kernel_rfl
noncomputable def ir224_l0 : LC := pk (irl Tryz.f224 [] [] 0) _
noncomputable def ir224 : LC := (pk (fun l0 => ir0 Tryz.f224 [l0] []) _) ir224_l0
theorem ir224_eq : IrV Tryz.f224 = (some ir224, 14, []) := by kernel_rfl
noncomputable def rc237 := rcs Tryz.f237
noncomputable def ir237_a0 : LC := (pk (fun r => ira Tryz.f237 [] [r 0] 0) _) rc237
noncomputable def ir237_b0 : LC := (pk (fun r => irb Tryz.f237 [] [r 0] 0) _) rc237
theorem ir237_a0_eq : low (rc237 0).1 = ir237_a0 := by kernel_rfl
theorem ir237_b0_eq : low (rc237 0).2 = ir237_b0 := by kernel_rfl
noncomputable def ir237 : LC := (pk (fun r => ir0 Tryz.f237 [] [r 0]) _) rc237
theorem ir237_eq : IrV Tryz.f237 = (some ir237, 13, [.tmp 4]) := by kernel_rfl

end Go.Proofs.YtghhpinkhdiocaaGreat
