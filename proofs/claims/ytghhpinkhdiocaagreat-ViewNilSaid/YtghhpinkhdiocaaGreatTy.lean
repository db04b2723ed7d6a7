/- Sizes and offsets of the types of this seat. -/
import Derived.Test.YtghhpinkhdiocaaGreatProg
import Derived.Test.YtghhpinkhdiocaaGreatV4
import Derived.KernelRfl
set_option linter.unusedVariables false
set_option linter.unusedSimpArgs false
set_option linter.unusedSimpArgs false
set_option maxRecDepth 100000
namespace Go.Proofs.YtghhpinkhdiocaaGreat
open Go Go.Vm
theorem hm : Tryz.prog.follows .mixedOrders = true := by kernel_rfl
theorem ag_3 : aggV Tryz.prog 3 = some false := by kernel_rfl
theorem ag_118 : aggV Tryz.prog 118 = some false := by kernel_rfl
theorem ag_121 : aggV Tryz.prog 121 = some true := by kernel_rfl
theorem ag_225 : aggV Tryz.prog 225 = some false := by kernel_rfl
theorem fo_121_3 : fieldOff Tryz.prog 121 3 = some 3 := by kernel_rfl
theorem fo_227_0 : fieldOff Tryz.prog 227 0 = some 0 := by kernel_rfl
theorem sz_3 : szV Tryz.prog 3 = some 1 := by kernel_rfl
theorem sz_118 : szV Tryz.prog 118 = some 1 := by kernel_rfl
theorem sz_121 : szV Tryz.prog 121 = some 7 := by kernel_rfl
theorem sz_225 : szV Tryz.prog 225 = some 1 := by kernel_rfl
theorem zv_121 : zeroV Tryz.prog 121 = some (V.agg [V.int IntKind.i64 0, V.int IntKind.i64 0, V.int IntKind.i64 0, V.int IntKind.i64 0, V.int IntKind.i64 0, V.int IntKind.i64 0, V.int IntKind.i64 0]) := by kernel_rfl
theorem bs_118_1 (ps : List (Nat × V)) : builtSliceV Tryz.prog 118 1 ps = match fillV (fun i => some (i * 1, 1)) [V.int IntKind.i64 0] ps with | some r => some (2, r) | none => none := by kernel_rfl
theorem ca_87 : callable Tryz.prog 87 = true := by kernel_rfl
theorem ca_222 : callable Tryz.prog 222 = true := by kernel_rfl
theorem ca_223 : callable Tryz.prog 223 = true := by kernel_rfl
theorem ca_224 : callable Tryz.prog 224 = true := by kernel_rfl
theorem ca_237 : callable Tryz.prog 237 = true := by kernel_rfl
attribute [go_sem] ag_3 ag_118 ag_121 ag_225 fo_121_3 fo_227_0 sz_3 sz_118 sz_121 sz_225 zv_121 bs_118_1 Tryz.underlying2 Tryz.underlying3 Tryz.underlying63 Tryz.underlying118 Tryz.underlying225 Tryz.underlying274 Tryz.underlying335 ca_87 ca_222 ca_223 ca_224 ca_237
end Go.Proofs.YtghhpinkhdiocaaGreat
