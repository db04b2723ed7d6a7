/- slices.Sort of int64 as this program has it: the library's own contract laid at its numbers (written by the kit's lay-plain). -/
import Derived.Ground.SlgmProg
import Derived.Shelf.SortM.Plain
import Derived.Test.YtghhpinkhdiocaaGreatProg
set_option linter.unusedVariables false
set_option linter.unusedSimpArgs false
set_option linter.unusedSimpArgs false
set_option maxRecDepth 100000
namespace Go.Proofs.YtghhpinkhdiocaaGreat
open Go Go.Shelf Go.Proofs
def laysSort_ren : Go.Shelf.Ren := ⟨fun | 5 => 223 | 8 => 139 | 7 => 238 | 19 => 207 | 20 => 208 | 10 => 241 | 11 => 242 | 12 => 243 | 13 => 244 | 14 => 245 | 15 => 246 | 16 => 247 | 17 => 248 | 18 => 249 | 30 => 250 | 31 => 227 | 32 => 228 | 33 => 251 | 34 => 252 | 35 => 253 | 40 => 254 | n => n, fun | 23 => 118 | 25 => 2 | 3 => 3 | 32 => 274 | 22 => 118 | 0 => 0 | 44 => 22 | 46 => 273 | 4 => 4 | 36 => 343 | 35 => 342 | 41 => 348 | 5 => 5 | 9 => 9 | 53 => 369 | 57 => 373 | 63 => 385 | 64 => 386 | n => n, fun | n => n⟩
theorem laysSort : Go.Proofs.SlLaysM.n5 Tryz.prog laysSort_ren := {
  mixed := by kernel_rfl
  f5 := ⟨Tryz.f223.name, by decide, Tryz.func223.trans (congrArg some (by kernel_rfl))⟩
  f7 := ⟨Tryz.f238.name, by decide, Tryz.func238.trans (congrArg some (by kernel_rfl))⟩
  f8 := Tryz.func139.trans (congrArg some (by kernel_rfl))
  f10 := ⟨Tryz.f241.name, by decide, Tryz.func241.trans (congrArg some (by kernel_rfl))⟩
  f11 := ⟨Tryz.f242.name, by decide, Tryz.func242.trans (congrArg some (by kernel_rfl))⟩
  f12 := ⟨Tryz.f243.name, by decide, Tryz.func243.trans (congrArg some (by kernel_rfl))⟩
  f13 := ⟨Tryz.f244.name, by decide, Tryz.func244.trans (congrArg some (by kernel_rfl))⟩
  f14 := ⟨Tryz.f245.name, by decide, Tryz.func245.trans (congrArg some (by kernel_rfl))⟩
  f15 := ⟨Tryz.f246.name, by decide, Tryz.func246.trans (congrArg some (by kernel_rfl))⟩
  f16 := ⟨Tryz.f247.name, by decide, Tryz.func247.trans (congrArg some (by kernel_rfl))⟩
  f17 := ⟨Tryz.f248.name, by decide, Tryz.func248.trans (congrArg some (by kernel_rfl))⟩
  f18 := ⟨Tryz.f249.name, by decide, Tryz.func249.trans (congrArg some (by kernel_rfl))⟩
  f19 := Tryz.func207.trans (congrArg some (by kernel_rfl))
  f20 := Tryz.func208.trans (congrArg some (by kernel_rfl))
  f30 := ⟨Tryz.f250.name, by decide, Tryz.func250.trans (congrArg some (by kernel_rfl))⟩
  f31 := Tryz.func227.trans (congrArg some (by kernel_rfl))
  f32 := Tryz.func228.trans (congrArg some (by kernel_rfl))
  f33 := ⟨Tryz.f251.name, by decide, Tryz.func251.trans (congrArg some (by kernel_rfl))⟩
  f34 := ⟨Tryz.f252.name, by decide, Tryz.func252.trans (congrArg some (by kernel_rfl))⟩
  f35 := ⟨Tryz.f253.name, by decide, Tryz.func253.trans (congrArg some (by kernel_rfl))⟩
  f40 := ⟨Tryz.f254.name, by decide, Tryz.func254.trans (congrArg some (by kernel_rfl))⟩
  t0 := Tryz.underlying0
  a0 := Tryz.isAgg0
  z0 := Tryz.sizeOf0
  v0 := Tryz.zeroValue0
  t3 := Tryz.underlying3
  a3 := Tryz.isAgg3
  z3 := Tryz.sizeOf3
  v3 := Tryz.zeroValue3
  t4 := Tryz.underlying4
  a4 := Tryz.isAgg4
  z4 := Tryz.sizeOf4
  v4 := Tryz.zeroValue4
  t5 := Tryz.underlying5
  a5 := Tryz.isAgg5
  z5 := Tryz.sizeOf5
  v5 := Tryz.zeroValue5
  t9 := Tryz.underlying9
  a9 := Tryz.isAgg9
  z9 := Tryz.sizeOf9
  v9 := Tryz.zeroValue9
  t22 := Tryz.underlying118
  a22 := Tryz.isAgg118
  z22 := Tryz.sizeOf118
  v22 := Tryz.zeroValue118
  t23 := Tryz.underlying118
  a23 := Tryz.isAgg118
  z23 := Tryz.sizeOf118
  v23 := Tryz.zeroValue118
  t25 := Tryz.underlying2
  a25 := Tryz.isAgg2
  z25 := Tryz.sizeOf2
  v25 := Tryz.zeroValue2
  t32 := Tryz.underlying274
  a32 := Tryz.isAgg274
  z32 := Tryz.sizeOf274
  v32 := Tryz.zeroValue274
  t35 := Tryz.underlying342
  a35 := Tryz.isAgg342
  z35 := Tryz.sizeOf342
  v35 := Tryz.zeroValue342
  t36 := Tryz.underlying343
  a36 := Tryz.isAgg343
  z36 := Tryz.sizeOf343
  v36 := Tryz.zeroValue343
  t41 := Tryz.underlying348
  a41 := Tryz.isAgg348
  z41 := Tryz.sizeOf348
  v41 := Tryz.zeroValue348
  t44 := Tryz.underlying22
  a44 := Tryz.isAgg22
  z44 := Tryz.sizeOf22
  v44 := Tryz.zeroValue22
  t46 := Tryz.underlying273
  a46 := Tryz.isAgg273
  z46 := Tryz.sizeOf273
  v46 := Tryz.zeroValue273
  t53 := Tryz.underlying369
  a53 := Tryz.isAgg369
  z53 := Tryz.sizeOf369
  v53 := Tryz.zeroValue369
  t57 := Tryz.underlying373
  a57 := Tryz.isAgg373
  z57 := Tryz.sizeOf373
  v57 := Tryz.zeroValue373
  t63 := Tryz.underlying385
  a63 := Tryz.isAgg385
  z63 := Tryz.sizeOf385
  v63 := Tryz.zeroValue385
  t64 := Tryz.underlying386
  a64 := Tryz.isAgg386
  z64 := Tryz.sizeOf386
  v64 := Tryz.zeroValue386 }
end Go.Proofs.YtghhpinkhdiocaaGreat
