/- slices.Sort of int64 as this program has it: the library's own contract laid at its numbers (written by the kit's lay-plain). -/
import Derived.Ground.SlgmProg
import Derived.Shelf.SortM.Plain
import Derived.Test.YtdfihilgbeogbaaGreatProg
set_option linter.unusedVariables false
set_option linter.unusedSimpArgs false
set_option linter.unusedSimpArgs false
set_option maxRecDepth 100000
namespace Go.Proofs.YtdfihilgbeogbaaGreat
open Go Go.Shelf Go.Proofs
def laysSort_ren : Go.Shelf.Ren := ⟨fun | 5 => 201 | 8 => 199 | 7 => 221 | 19 => 218 | 20 => 219 | 10 => 229 | 11 => 230 | 12 => 231 | 13 => 232 | 14 => 233 | 15 => 234 | 16 => 235 | 17 => 236 | 18 => 237 | 30 => 239 | 31 => 224 | 32 => 225 | 33 => 240 | 34 => 241 | 35 => 242 | 40 => 243 | n => n, fun | 23 => 87 | 25 => 2 | 3 => 3 | 32 => 98 | 22 => 87 | 0 => 0 | 44 => 27 | 46 => 301 | 4 => 4 | 36 => 341 | 35 => 340 | 41 => 228 | 5 => 5 | 9 => 9 | 53 => 350 | 57 => 354 | 63 => 362 | 64 => 363 | n => n, fun | n => n⟩
theorem laysSort : Go.Proofs.SlLaysM.n5 Tryz.prog laysSort_ren := {
  mixed := by kernel_rfl
  f5 := ⟨Tryz.f201.name, by decide, Tryz.func201.trans (congrArg some (by kernel_rfl))⟩
  f7 := ⟨Tryz.f221.name, by decide, Tryz.func221.trans (congrArg some (by kernel_rfl))⟩
  f8 := Tryz.func199.trans (congrArg some (by kernel_rfl))
  f10 := ⟨Tryz.f229.name, by decide, Tryz.func229.trans (congrArg some (by kernel_rfl))⟩
  f11 := ⟨Tryz.f230.name, by decide, Tryz.func230.trans (congrArg some (by kernel_rfl))⟩
  f12 := ⟨Tryz.f231.name, by decide, Tryz.func231.trans (congrArg some (by kernel_rfl))⟩
  f13 := ⟨Tryz.f232.name, by decide, Tryz.func232.trans (congrArg some (by kernel_rfl))⟩
  f14 := ⟨Tryz.f233.name, by decide, Tryz.func233.trans (congrArg some (by kernel_rfl))⟩
  f15 := ⟨Tryz.f234.name, by decide, Tryz.func234.trans (congrArg some (by kernel_rfl))⟩
  f16 := ⟨Tryz.f235.name, by decide, Tryz.func235.trans (congrArg some (by kernel_rfl))⟩
  f17 := ⟨Tryz.f236.name, by decide, Tryz.func236.trans (congrArg some (by kernel_rfl))⟩
  f18 := ⟨Tryz.f237.name, by decide, Tryz.func237.trans (congrArg some (by kernel_rfl))⟩
  f19 := Tryz.func218.trans (congrArg some (by kernel_rfl))
  f20 := Tryz.func219.trans (congrArg some (by kernel_rfl))
  f30 := ⟨Tryz.f239.name, by decide, Tryz.func239.trans (congrArg some (by kernel_rfl))⟩
  f31 := Tryz.func224.trans (congrArg some (by kernel_rfl))
  f32 := Tryz.func225.trans (congrArg some (by kernel_rfl))
  f33 := ⟨Tryz.f240.name, by decide, Tryz.func240.trans (congrArg some (by kernel_rfl))⟩
  f34 := ⟨Tryz.f241.name, by decide, Tryz.func241.trans (congrArg some (by kernel_rfl))⟩
  f35 := ⟨Tryz.f242.name, by decide, Tryz.func242.trans (congrArg some (by kernel_rfl))⟩
  f40 := ⟨Tryz.f243.name, by decide, Tryz.func243.trans (congrArg some (by kernel_rfl))⟩
  t0 := Tryz.underlying0
  a0 := Tryz.isAgg0
  z0 := Tryz.sizeOf0
  v0 := Tryz.zeroValue0
  t3 := Tryz.underlying3
  a3 := Tryz.isAgg3
  z3 := Tryz.sizeOf3
  v3 := Tryz.zeroValue3
  t4 := Tryz.underlying4
  a4 := Tryz.isAgg4
  z4 := Tryz.sizeOf4
  v4 := Tryz.zeroValue4
  t5 := Tryz.underlying5
  a5 := Tryz.isAgg5
  z5 := Tryz.sizeOf5
  v5 := Tryz.zeroValue5
  t9 := Tryz.underlying9
  a9 := Tryz.isAgg9
  z9 := Tryz.sizeOf9
  v9 := Tryz.zeroValue9
  t22 := Tryz.underlying87
  a22 := Tryz.isAgg87
  z22 := Tryz.sizeOf87
  v22 := Tryz.zeroValue87
  t23 := Tryz.underlying87
  a23 := Tryz.isAgg87
  z23 := Tryz.sizeOf87
  v23 := Tryz.zeroValue87
  t25 := Tryz.underlying2
  a25 := Tryz.isAgg2
  z25 := Tryz.sizeOf2
  v25 := Tryz.zeroValue2
  t32 := Tryz.underlying98
  a32 := Tryz.isAgg98
  z32 := Tryz.sizeOf98
  v32 := Tryz.zeroValue98
  t35 := Tryz.underlying340
  a35 := Tryz.isAgg340
  z35 := Tryz.sizeOf340
  v35 := Tryz.zeroValue340
  t36 := Tryz.underlying341
  a36 := Tryz.isAgg341
  z36 := Tryz.sizeOf341
  v36 := Tryz.zeroValue341
  t41 := Tryz.underlying228
  a41 := Tryz.isAgg228
  z41 := Tryz.sizeOf228
  v41 := Tryz.zeroValue228
  t44 := Tryz.underlying27
  a44 := Tryz.isAgg27
  z44 := Tryz.sizeOf27
  v44 := Tryz.zeroValue27
  t46 := Tryz.underlying301
  a46 := Tryz.isAgg301
  z46 := Tryz.sizeOf301
  v46 := Tryz.zeroValue301
  t53 := Tryz.underlying350
  a53 := Tryz.isAgg350
  z53 := Tryz.sizeOf350
  v53 := Tryz.zeroValue350
  t57 := Tryz.underlying354
  a57 := Tryz.isAgg354
  z57 := Tryz.sizeOf354
  v57 := Tryz.zeroValue354
  t63 := Tryz.underlying362
  a63 := Tryz.isAgg362
  z63 := Tryz.sizeOf362
  v63 := Tryz.zeroValue362
  t64 := Tryz.underlying363
  a64 := Tryz.isAgg363
  z64 := Tryz.sizeOf363
  v64 := Tryz.zeroValue363 }
end Go.Proofs.YtdfihilgbeogbaaGreat
