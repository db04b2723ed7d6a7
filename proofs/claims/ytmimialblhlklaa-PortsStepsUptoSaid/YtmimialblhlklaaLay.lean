/- slices.Sort as this program has it: the library's own contract laid at its numbers (written by the kit's lay-plain). -/
import Derived.Ground.SlgmProg
import Derived.Shelf.SortM.Plain
import Derived.Test.YtmimialblhlklaaProg
set_option linter.unusedVariables false
set_option maxRecDepth 100000
namespace Go.Proofs.Ytmimialblhlklaa
open Go Go.Shelf Go.Proofs
def laysSort_ren : Go.Shelf.Ren := ⟨fun | 5 => 62 | 8 => 75 | 7 => 74 | 19 => 89 | 20 => 90 | 10 => 80 | 11 => 81 | 12 => 82 | 13 => 83 | 14 => 84 | 15 => 85 | 16 => 86 | 17 => 87 | 18 => 88 | 30 => 92 | 31 => 93 | 32 => 94 | 33 => 95 | 34 => 96 | 35 => 97 | 40 => 98 | n => n, fun | 23 => 30 | 25 => 3 | 3 => 3 | 32 => 118 | 22 => 30 | 0 => 0 | 44 => 145 | 46 => 147 | 4 => 4 | 36 => 138 | 35 => 137 | 41 => 50 | 5 => 5 | 9 => 9 | 53 => 149 | 57 => 153 | 63 => 155 | 64 => 91 | n => n, fun | n => n⟩
theorem laysSort : Go.Proofs.SlLaysM.n5 Try.prog laysSort_ren := {
 mixed := by kernel_rfl
 f5 := ⟨Try.f62.name, by decide, Try.func62.trans (congrArg some (by kernel_rfl))⟩
 f7 := ⟨Try.f74.name, by decide, Try.func74.trans (congrArg some (by kernel_rfl))⟩
 f8 := Try.func75.trans (congrArg some (by kernel_rfl))
 f10 := ⟨Try.f80.name, by decide, Try.func80.trans (congrArg some (by kernel_rfl))⟩
 f11 := ⟨Try.f81.name, by decide, Try.func81.trans (congrArg some (by kernel_rfl))⟩
 f12 := ⟨Try.f82.name, by decide, Try.func82.trans (congrArg some (by kernel_rfl))⟩
 f13 := ⟨Try.f83.name, by decide, Try.func83.trans (congrArg some (by kernel_rfl))⟩
 f14 := ⟨Try.f84.name, by decide, Try.func84.trans (congrArg some (by kernel_rfl))⟩
 f15 := ⟨Try.f85.name, by decide, Try.func85.trans (congrArg some (by kernel_rfl))⟩
 f16 := ⟨Try.f86.name, by decide, Try.func86.trans (congrArg some (by kernel_rfl))⟩
 f17 := ⟨Try.f87.name, by decide, Try.func87.trans (congrArg some (by kernel_rfl))⟩
 f18 := ⟨Try.f88.name, by decide, Try.func88.trans (congrArg some (by kernel_rfl))⟩
 f19 := Try.func89.trans (congrArg some (by kernel_rfl))
 f20 := Try.func90.trans (congrArg some (by kernel_rfl))
 f30 := ⟨Try.f92.name, by decide, Try.func92.trans (congrArg some (by kernel_rfl))⟩
 f31 := Try.func93.trans (congrArg some (by kernel_rfl))
 f32 := Try.func94.trans (congrArg some (by kernel_rfl))
 f33 := ⟨Try.f95.name, by decide, Try.func95.trans (congrArg some (by kernel_rfl))⟩
 f34 := ⟨Try.f96.name, by decide, Try.func96.trans (congrArg some (by kernel_rfl))⟩
 f35 := ⟨Try.f97.name, by decide, Try.func97.trans (congrArg some (by kernel_rfl))⟩
 f40 := ⟨Try.f98.name, by decide, Try.func98.trans (congrArg some (by kernel_rfl))⟩
 t0 := Try.underlying0
 a0 := Try.isAgg0
 z0 := Try.sizeOf0
 v0 := Try.zeroValue0
 t3 := Try.underlying3
 a3 := Try.isAgg3
 z3 := Try.sizeOf3
 v3 := Try.zeroValue3
 t4 := Try.underlying4
 a4 := Try.isAgg4
 z4 := Try.sizeOf4
 v4 := Try.zeroValue4
 t5 := Try.underlying5
 a5 := Try.isAgg5
 z5 := Try.sizeOf5
 v5 := Try.zeroValue5
 t9 := Try.underlying9
 a9 := Try.isAgg9
 z9 := Try.sizeOf9
 v9 := Try.zeroValue9
 t22 := Try.underlying30
 a22 := Try.isAgg30
 z22 := Try.sizeOf30
 v22 := Try.zeroValue30
 t23 := Try.underlying30
 a23 := Try.isAgg30
 z23 := Try.sizeOf30
 v23 := Try.zeroValue30
 t25 := Try.underlying3
 a25 := Try.isAgg3
 z25 := Try.sizeOf3
 v25 := Try.zeroValue3
 t32 := Try.underlying118
 a32 := Try.isAgg118
 z32 := Try.sizeOf118
 v32 := Try.zeroValue118
 t35 := Try.underlying137
 a35 := Try.isAgg137
 z35 := Try.sizeOf137
 v35 := Try.zeroValue137
 t36 := Try.underlying138
 a36 := Try.isAgg138
 z36 := Try.sizeOf138
 v36 := Try.zeroValue138
 t41 := Try.underlying50
 a41 := Try.isAgg50
 z41 := Try.sizeOf50
 v41 := Try.zeroValue50
 t44 := Try.underlying145
 a44 := Try.isAgg145
 z44 := Try.sizeOf145
 v44 := Try.zeroValue145
 t46 := Try.underlying147
 a46 := Try.isAgg147
 z46 := Try.sizeOf147
 v46 := Try.zeroValue147
 t53 := Try.underlying149
 a53 := Try.isAgg149
 z53 := Try.sizeOf149
 v53 := Try.zeroValue149
 t57 := Try.underlying153
 a57 := Try.isAgg153
 z57 := Try.sizeOf153
 v57 := Try.zeroValue153
 t63 := Try.underlying155
 a63 := Try.isAgg155
 z63 := Try.sizeOf155
 v63 := Try.zeroValue155
 t64 := Try.underlying91
 a64 := Try.isAgg91
 z64 := Try.sizeOf91
 v64 := Try.zeroValue91 }
end Go.Proofs.Ytmimialblhlklaa
