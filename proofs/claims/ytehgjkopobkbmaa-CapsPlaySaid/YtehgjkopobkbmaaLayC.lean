/- maps.Clone as this program has it: the library's own contract laid at its numbers (written by the kit's lay-plain). -/
import Derived.Ground.SlmcProg
import Derived.Shelf.SlLaysW
import Derived.Test.YtehgjkopobkbmaaProg
set_option linter.unusedVariables false
set_option linter.unusedSimpArgs false
set_option linter.unusedSimpArgs false
set_option maxRecDepth 100000
namespace Go.Proofs.Ytehgjkopobkbmaa
open Go Go.Shelf Go.Proofs
def laysClone_ren : Go.Shelf.Ren := ⟨fun | 5 => 45 | 7 => 56 | n => n, fun | 23 => 59 | 25 => 2 | 3 => 40 | 4 => 4 | 20 => 20 | n => n, fun | n => n⟩
theorem laysClone : Go.Proofs.SlLaysW.n5 Try.prog laysClone_ren := {
  mixed := by kernel_rfl
  f5 := ⟨Try.f45.name, by decide, Try.func45.trans (congrArg some (by kernel_rfl))⟩
  f7 := Try.func56.trans (congrArg some (by kernel_rfl))
  t4 := Try.underlying4
  a4 := Try.isAgg4
  z4 := Try.sizeOf4
  v4 := Try.zeroValue4
  t20 := Try.underlying20
  a20 := Try.isAgg20
  z20 := Try.sizeOf20
  v20 := Try.zeroValue20
  t23 := Try.underlying59
  a23 := Try.isAgg59
  z23 := Try.sizeOf59
  v23 := Try.zeroValue59 }
end Go.Proofs.Ytehgjkopobkbmaa
