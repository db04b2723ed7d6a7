/- PagesNil: the machine's run, the chapter's rows (which go over a map) taken from a table. -/
import Derived.Test.YtkfhdaimememiaaQ
import Derived.Test.YtkfhdaimememiaaV2
import Derived.Test.YtkfhdaimememiaaV3
set_option linter.unusedVariables false
set_option linter.unusedSimpArgs false
set_option linter.unusedSimpArgs false
set_option maxRecDepth 100000
namespace Go.Proofs.Ytkfhdaimememiaa
open Go Go.Vm
theorem hkK_ok : HookOk Try.prog (hkTrue 14) := hkD_ok (known_dem fun _ => trivial)
theorem k_nil0 : isTrue (fInvH Try.prog (hkTrue 14) 100000 60 (.fn 8) [] s0) = true := by kernel_rfl
theorem k_nil : isTrue (evInvH Try.prog (hkTrue 14) 100000 60 (.fn 8) [] s0) = true := fTrue k_nil0
end Go.Proofs.Ytkfhdaimememiaa
