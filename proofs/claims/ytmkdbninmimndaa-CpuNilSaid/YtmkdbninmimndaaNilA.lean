/- CpuNil: the machine's run. -/
import Derived.Test.YtmkdbninmimndaaProg
import Derived.Test.YtmkdbninmimndaaVmFastC
import Derived.KernelRfl
set_option maxRecDepth 100000
namespace Go.Proofs.Ytmkdbninmimndaa
open Go Go.Vm
theorem hm : Try.prog.follows .mixedOrders = true := by kernel_rfl
theorem k_nil0 : isTrue (fInvH Try.prog noHook 100000 60 (.fn 8) [] s0) = true := by kernel_rfl
theorem k_nil : isTrue (evInvH Try.prog noHook 100000 60 (.fn 8) [] s0) = true := fTrue k_nil0
end Go.Proofs.Ytmkdbninmimndaa
