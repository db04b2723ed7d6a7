/- DiskNil's parts, each run by itself. -/
import Derived.Test.YtgkcbpagdfdpdaaProg
import Derived.Test.YtgkcbpagdfdpdaaVmHk
import Derived.KernelRfl
set_option maxRecDepth 100000
namespace Go.Proofs.Ytgkcbpagdfdpdaa
open Go Go.Vm
theorem hm : Try.prog.follows .mixedOrders = true := by kernel_rfl
theorem k_known : isTrue (evInvH Try.prog noHook 100000 40 (.fn 8) [] s0) = true := by kernel_rfl
theorem k_none : isTrue (evInvH Try.prog noHook 100000 40 (.fn 23) [.ptr none] s0) = true := by kernel_rfl
def hk : Hook := hkOr (hkTrue 8) (hkNil 23)
theorem hk_ok : HookOk Try.prog hk := hkOr_ok (hkTrue_ok hm noHook_ok k_known) (hkNil_ok hm noHook_ok k_none)
theorem k_nil : isTrue (evInvH Try.prog hk 100000 40 (.fn 5) [] s0) = true := by kernel_rfl
end Go.Proofs.Ytgkcbpagdfdpdaa
