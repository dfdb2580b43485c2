/- The seat's program: what every reckoning over it uses. -/
import Derived.Test.YticlgpdmelhbhaaXT
import Derived.Test.YticlgpdmelhbhaaXO
namespace Go.X
open Go.Proofs
theorem mixed : Try.prog.follows .mixedOrders = true := by kernel_rfl
theorem drawS : DrawSound Try.prog chkD := draw_sound mixed
theorem Add64_ok : SumOk Try.prog 44 (pureS add64S) := add64_ok Try.func44 (by kernel_rfl) (by kernel_rfl) (by kernel_rfl) (by kernel_rfl)
end Go.X
