/- Quaternions: the reference's matrix; what is always told; the laws that ask the document's answer. -/
import Derived.Test.YtgejbdalmjopiaaJMU
namespace Go.X
open Go.Proofs
attribute [local irreducible] Good

theorem InI_clamp (z : Int) : InI (clampI z) := clampI_in z

end Go.X
