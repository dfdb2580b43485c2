/- Masses and moments; shapes without a list. -/
import Derived.Test.YtgejbdalmjopiaaGreatGS
import Derived.Test.YtgejbdalmjopiaaGreatGV
namespace Go.X
open Go.Proofs
attribute [local irreducible] Good
attribute [simp] Tryz.T_62
attribute [simp] Tryz.T_94
end Go.X
