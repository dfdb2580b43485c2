/- Masses and moments: of shapes without a list; the laws that need no more. -/
import Derived.Test.YtgejbdalmjopiaaGreatJS3
import Derived.Test.YtgejbdalmjopiaaGreatGS
namespace Go.X
open Go.Proofs
attribute [local irreducible] Good
end Go.X
