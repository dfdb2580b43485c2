/- The reference of masses: a moment. -/
import Derived.Test.YtgejbdalmjopiaaGreatJS3
import Derived.Test.YtgejbdalmjopiaaGreatJS6
import Derived.Test.YtgejbdalmjopiaaGreatGX
namespace Go.X
open Go.Proofs
attribute [local irreducible] Good
end Go.X
