/- Points of whatever poses are near enough to be rounded. -/
import Derived.Test.YtgejbdalmjopiaaGreatGN
import Derived.Test.YtgejbdalmjopiaaGreatGW
import Derived.Test.YtgejbdalmjopiaaGreatGX
namespace Go.X
open Go.Proofs
attribute [local irreducible] Good
end Go.X
