/- The points of a shape in a pose. -/
import Derived.Test.YtgejbdalmjopiaaGreatJUN1
namespace Go.X
open Go.Proofs
attribute [local irreducible] Good
end Go.X
