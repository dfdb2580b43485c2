/- Masses of shapes with a list: the document's; their sides. -/
import Derived.Test.YtgejbdalmjopiaaGreatJUM0
namespace Go.X
open Go.Proofs
attribute [local irreducible] Good
end Go.X
