/- The reference: may a shape be? -/
import Derived.Test.YtgejbdalmjopiaaGP
import Derived.Test.YtgejbdalmjopiaaGK
import Derived.Test.YtgejbdalmjopiaaGQ
import Derived.Test.YtgejbdalmjopiaaGR
namespace Go.X
open Go.Proofs
attribute [local irreducible] Good

end Go.X
