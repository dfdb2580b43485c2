/- The reference of masses: a moment. -/
import Derived.Test.YtgejbdalmjopiaaJS3
import Derived.Test.YtgejbdalmjopiaaJS6
import Derived.Test.YtgejbdalmjopiaaJUL
namespace Go.X
open Go.Proofs
attribute [local irreducible] Good

end Go.X
