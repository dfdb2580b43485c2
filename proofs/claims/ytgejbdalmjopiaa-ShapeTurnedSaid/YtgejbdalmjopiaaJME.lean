/- Package mat: the inverse; the reference's. -/
import Derived.Test.YtgejbdalmjopiaaJMD
namespace Go.X
open Go.Proofs
attribute [local irreducible] Good

end Go.X
