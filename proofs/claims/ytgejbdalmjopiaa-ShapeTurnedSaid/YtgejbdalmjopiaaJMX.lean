/- Quaternions: rows and columns of the matrix. -/
import Derived.Test.YtgejbdalmjopiaaJMW
namespace Go.X
open Go.Proofs
attribute [local irreducible] Good

end Go.X
