/- Package mat: the inverse; the reference's. -/
import Derived.Test.YtgfpllfimpgooaaGreatJMD
namespace Go.X
open Go.Proofs
attribute [local irreducible] Good

end Go.X
