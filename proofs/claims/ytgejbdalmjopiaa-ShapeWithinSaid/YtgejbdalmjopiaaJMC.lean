/- Package mat: rows, sums, products with vectors; minors and the determinant. -/
import Derived.Test.YtgejbdalmjopiaaGM
namespace Go.X
open Go.Proofs
attribute [local irreducible] Good
end Go.X
