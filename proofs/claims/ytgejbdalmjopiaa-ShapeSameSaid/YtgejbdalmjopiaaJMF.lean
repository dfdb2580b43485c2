/- The reference's inverse; what is always told of matrices; solving, in package mat. -/
import Derived.Test.YtgejbdalmjopiaaJME
namespace Go.X
open Go.Proofs
attribute [local irreducible] Good
theorem InI_one : InI 4294967296 := by decide
end Go.X
