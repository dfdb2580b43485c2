/- The reference's inverse; what is always told of matrices; solving, in package mat. -/
import Derived.Test.YtgfpllfimpgooaaGreatJME
namespace Go.X
open Go.Proofs
attribute [local irreducible] Good
theorem InI_zero : InI 0 := by decide

end Go.X
