/- Quaternions: products and the rotation back, in package quat and in the reference 05. -/
import Derived.Test.YtgejbdalmjopiaaJMR
namespace Go.X
open Go.Proofs
attribute [local irreducible] Good

theorem InI_1 : InI 1 := by decide

end Go.X
