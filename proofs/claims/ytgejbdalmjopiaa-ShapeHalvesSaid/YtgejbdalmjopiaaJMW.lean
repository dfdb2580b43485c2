/- Quaternions: units, and a unit by its way back. -/
import Derived.Test.YtgejbdalmjopiaaJML
namespace Go.X
open Go.Proofs
attribute [local irreducible] Good
/-- how near to 1 -/
def NearOne (z w : Int) : Prop := z - 18446744073709551616 ≤ w ∧ 18446744073709551616 - z ≤ w
instance (z w : Int) : Decidable (NearOne z w) := inferInstanceAs (Decidable (_ ∧ _))
end Go.X
