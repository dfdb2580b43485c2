/- Package quat: whether one is a rotation; products. -/
import Derived.Test.YtgejbdalmjopiaaJMQ
namespace Go.X
open Go.Proofs
attribute [local irreducible] Good
attribute [simp] Try.T_29

def sq4 (a b c d : Int) : Int := a * a + b * b + c * c + d * d
/-- is it a rotation? -/
def TurnP (a b c d : Int) : Prop := 4611686018427387904 ≤ sq4 a b c d ∧ sq4 a b c d ≤ 73786976294838206464
instance (a b c d : Int) : Decidable (TurnP a b c d) := inferInstanceAs (Decidable (_ ∧ _))
end Go.X
