/- Signs of the determinant; quotients; diagonals. -/
import Derived.Test.YtgfpllfimpgooaaGreatJMG
namespace Go.X
open Go.Proofs
attribute [local irreducible] Good
attribute [simp] Tryz.T_238
attribute [simp] Tryz.T_249

/-- within, and not at an end -/
def Inner (a : Int) : Prop := -9223372036854775807 < a ∧ a < 9223372036854775807
instance (a : Int) : Decidable (Inner a) := inferInstanceAs (Decidable (_ ∧ _))
@[simp] theorem quoI_nil {b : Int} : quoI 0 b = 0 := by unfold quoI; split <;> simp
@[simp] theorem clampI_nil : clampI 0 = 0 := by decide

end Go.X
