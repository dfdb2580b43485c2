/- The points of a shape in a pose are the document's. -/
import Derived.Test.YtgejbdalmjopiaaGreatJUN
import Derived.Test.YtgejbdalmjopiaaGreatGW
namespace Go.X
open Go.Proofs
attribute [local irreducible] Good
@[simp] theorem EqL_self {n : Nat} {f : Nat → Int} : EqL n n f f ↔ True := ⟨fun _ => trivial, fun _ => ⟨rfl, fun _ _ => rfl⟩⟩
end Go.X
