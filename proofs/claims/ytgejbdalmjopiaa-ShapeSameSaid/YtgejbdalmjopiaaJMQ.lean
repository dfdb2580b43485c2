/- Package quat: exact products. -/
import Derived.Test.YtgejbdalmjopiaaJMH
namespace Go.X
open Go.Proofs
attribute [local irreducible] Good
@[simp] theorem range_3 : List.range 3 = [0, 1, 2] := rfl
@[simp] theorem range_4 : List.range 4 = [0, 1, 2, 3] := rfl
end Go.X
