/- Package quat: exact products. -/
import Derived.Test.YtgfpllfimpgooaaGreatJMH
namespace Go.X
open Go.Proofs
attribute [local irreducible] Good
attribute [simp] Tryz.T_146
attribute [simp] Tryz.T_145
attribute [simp] Tryz.T_187
attribute [simp] Tryz.T_188
attribute [simp] Tryz.T_227
attribute [simp] Tryz.T_228
attribute [simp] Tryz.T_30

@[simp] theorem range_3 : List.range 3 = [0, 1, 2] := rfl
@[simp] theorem range_4 : List.range 4 = [0, 1, 2, 3] := rfl
end Go.X
