/- How a body resists. -/
import Derived.Test.YtgejbdalmjopiaaGreatGI
import Derived.Test.YtgejbdalmjopiaaGreatJS6
import Derived.Test.YtgejbdalmjopiaaGreatJUM
namespace Go.X
open Go.Proofs
attribute [local irreducible] Good
attribute [simp] Tryz.T_41
theorem bo_parts {ident kd r x y z p1 p2 p3 q0 q1 q2 q3 M vx vy vz wx wy wz rub : Int} {n : Nat} {f : Nat → Int} (h : boI ident kd r x y z n f p1 p2 p3 q0 q1 q2 q3 M vx vy vz wx wy wz rub = 0) : (1 ≤ ident ∧ ident ≤ 4096) ∧ thI kd r x y z n f p1 p2 p3 q0 q1 q2 q3 = 0 ∧ FineP M vx vy vz wx wy wz ∧ 0 ≤ rub ∧ rub ≤ 17179869184 := by
  unfold boI at h
  split at h
  · omega
  · rename_i d
    split at h
    · rename_i th
      split at h
      · rename_i g
        exact ⟨by omega, th, g⟩
      · omega
    · rename_i th; exact absurd h th
theorem th_parts {kd r x y z p1 p2 p3 q0 q1 q2 q3 : Int} {n : Nat} {f : Nat → Int} (h : thI kd r x y z n f p1 p2 p3 q0 q1 q2 q3 = 0) : Place p1 p2 p3 ∧ TurnP q0 q1 q2 q3 ∧ ckI kd r x y z n f = 0 := by
  unfold thI at h
  split at h
  · rename_i pl
    split at h
    · rename_i tt; exact ⟨pl, tt, h⟩
    · omega
  · omega
end Go.X
