/- Moments of a shape: none is above the two others together; more mass, no less of them. Plain: no program in sight. -/
import Derived.Test.YtgejbdalmjopiaaJS3
namespace Go.X
open Go.Proofs
attribute [local irreducible] Good
theorem momI_div {m a b : Int} : momI m a b = clampI (m * (a * a + b * b) / 55340232221128654848) := by
  rw [← momI_other]
  unfold quoI
  rw [if_pos (by decide)]
theorem momI_nn {m a b : Int} (hm : 0 ≤ m) : 0 ≤ momI m a b := by
  rw [momI_div]
  have h := Int.mul_nonneg hm (show 0 ≤ a * a + b * b by have := sq_nonneg a; have := sq_nonneg b; omega)
  unfold clampI InI; (repeat' split) <;> omega
theorem momI_swap {m a b : Int} : momI m a b = momI m b a := by
  unfold momI; rw [Int.add_comm]
theorem momI_more {m n a b : Int} (h : m ≤ n) : momI m a b ≤ momI n a b := by
  rw [momI_div, momI_div]
  have h1 := Int.mul_le_mul_of_nonneg_right h (show 0 ≤ a * a + b * b by have := sq_nonneg a; have := sq_nonneg b; omega)
  unfold clampI InI; (repeat' split) <;> omega
theorem mom_side {m a b c : Int} (hm : 0 ≤ m) : momI m b c ≤ clampI (clampI (momI m a c + momI m a b) + 1) := by
  rw [momI_div, momI_div, momI_div]
  have hA := Int.mul_nonneg hm (show 0 ≤ a * a + c * c by have := sq_nonneg a; have := sq_nonneg c; omega)
  have hB := Int.mul_nonneg hm (show 0 ≤ a * a + b * b by have := sq_nonneg a; have := sq_nonneg b; omega)
  have hC : m * (b * b + c * c) ≤ m * (a * a + c * c) + m * (a * a + b * b) := by
    have h1 := Int.mul_nonneg hm (sq_nonneg a)
    have e : m * (a * a + c * c) + m * (a * a + b * b) = m * (b * b + c * c) + 2 * (m * (a * a)) := by grind
    omega
  generalize m * (a * a + c * c) = A at *
  generalize m * (a * a + b * b) = B at *
  generalize m * (b * b + c * c) = C at *
  unfold clampI InI
  (repeat' split) <;> omega
end Go.X
