/- The product of two units: how near its matrix is to the product of theirs. Plain: no program in sight. -/
import Derived.Test.YtgejbdalmjopiaaJML
namespace Go.X

theorem mulb {a b p q : Int} (ha : -p ≤ a ∧ a ≤ p) (hb : -q ≤ b ∧ b ≤ q) : -(p * q) ≤ a * b ∧ a * b ≤ p * q := by
  have h1 := Int.mul_nonneg (show 0 ≤ p - a by omega) (show 0 ≤ q - b by omega)
  have h2 := Int.mul_nonneg (show 0 ≤ p + a by omega) (show 0 ≤ q + b by omega)
  have h3 := Int.mul_nonneg (show 0 ≤ p - a by omega) (show 0 ≤ q + b by omega)
  have h4 := Int.mul_nonneg (show 0 ≤ p + a by omega) (show 0 ≤ q - b by omega)
  have e1 : (p - a) * (q - b) + (p + a) * (q + b) = 2 * (p * q) + 2 * (a * b) := by grind
  have e2 : (p - a) * (q + b) + (p + a) * (q - b) = 2 * (p * q) - 2 * (a * b) := by grind
  omega
end Go.X
