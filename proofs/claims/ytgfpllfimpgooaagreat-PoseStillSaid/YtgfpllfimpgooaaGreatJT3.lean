/- A point that is moved there and back again: how near it comes. Plain: no program in sight. -/
import Derived.Test.YtgfpllfimpgooaaGreatJT1
namespace Go.X

theorem cs3 (x y z e f g : Int) : (x * e + y * f + z * g) * (x * e + y * f + z * g) ≤ (x * x + y * y + z * z) * (e * e + f * f + g * g) := by
  have h1 := sq_nonneg (x * f - y * e)
  have h2 := sq_nonneg (x * g - z * e)
  have h3 := sq_nonneg (y * g - z * f)
  have e1 : (x * x + y * y + z * z) * (e * e + f * f + g * g) = (x * e + y * f + z * g) * (x * e + y * f + z * g) + ((x * f - y * e) * (x * f - y * e) + (x * g - z * e) * (x * g - z * e) + (y * g - z * f) * (y * g - z * f)) := by grind
  omega
end Go.X
