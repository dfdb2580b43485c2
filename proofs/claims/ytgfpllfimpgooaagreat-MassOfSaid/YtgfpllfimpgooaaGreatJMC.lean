/- Package mat: rows, sums, products with vectors; minors and the determinant. -/
import Derived.Test.YtgfpllfimpgooaaGreatGM
namespace Go.X
open Go.Proofs
attribute [local irreducible] Good
attribute [simp] Tryz.T_52
attribute [simp] Tryz.T_54
attribute [simp] Tryz.T_203
attribute [simp] Tryz.T_205

/-- the determinant -/
def detI (a1 a2 a3 b1 b2 b3 c1 c2 c3 : Int) : Int := a1 * (b2 * c3 - b3 * c2) + a2 * (b3 * c1 - b1 * c3) + a3 * (b1 * c2 - b2 * c1)
theorem Bd.minor {a b c d : Int} (ha : Bd 63 a) (hb : Bd 63 b) (hc : Bd 63 c) (hd : Bd 63 d) : Bd 127 (a * b - c * d) := (ha.mul hb).sub (hc.mul hd)
theorem Bd.det {a1 a2 a3 b1 b2 b3 c1 c2 c3 : Int} (h1 : Bd 63 a1) (h2 : Bd 63 a2) (h3 : Bd 63 a3) (g1 : Bd 63 b1) (g2 : Bd 63 b2) (g3 : Bd 63 b3) (k1 : Bd 63 c1) (k2 : Bd 63 c2) (k3 : Bd 63 c3) : Bd 192 (detI a1 a2 a3 b1 b2 b3 c1 c2 c3) :=
  ((h1.mul (g2.minor k3 g3 k2)).add (h2.mul (g3.minor k1 g1 k3))).add ((h3.mul (g1.minor k2 g2 k1)).mono (by decide))

end Go.X
