/- Package mat: rows, sums, products with vectors; minors and the determinant. -/
import Derived.Test.YtgfpllfimpgooaaGreatGM
namespace Go.X
open Go.Proofs
attribute [local irreducible] Good
attribute [simp] Tryz.T_52
attribute [simp] Tryz.T_54
attribute [simp] Tryz.T_203
attribute [simp] Tryz.T_205

/-- the determinant -/
def detI (a1 a2 a3 b1 b2 b3 c1 c2 c3 : Int) : Int := a1 * (b2 * c3 - b3 * c2) + a2 * (b3 * c1 - b1 * c3) + a3 * (b1 * c2 - b2 * c1)
theorem Bd.minor {a b c d : Int} (ha : Bd 63 a) (hb : Bd 63 b) (hc : Bd 63 c) (hd : Bd 63 d) : Bd 127 (a * b - c * d) := (ha.mul hb).sub (hc.mul hd)
theorem Bd.det {a1 a2 a3 b1 b2 b3 c1 c2 c3 : Int} (h1 : Bd 63 a1) (h2 : Bd 63 a2) (h3 : Bd 63 a3) (g1 : Bd 63 b1) (g2 : Bd 63 b2) (g3 : Bd 63 b3) (k1 : Bd 63 c1) (k2 : Bd 63 c2) (k3 : Bd 63 c3) : Bd 192 (detI a1 a2 a3 b1 b2 b3 c1 c2 c3) :=
  ((h1.mul (g2.minor k3 g3 k2)).add (h2.mul (g3.minor k1 g1 k3))).add ((h3.mul (g1.minor k2 g2 k1)).mono (by decide))

noncomputable def mturnedS : List AV → PR
  | [.agg [.int .i64 a1, .int .i64 a2, .int .i64 a3, .int .i64 b1, .int .i64 b2, .int .i64 b3, .int .i64 c1, .int .i64 c2, .int .i64 c3]] => .val (.agg [.int .i64 a1, .int .i64 b1, .int .i64 c1, .int .i64 a2, .int .i64 b2, .int .i64 c2, .int .i64 a3, .int .i64 b3, .int .i64 c3])
  | _ => .fail
@[simp] theorem mturnedS_val {a1 a2 a3 b1 b2 b3 c1 c2 c3 : Int} : mturnedS [.agg [.int .i64 a1, .int .i64 a2, .int .i64 a3, .int .i64 b1, .int .i64 b2, .int .i64 b3, .int .i64 c1, .int .i64 c2, .int .i64 c3]] = .val (.agg [.int .i64 a1, .int .i64 b1, .int .i64 c1, .int .i64 a2, .int .i64 b2, .int .i64 c2, .int .i64 a3, .int .i64 b3, .int .i64 c3]) := rfl
theorem mturned_ok : SumOk Tryz.prog 62 (pureS mturnedS) := by
  refine sum_fn (L := fun i => if i = 1 then some (.held 12 [3, 4, 5, 6, 7, 8]) else none) (n := 1) (S := stOf []) drawS Tryz.T_ok (stOf_ok (by simp)) Tryz.func62 rfl (by kernel_rfl) (by kernel_rfl) ?_
    (by intro args v h; unfold mturnedS at h; split at h <;> (try split at h) <;> simp at h)
  intro args v h
  unfold mturnedS at h
  split at h
  · rename_i a1 a2 a3 b1 b2 b3 c1 c2 c3
    cases h
    refine ⟨by simp, by simp, by simp, ?_⟩
    simp [Tryz.f62]
  · simp at h

end Go.X
