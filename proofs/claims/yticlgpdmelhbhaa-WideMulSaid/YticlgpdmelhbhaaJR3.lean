/- The product of any numbers is the document's, or does not fit. -/
import Derived.Test.YticlgpdmelhbhaaGF
import Derived.Test.YticlgpdmelhbhaaGR
namespace Go.X
open Go.Proofs
attribute [local irreducible] Good
set_option maxRecDepth 100000

noncomputable def lawMulS : List AV → PR
  | [.arr .u64 8 f, .arr .u64 8 g] => if R8 f ∧ R8 g then .val (.bool true) else .fail
  | _ => .fail

set_option maxHeartbeats 40000000 in
theorem lawMul_ok : SumOk Try.prog 3 (pureS lawMulS) := by
  refine sum_fn (L := fun _ => none) (n := 1) (S := stOf [(16, pureS mulS), (18, pureS awakeS), (17, pureS mulS)]) drawS Try.T_ok
    (stOf_ok (by simp [mul_ok, awake_ok, rmul_ok])) Try.func3 rfl (by kernel_rfl) (by kernel_rfl) ?_
    (by intro args v h; unfold lawMulS at h; split at h <;> (try split at h) <;> simp at h)
  intro args v h
  unfold lawMulS at h
  split at h
  · rename_i f g
    split at h
    · rename_i hc
      obtain ⟨hf, hg⟩ := hc
      cases h
      refine ⟨by simp, by simp, by simp, ?_⟩
      simp (maxSteps := 10000000) [Try.f3, hf, hg, R8_limb, fitV, eqArr_iff]
    · simp at h
  · simp at h

end Go.X
