/- The root of any number is the document's. -/
import Derived.Test.YticlgpdmelhbhaaGH
import Derived.Test.YticlgpdmelhbhaaGR
namespace Go.X
open Go.Proofs
attribute [local irreducible] Good
set_option maxRecDepth 100000

noncomputable def lawSqrtS : List AV → PR
  | [.arr .u64 8 f] => if R8 f then .val (.bool true) else .fail
  | _ => .fail

set_option maxHeartbeats 40000000 in
theorem lawSqrt_ok : SumOk Try.prog 5 (pureS lawSqrtS) := by
  refine sum_fn (L := fun _ => none) (n := 1) (S := stOf [(21, pureS sqrtS), (18, pureS awakeS), (22, pureS sqrtS)]) drawS Try.T_ok
    (stOf_ok (by simp [sqrt_ok, awake_ok, rsqrt_ok])) Try.func5 rfl (by kernel_rfl) (by kernel_rfl) ?_
    (by intro args v h; unfold lawSqrtS at h; split at h <;> (try split at h) <;> simp at h)
  intro args v h
  unfold lawSqrtS at h
  split at h
  · rename_i f
    split at h
    · rename_i hf
      cases h
      refine ⟨by simp, by simp, by simp, ?_⟩
      by_cases hn : sval f < 0
      · simp [Try.f5, hf, hn, R8_limb, rootV, eqArr_iff]
      · simp [Try.f5, hf, hn, R8_limb, rootV, eqArr_iff]
    · simp at h
  · simp at h

end Go.X
