/- Sums, differences, and the number less than 0 by as much, of any numbers, are the document's, or do not fit. -/
import Derived.Test.YticlgpdmelhbhaaGF
import Derived.Test.YticlgpdmelhbhaaGR
namespace Go.X
open Go.Proofs
attribute [local irreducible] Good
set_option maxRecDepth 100000

noncomputable def lawSumsS : List AV → PR
  | [.arr .u64 8 f, .arr .u64 8 g] => if R8 f ∧ R8 g then .val (.bool true) else .fail
  | _ => .fail

set_option maxHeartbeats 40000000 in
theorem lawSums_ok : SumOk Try.prog 9 (pureS lawSumsS) := by
  refine sum_fn (L := fun _ => none) (n := 1) (S := stOf [(32, pureS addS), (33, pureS subS), (34, pureS negateS), (18, pureS awakeS), (35, pureS addS), (36, pureS subS)]) drawS Try.T_ok
    (stOf_ok (by simp [add_ok, sub_ok, negate_ok, awake_ok, radd_ok, rsub_ok])) Try.func9 rfl (by kernel_rfl) (by kernel_rfl) ?_
    (by intro args v h; unfold lawSumsS at h; split at h <;> (try split at h) <;> simp at h)
  intro args v h
  unfold lawSumsS at h
  split at h
  · rename_i f g
    split at h
    · rename_i hc
      obtain ⟨hf, hg⟩ := hc
      cases h
      refine ⟨by simp, by simp, by simp, ?_⟩
      have s0 := sval_zero
      simp (maxSteps := 10000000) [Try.f9, hf, hg, R8_limb, R8_zero, fitV, s0, eqArr_iff]
    · simp at h
  · simp at h

end Go.X
