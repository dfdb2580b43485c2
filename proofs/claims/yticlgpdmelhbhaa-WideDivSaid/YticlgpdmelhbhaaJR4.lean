/- Any number by any other one, and what is left, are the document's. -/
import Derived.Test.YticlgpdmelhbhaaGH
import Derived.Test.YticlgpdmelhbhaaGR
namespace Go.X
open Go.Proofs
attribute [local irreducible] Good
set_option maxRecDepth 100000

noncomputable def lawDivS : List AV → PR
  | [.arr .u64 8 f, .arr .u64 8 g] => if R8 f ∧ R8 g then .val (.bool true) else .fail
  | _ => .fail

set_option maxHeartbeats 40000000 in
theorem lawDiv_ok : SumOk Try.prog 4 (pureS lawDivS) := by
  refine sum_fn (L := fun _ => none) (n := 1) (S := stOf [(19, pureS divS), (18, pureS awakeS), (20, pureS divS)]) drawS Try.T_ok
    (stOf_ok (by simp [div_ok, awake_ok, rdiv_ok])) Try.func4 rfl (by kernel_rfl) (by kernel_rfl) ?_
    (by intro args v h; unfold lawDivS at h; split at h <;> (try split at h) <;> simp at h)
  intro args v h
  unfold lawDivS at h
  split at h
  · rename_i f g
    split at h
    · rename_i hc
      obtain ⟨hf, hg⟩ := hc
      cases h
      refine ⟨by simp, by simp, by simp, ?_⟩
      by_cases hq : sval g ≠ 0 ∧ InW (quoI (sval f) (sval g))
      · have hV : quoV (sval f) (sval g) = .tup [W (quoI (sval f) (sval g)), W (remI (sval f) (sval g)), .bool true] := if_pos hq
        simp (maxSteps := 10000000) [Try.f4, hf, hg, R8_limb, hV, eqArr_iff]
      · have hV : quoV (sval f) (sval g) = .tup [W 0, W 0, .bool false] := if_neg hq
        simp (maxSteps := 10000000) [Try.f4, hf, hg, R8_limb, hV, eqArr_iff]
    · simp at h
  · simp at h

end Go.X
