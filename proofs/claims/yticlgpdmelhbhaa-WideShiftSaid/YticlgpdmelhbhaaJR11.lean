/- Any number times a power of two, and by one, is the document's. -/
import Derived.Test.YticlgpdmelhbhaaGH
import Derived.Test.YticlgpdmelhbhaaGR
namespace Go.X
open Go.Proofs
attribute [local irreducible] Good
set_option maxRecDepth 100000

noncomputable def lawShiftS : List AV → PR
  | [.arr .u64 8 f, .int .i64 n] => if R8 f ∧ n < 9223372036854775808 then .val (.bool true) else .fail
  | _ => .fail

set_option maxHeartbeats 40000000 in
theorem lawShift_ok : SumOk Try.prog 11 (pureS lawShiftS) := by
  refine sum_fn (L := fun _ => none) (n := 1) (S := stOf [(37, pureS shlS), (39, pureS shrS), (18, pureS awakeS), (38, pureS shlS), (40, pureS shrS)]) drawS Try.T_ok
    (stOf_ok (by simp [shl_ok, shr_ok, awake_ok, rshl_ok, rshr_ok])) Try.func11 rfl (by kernel_rfl) (by kernel_rfl) ?_
    (by intro args v h; unfold lawShiftS at h; split at h <;> (try split at h) <;> simp at h)
  intro args v h
  unfold lawShiftS at h
  split at h
  · rename_i f n
    split at h
    · rename_i hc
      obtain ⟨hf, hn⟩ := hc
      cases h
      refine ⟨by simp, by simp, by simp, ?_⟩
      by_cases h0 : n < 0
      · simp [Try.f11, hf, hn, h0, R8_limb, shlV, eqArr_iff]
      · simp [Try.f11, hf, hn, h0, R8_limb, shlV, fitV, eqArr_iff]
    · simp at h
  · simp at h

end Go.X
