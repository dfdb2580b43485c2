/- Numbers are made of int64 numbers, and told as such, as the document says; and their signs, their order, how many bits they have. -/
import Derived.Test.YticlgpdmelhbhaaGF
import Derived.Test.YticlgpdmelhbhaaGR
namespace Go.X
open Go.Proofs
attribute [local irreducible] Good
set_option maxRecDepth 100000

noncomputable def lawSmallS : List AV → PR
  | [.int .i64 f, .arr .u64 8 g, .arr .u64 8 c] => if (-9223372036854775808 ≤ f ∧ f < 9223372036854775808) ∧ R8 g ∧ R8 c then .val (.bool true) else .fail
  | _ => .fail

set_option maxHeartbeats 40000000 in
theorem lawSmall_ok : SumOk Try.prog 6 (pureS lawSmallS) := by
  refine sum_fn (L := fun _ => none) (n := 1) (S := stOf [(25, pureS ofS), (23, pureS intS), (26, pureS signS), (28, pureS cmpS), (30, pureS bitsS), (18, pureS awakeS), (24, pureS ofS), (27, pureS signS), (29, pureS cmpS), (31, pureS bitsS)]) drawS Try.T_ok
    (stOf_ok (by simp [of_ok, int_ok, sign_ok, cmp_ok, bits_ok, awake_ok, small_ok, rsign_ok, rcmp_ok, rcount_ok])) Try.func6 rfl (by kernel_rfl) (by kernel_rfl) ?_
    (by intro args v h; unfold lawSmallS at h; split at h <;> (try split at h) <;> simp at h)
  intro args v h
  unfold lawSmallS at h
  split at h
  · rename_i f g c
    split at h
    · rename_i hc
      obtain ⟨hf, hg, hc⟩ := hc
      cases h
      refine ⟨by simp, by simp, by simp, ?_⟩
      have r := sval_range hg
      have g0 : g 0 = sval g % 18446744073709551616 := by rw [limb_sval hg 0 (by omega)]; rfl
      have hw : -9223372036854775808 ≤ IntKind.i64.wrap (g 0) ∧ IntKind.i64.wrap (g 0) < 9223372036854775808 := by simp only [IntKind.wrap_i64]; omega
      have wv := sval_small hw
      have hz0 : blen (if sval g < 0 then - sval g else sval g) = blen (if sval g < 0 then - sval g else sval g) := rfl
      by_cases hi : InI (sval g)
      · have e : IntKind.i64.wrap (g 0) = sval g := by rw [g0, wrap_i64_u64, IntKind.wrap_i64]; unfold InI at hi; omega
        rw [e] at wv hw
        simp (maxSteps := 10000000) [Try.f6, hf, hg, hc, hw, R8_limb, R8_zero, hi, e, wv, eqArr_iff]
      · have ne : ¬ IntKind.i64.wrap (g 0) = sval g := by
          intro h; rw [h] at hw; exact hi hw
        simp (maxSteps := 10000000) [Try.f6, hf, hg, hc, hw, R8_limb, R8_zero, hi, ne, wv, eqArr_iff]
    · simp at h
  · simp at h

end Go.X
