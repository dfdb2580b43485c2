/- Sub undoes Add, Neg itself, and Shr Shl, where they fit. -/
import Derived.Test.YticlgpdmelhbhaaWN
import Derived.Test.YticlgpdmelhbhaaXR
namespace Go.X
open Go.Proofs
attribute [local irreducible] Good

noncomputable def lawUndoneS : List AV → PR
  | [.arr .u64 8 f, .arr .u64 8 g, .int .i64 c] => if R8 f ∧ R8 g ∧ (-9223372036854775808 ≤ c ∧ c < 9223372036854775808) then .val (.bool true) else .fail
  | _ => .fail

set_option maxHeartbeats 40000000 in
theorem lawUndone_ok : SumOk Try.prog 15 (pureS lawUndoneS) := by
  refine sum_fn (L := fun _ => none) (n := 1) (S := stOf [(32, pureS addS), (33, pureS subS), (34, pureS negateS), (37, pureS shlS), (39, pureS shrS), (18, pureS awakeS)]) drawS Try.T_ok
    (stOf_ok (by simp [add_ok, sub_ok, negate_ok, shl_ok, shr_ok, awake_ok])) Try.func15 rfl (by kernel_rfl) (by kernel_rfl) ?_
    (by intro args v h; unfold lawUndoneS at h; split at h <;> (try split at h) <;> simp at h)
  intro args v h
  unfold lawUndoneS at h
  split at h
  · rename_i f g c
    split at h
    · rename_i hc
      obtain ⟨hf, hg, hc⟩ := hc
      cases h
      refine ⟨by simp, by simp, by simp, ?_⟩
      have ra := sval_range hf; have rb := sval_range hg
      have la : sval (limb (sval f)) = sval f := sval_limb ra
      have s0 : sval (limb 0) = 0 := sval_small (by omega)
      have i0 : InW 0 := InW_small (by omega)
      have hsub : sval f + sval g - sval g = sval f := by omega
      have ia : InW (sval f) := ra
      have q1 := eqArr_iff (R8_limb (sval f)) hf
      by_cases hn : c < 0
      · by_cases i1 : InW (sval f + sval g) <;> by_cases i2 : InW (- sval f)
        · simp [Try.f15, hf, hg, hc, R8_limb, fitV, shlV, i1, i2, hn, sval_limb i1, sval_limb i2, hsub, ia, q1, la]
        · simp [Try.f15, hf, hg, hc, R8_limb, fitV, shlV, i1, i2, hn, sval_limb i1, hsub, ia, q1, la]
        · simp [Try.f15, hf, hg, hc, R8_limb, fitV, shlV, i1, i2, hn, sval_limb i2, ia, q1, la]
        · simp [Try.f15, hf, hg, hc, R8_limb, fitV, shlV, i1, i2, hn]
      · by_cases i3 : InW (sval f * 2 ^ c.toNat)
        · have hd : sval f * 2 ^ c.toNat / 2 ^ (min c 511).toNat = sval f := by
            by_cases h5 : c ≤ 511
            · rw [show min c 511 = c from by omega]
              exact Int.mul_ediv_cancel _ (Int.ne_of_gt (pow_2_pos _))
            · have hz : sval f = 0 := Classical.byContradiction fun h => shl_far h (show 511 < c.toNat by omega) i3
              rw [hz, Int.zero_mul, Int.zero_ediv]
          have w3 := sval_limb i3
          by_cases i1 : InW (sval f + sval g) <;> by_cases i2 : InW (- sval f)
          · simp [Try.f15, hf, hg, hc, R8_limb, fitV, shlV, i1, i2, i3, hn, sval_limb i1, sval_limb i2, w3, hd, hsub, ia, q1, la]
          · simp [Try.f15, hf, hg, hc, R8_limb, fitV, shlV, i1, i2, i3, hn, sval_limb i1, w3, hd, hsub, ia, q1, la]
          · simp [Try.f15, hf, hg, hc, R8_limb, fitV, shlV, i1, i2, i3, hn, sval_limb i2, w3, hd, ia, q1, la]
          · simp [Try.f15, hf, hg, hc, R8_limb, fitV, shlV, i1, i2, i3, hn, w3, hd, q1, la]
        · by_cases i1 : InW (sval f + sval g) <;> by_cases i2 : InW (- sval f)
          · simp [Try.f15, hf, hg, hc, R8_limb, fitV, shlV, i1, i2, i3, hn, sval_limb i1, sval_limb i2, hsub, ia, q1, la]
          · simp [Try.f15, hf, hg, hc, R8_limb, fitV, shlV, i1, i2, i3, hn, sval_limb i1, hsub, ia, q1, la]
          · simp [Try.f15, hf, hg, hc, R8_limb, fitV, shlV, i1, i2, i3, hn, sval_limb i2, ia, q1, la]
          · simp [Try.f15, hf, hg, hc, R8_limb, fitV, shlV, i1, i2, i3, hn]
    · simp at h
  · simp at h

end Go.X
