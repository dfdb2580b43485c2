/- The root's square is not above the number, and the next number's is. -/
import Derived.Test.YticlgpdmelhbhaaWN
import Derived.Test.YticlgpdmelhbhaaXR
namespace Go.X
open Go.Proofs
attribute [local irreducible] Good

noncomputable def lawRootS : List AV → PR
  | [.arr .u64 8 f] => if R8 f then .val (.bool true) else .fail
  | _ => .fail

theorem rootI_spec {a : Int} (h0 : 0 ≤ a) (h : a < K5) : 0 ≤ rootI a ∧ rootI a * rootI a ≤ a ∧ a < (rootI a + 1) * (rootI a + 1) := by
  have key : ∃ r : Int, 0 ≤ r ∧ r * r ≤ a ∧ a < (r + 1) * (r + 1) := by
    obtain ⟨n, rfl⟩ := Int.eq_ofNat_of_zero_le h0
    clear h h0
    induction n with
    | zero => exact ⟨0, by decide, by decide, by decide⟩
    | succ n ih =>
      obtain ⟨r, h1, h2, h3⟩ := ih
      by_cases hn : (r + 1) * (r + 1) ≤ ((n + 1 : Nat) : Int)
      · refine ⟨r + 1, by omega, hn, ?_⟩
        have : (r + 1 + 1) * (r + 1 + 1) = (r + 1) * (r + 1) + 2 * r + 3 := by grind
        omega
      · exact ⟨r, h1, by omega, by omega⟩
  unfold rootI
  rw [dif_pos key]
  exact Classical.choose_spec key

set_option maxHeartbeats 4000000 in
theorem lawRoot_ok : SumOk Try.prog 8 (pureS lawRootS) := by
  refine sum_fn (L := fun i => if i = 5 then some (.eager 7 5) else none) (n := 1) (S := stOf [(21, pureS sqrtS), (26, pureS signS), (18, pureS awakeS), (16, pureS mulS), (25, pureS ofS), (32, pureS addS), (28, pureS cmpS)]) drawS Try.T_ok
    (stOf_ok (by simp [sqrt_ok, sign_ok, awake_ok, mul_ok, of_ok, add_ok, cmp_ok])) Try.func8 rfl (by kernel_rfl) (by kernel_rfl) ?_
    (by intro args v h; unfold lawRootS at h; split at h <;> (try split at h) <;> simp at h)
  intro args v h
  unfold lawRootS at h
  split at h
  · rename_i f
    split at h
    · rename_i hf
      cases h
      refine ⟨by simp, by simp, by simp, ?_⟩
      have r := sval_range hf
      by_cases hneg : sval f < 0
      · have hs : sgnI (sval f) < 0 := by unfold sgnI; rw [if_pos hneg]; decide
        have s3 : sval (limb 0) = 0 := sval_small (by omega)
        simp [Try.f8, hf, rootV, hneg, hs, eqArr_iff (R8_limb _) R8_zero, s3, sval_zero]
      · obtain ⟨r0, r1, r2⟩ := rootI_spec (by omega) r.2
        have hK := K5_pos
        have i1 : InW (rootI (sval f) * rootI (sval f)) := by
          have := Int.mul_nonneg r0 r0
          unfold InW; omega
        have hb : rootI (sval f) + 1 < K5 := by
          have h1 : (2 : Int) ≤ K5 := by unfold K5; omega
          by_cases h3 : rootI (sval f) < 3
          · have : (4 : Int) < K5 := by unfold K5; omega
            omega
          · have := Int.mul_le_mul_of_nonneg_left (show 3 ≤ rootI (sval f) by omega) r0
            omega
        have i0 : InW (rootI (sval f)) := by unfold InW; omega
        have i2 : InW (rootI (sval f) + 1) := by unfold InW; omega
        have s1 : sval (limb 1) = 1 := sval_small (by omega)
        have hs : 0 ≤ sgnI (rootI (sval f)) := by unfold sgnI; rw [if_neg (by omega)]; split <;> decide
        have hc : cmpI (rootI (sval f) * rootI (sval f)) (sval f) ≤ 0 := by unfold cmpI; split <;> (try split) <;> omega
        by_cases i3 : InW ((rootI (sval f) + 1) * (rootI (sval f) + 1))
        · have hd : 0 < cmpI ((rootI (sval f) + 1) * (rootI (sval f) + 1)) (sval f) := by unfold cmpI; split <;> (try split) <;> omega
          simp [Try.f8, hf, rootV, fitV, R8_limb, hneg, hs, sval_limb i0, sval_limb i1, sval_limb i2, sval_limb i3, s1, i1, i2, i3, hc, hd]
        · simp [Try.f8, hf, rootV, fitV, R8_limb, hneg, hs, sval_limb i0, sval_limb i1, sval_limb i2, s1, i1, i2, i3, hc]
    · simp at h
  · simp at h

end Go.X
