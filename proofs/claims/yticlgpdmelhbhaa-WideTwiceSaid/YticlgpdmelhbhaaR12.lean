/- Shifts add up, either way, and a shift to the left is the product with a power of two. -/
import Derived.Test.YticlgpdmelhbhaaZ8
import Derived.Test.YticlgpdmelhbhaaXR
namespace Go.X
open Go.Proofs
attribute [local irreducible] Good
set_option maxRecDepth 100000

noncomputable def lawTwiceS : List AV → PR
  | [.arr .u64 8 f, .int .i64 g, .int .i64 c] => if R8 f ∧ (-9223372036854775808 ≤ g ∧ g < 9223372036854775808) ∧ (-9223372036854775808 ≤ c ∧ c < 9223372036854775808) then .val (.bool true) else .fail
  | _ => .fail

set_option maxHeartbeats 40000000 in
theorem lawTwice_ok : SumOk Try.prog 12 (pureS lawTwiceS) := by
  refine sum_fn (L := fun _ => none) (n := 1) (S := stOf [(39, pureS shrS), (37, pureS shlS), (25, pureS ofS), (16, pureS mulS), (18, pureS awakeS)]) drawS Try.T_ok
    (stOf_ok (by simp [shr_ok, shl_ok, of_ok, mul_ok, awake_ok])) Try.func12 rfl (by kernel_rfl) (by kernel_rfl) ?_
    (by intro args v h; unfold lawTwiceS at h; split at h <;> (try split at h) <;> simp at h)
  intro args v h
  unfold lawTwiceS at h
  split at h
  · rename_i f g c
    split at h
    · rename_i hc
      obtain ⟨hf, hg, hc⟩ := hc
      cases h
      refine ⟨by simp, by simp, by simp, ?_⟩
      have ra := sval_range hf
      by_cases b1 : g < 0
      · simp [Try.f12, b1]
      · by_cases b2 : c < 0
        · simp [Try.f12, b1, b2]
        · by_cases b3 : 600 < g
          · simp [Try.f12, b1, b2, b3]
          · by_cases b4 : 600 < c
            · simp [Try.f12, b1, b2, b3, b4]
            · have hw : IntKind.i64.wrap (g + c) = g + c := wrap_i64_in (by omega) (by omega)
              have hs : ¬ g + c < 0 := by omega
              have ha : g + c < 9223372036854775808 := by omega
              have p1 := pow_2_pos (min g 511).toNat
              have i1 : InW (sval f / 2 ^ (min g 511).toNat) := InW_ediv ra p1
              have hshr : sval f / 2 ^ (min g 511).toNat / 2 ^ (min c 511).toNat = sval f / 2 ^ (min (g + c) 511).toNat := by
                rw [Int.ediv_ediv_of_nonneg (Int.le_of_lt p1), ← Int.pow_add]
                by_cases h : g + c ≤ 511
                · congr 2; omega
                · rw [shr_all ra (by omega), shr_all ra (by omega)]
              have hmul : sval f * 2 ^ g.toNat * 2 ^ c.toNat = sval f * 2 ^ (g + c).toNat := by
                rw [Int.mul_assoc, ← Int.pow_add]; congr 2; omega
              have hno : ¬ InW (sval f * 2 ^ g.toNat) → ¬ InW (sval f * 2 ^ (g + c).toNat) := by
                intro h1 h2
                rw [← hmul] at h2
                have := InW_ediv h2 (pow_2_pos c.toNat)
                rw [Int.mul_ediv_cancel _ (Int.ne_of_gt (pow_2_pos _))] at this
                exact h1 this
              have q1 := eqArr_iff (R8_limb (sval f / 2 ^ (min (g + c) 511).toNat)) (R8_limb (sval f / 2 ^ (min (g + c) 511).toNat))
              have s1 : sval (limb 1) = 1 := sval_small (by omega)
              by_cases e : InW (sval f * 2 ^ g.toNat)
              · have w := sval_limb e
                by_cases h5 : 510 < g
                · simp [Try.f12, hf, hg, hc, R8_limb, fitV, shlV, b1, b2, b3, b4, hw, hs, ha, sval_limb i1, hshr, q1, e, w, hmul, h5, eqArr_iff]
                · have i2 : InW (2 ^ g.toNat) := InW_pow (by omega)
                  simp [Try.f12, hf, hg, hc, R8_limb, fitV, shlV, b1, b2, b3, b4, hw, hs, ha, sval_limb i1, hshr, q1, e, w, hmul, h5, s1, i2, sval_limb i2, eqArr_iff]
              · have h6 := hno e
                by_cases h5 : 510 < g
                · simp [Try.f12, hf, hg, hc, R8_limb, fitV, shlV, b1, b2, b3, b4, hw, hs, ha, sval_limb i1, hshr, q1, e, h6, h5]
                · have i2 : InW (2 ^ g.toNat) := InW_pow (by omega)
                  simp [Try.f12, hf, hg, hc, R8_limb, fitV, shlV, b1, b2, b3, b4, hw, hs, ha, sval_limb i1, hshr, q1, e, h6, h5, s1, i2, sval_limb i2, eqArr_iff]
    · simp at h
  · simp at h

end Go.X
