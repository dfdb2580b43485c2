/- The moments of round shapes. -/
import Derived.Test.YtfhooccdhmkaoaaJS6
namespace Go.X
open Go.Proofs
attribute [local irreducible] Good

theorem clampI_mono {a b : Int} (h : a ≤ b) : clampI a ≤ clampI b := by
  unfold clampI
  (repeat' split) <;> (unfold InI at *; omega)
theorem momI_mono {m a b c d : Int} (hm : 0 ≤ m) (h : a * a + b * b ≤ c * c + d * d) : momI m a b ≤ momI m c d := by
  unfold momI
  refine clampI_mono ?_
  have e : ∀ n : Int, quoI n 3 = n / 3 := fun n => by unfold quoI; rw [if_pos (by decide)]
  rw [e, e]
  have h1 := Int.mul_le_mul_of_nonneg_left h hm
  omega
theorem one_btw {x : Int} (h : InI x) : clampI (4294967296 * x * 4294967296 / 18446744073709551616) = x := by
  rw [show 4294967296 * x * 4294967296 / 18446744073709551616 = x by omega]
  exact clampI_self h

noncomputable def lawRound10S : List AV → PR
  | [.int .i64 r, .int .i64 z, .int .i64 m] => open Classical in if InI r ∧ InI z ∧ InI m then .val (.bool true) else .fail
  | _ => .fail
@[simp] theorem lawRound10S_val {r z m : Int} (h : InI r ∧ InI z ∧ InI m) : lawRound10S [.int .i64 r, .int .i64 z, .int .i64 m] = .val (.bool true) := if_pos h
set_option maxHeartbeats 400000000 in
set_option maxRecDepth 100000 in
theorem lawRound10_ok : SumOk Try.prog 14 (pureS lawRound10S) := by
  refine sum_fn (L := fun i => if i = 5 then some (.held 8 [6]) else none) (n := 1) (S := stOf [(44, pureS mOfNS), (48, pureS mTurnS), (43, pureS awake10S), (49, pureS qOneS)]) drawS Try.T_ok (stOf_ok (by simp [mOfN_ok, mTurn_ok, awake10_ok, qOne_ok])) Try.func14 rfl (by kernel_rfl) (by kernel_rfl) ?_
    (by intro args v h; unfold lawRound10S at h; split at h <;> (try split at h) <;> simp at h)
  intro args v h
  unfold lawRound10S at h
  split at h
  · rename_i r z m
    split at h
    · rename_i hc
      obtain ⟨hr, hz, hm⟩ := hc
      cases h
      refine ⟨by simp, by simp, by simp, ?_⟩
      have t0 : TurnP 4294967296 0 0 0 := by decide
      have e00 : clampI (quoI (r00 4294967296 0 0 0 * 4294967296) (sq4 4294967296 0 0 0)) = 4294967296 := by decide +kernel
      have e01 : clampI (quoI (r01 4294967296 0 0 0 * 4294967296) (sq4 4294967296 0 0 0)) = 0 := by decide +kernel
      have e02 : clampI (quoI (r02 4294967296 0 0 0 * 4294967296) (sq4 4294967296 0 0 0)) = 0 := by decide +kernel
      have e10 : clampI (quoI (r10 4294967296 0 0 0 * 4294967296) (sq4 4294967296 0 0 0)) = 0 := by decide +kernel
      have e11 : clampI (quoI (r11 4294967296 0 0 0 * 4294967296) (sq4 4294967296 0 0 0)) = 4294967296 := by decide +kernel
      have e12 : clampI (quoI (r12 4294967296 0 0 0 * 4294967296) (sq4 4294967296 0 0 0)) = 0 := by decide +kernel
      have e20 : clampI (quoI (r20 4294967296 0 0 0 * 4294967296) (sq4 4294967296 0 0 0)) = 0 := by decide +kernel
      have e21 : clampI (quoI (r21 4294967296 0 0 0 * 4294967296) (sq4 4294967296 0 0 0)) = 0 := by decide +kernel
      have e22 : clampI (quoI (r22 4294967296 0 0 0 * 4294967296) (sq4 4294967296 0 0 0)) = 4294967296 := by decide +kernel
      have i0 : InI 0 := by decide
      have i1 : InI 1 := by decide
      have i2 : InI 2 := by decide
      have i3 : InI 4294967296 := by decide
      have c0 : clampI 0 = 0 := by decide
      by_cases lo : 16777216 ≤ m
      · by_cases hi : m ≤ 4503599627370496
        · by_cases o1 : OkN 1 r 0 0 0
          · by_cases o2 : OkN 2 r 0 0 z
            · obtain ⟨hq, r0, r1, hs⟩ := may_in o2
              have z0 : 0 ≤ z := by omega
              have ms : momI m r r ≤ momI m r (z + r) := momI_mono (by omega) (by
                have h1 : (z + r) * (z + r) = z * z + 2 * (z * r) + r * r := by grind
                have h2 := Int.mul_nonneg z0 r0
                have h3 := sq_nonneg z
                omega)
              simp (maxSteps := 10000000) [hr, hz, hm, Try.f14, lo, hi, o1, o2, Int.not_lt.2 ms, t0, e00, e01, e02, e10, e11, e12, e20, e21, e22, i0, i1, i2, i3, c0, one_btw momI_in, momI_in]
            · simp (maxSteps := 10000000) [hr, hz, hm, Try.f14, lo, hi, o1, o2, t0, e00, e01, e02, e10, e11, e12, e20, e21, e22, i0, i1, i2, i3, c0]
          · by_cases o2 : OkN 2 r 0 0 z
            · obtain ⟨hq, r0, r1, hs⟩ := may_in o2
              have z0 : 0 ≤ z := by omega
              have ms : momI m r r ≤ momI m r (z + r) := momI_mono (by omega) (by
                have h1 : (z + r) * (z + r) = z * z + 2 * (z * r) + r * r := by grind
                have h2 := Int.mul_nonneg z0 r0
                have h3 := sq_nonneg z
                omega)
              simp (maxSteps := 10000000) [hr, hz, hm, Try.f14, lo, hi, o1, o2, Int.not_lt.2 ms, t0, e00, e01, e02, e10, e11, e12, e20, e21, e22, i0, i1, i2, i3, c0, one_btw momI_in, momI_in]
            · simp (maxSteps := 10000000) [hr, hz, hm, Try.f14, lo, hi, o1, o2, t0, e00, e01, e02, e10, e11, e12, e20, e21, e22, i0, i1, i2, i3, c0]
        · simp (maxSteps := 10000000) [hr, hz, hm, Try.f14, lo, hi, t0, e00, e01, e02, e10, e11, e12, e20, e21, e22, i0, i1, i2, i3, c0]
      · simp (maxSteps := 10000000) [hr, hz, hm, Try.f14, lo, t0, e00, e01, e02, e10, e11, e12, e20, e21, e22, i0, i1, i2, i3, c0]
    · simp at h
  · simp at h

end Go.X
