/- Shifts, and what is within: more laws. Plain arithmetic. -/
import Derived.Test.YticlgpdmelhbhaaWN
namespace Go.X

theorem shr_all {a : Int} (h : InW a) {k : Nat} (hk : 511 ≤ k) : a / 2 ^ k = if a < 0 then -1 else 0 := by
  have h1 : (2 : Int) ^ 511 ≤ 2 ^ k := pow_le hk
  rw [pow_2_511] at h1
  obtain ⟨h2, h3⟩ := h
  have hp := pow_2_pos k
  by_cases ha : a < 0
  · rw [if_pos ha, Int.ediv_eq_iff_of_pos hp]; omega
  · rw [if_neg ha]; exact Int.ediv_eq_zero_of_lt (by omega) (by omega)
theorem InW_pow {k : Nat} (hk : k ≤ 510) : InW (2 ^ k) := by
  have h1 : (2 : Int) ^ k ≤ 2 ^ 510 := pow_le hk
  have h2 := pow_2_511
  rw [show (511 : Nat) = 510 + 1 from rfl, Int.pow_succ] at h2
  have h3 := pow_2_pos k
  have h4 := pow_2_pos 510
  generalize (2 : Int) ^ 510 = p at *
  generalize (2 : Int) ^ k = q at *
  unfold InW
  omega

theorem blen_gt_pow {z : Int} {k : Nat} (h : 2 ^ k ≤ z) : (k : Int) < blen z := by
  have h0 := pow_2_pos k
  have h1 := blen_lt (show 0 ≤ z by omega)
  have h2 := blen_nonneg z
  rcases Nat.lt_or_ge k (blen z).toNat with h3 | h3
  · omega
  · have := pow_le h3; omega
theorem blen_mul {a b : Int} (ha : 0 < a) (hb : 0 < b) : blen (a * b) = blen a + blen b ∨ blen (a * b) = blen a + blen b - 1 := by
  have a0 := blen_lt (Int.le_of_lt ha); have b0 := blen_lt (Int.le_of_lt hb)
  obtain ⟨a1, a2⟩ := blen_ge ha; obtain ⟨b1, b2⟩ := blen_ge hb
  have h1 : a * b < 2 ^ ((blen a).toNat + (blen b).toNat) := by
    rw [Int.pow_add]
    have := Int.mul_lt_mul_of_pos_right a0 hb
    have := Int.mul_le_mul_of_nonneg_left (Int.le_of_lt b0) (Int.le_of_lt (pow_2_pos (blen a).toNat))
    omega
  have h2 : 2 ^ (((blen a).toNat - 1) + ((blen b).toNat - 1)) ≤ a * b := by
    rw [Int.pow_add]
    exact Int.mul_le_mul a2 b2 (Int.le_of_lt (pow_2_pos _)) (Int.le_of_lt ha)
  have h3 := blen_le_pow _ h1
  have h4 := blen_gt_pow h2
  omega
def absI (z : Int) : Int := if z < 0 then -z else z
theorem absI_mul (a b : Int) : absI (a * b) = absI a * absI b := by
  unfold absI
  rcases Int.lt_trichotomy a 0 with ha | ha | ha
  · rcases Int.lt_trichotomy b 0 with hb | hb | hb
    · have := Int.mul_pos_of_neg_of_neg ha hb
      rw [if_neg (by omega), if_pos ha, if_pos hb, Int.neg_mul_neg]
    · subst hb; simp
    · have := Int.mul_neg_of_neg_of_pos ha hb
      rw [if_pos this, if_pos ha, if_neg (by omega), Int.neg_mul]
  · subst ha; simp
  · rcases Int.lt_trichotomy b 0 with hb | hb | hb
    · have := Int.mul_neg_of_pos_of_neg ha hb
      rw [if_pos this, if_neg (by omega), if_pos hb, Int.mul_neg]
    · subst hb; simp
    · have := Int.mul_pos ha hb
      rw [if_neg (by omega), if_neg (by omega), if_neg (by omega)]
theorem absI_pos {z : Int} (h : z ≠ 0) : 0 < absI z := by unfold absI; split <;> omega

end Go.X
