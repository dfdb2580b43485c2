/- Numbers of eight limbs: shifts to the left, as arithmetic. -/
import Derived.Test.YticlgpdmelhbhaaWD
namespace Go.X

theorem limb_mul0 (z : Int) (r : Nat) : limb (z * 2 ^ r) 0 = limb z 0 * 2 ^ r % 18446744073709551616 := by
  simp only [limb]
  conv => rhs; rw [Int.mul_emod, Int.emod_emod, ← Int.mul_emod]

theorem limb_mulS (z : Int) {r : Nat} (hr : r < 64) (i : Nat) : limb (z * 2 ^ r) (i + 1) = limb z (i + 1) * 2 ^ r % 18446744073709551616 + limb z i / 2 ^ (64 - r) := by
  have hp : (0 : Int) < 2 ^ r := Int.pow_pos (by decide)
  have hq : (0 : Int) < 2 ^ (64 - r) := Int.pow_pos (by decide)
  have e64 : (18446744073709551616 : Int) = 2 ^ r * 2 ^ (64 - r) := by
    rw [← Int.pow_add, show r + (64 - r) = 64 from by omega]; rfl
  have hB : (0 : Int) ≤ 18446744073709551616 ^ i := Int.pow_nonneg (by decide)
  have e1 : z * 2 ^ r / 18446744073709551616 ^ (i + 1) = z / 18446744073709551616 ^ i / 2 ^ (64 - r) := by
    rw [Int.pow_succ, e64, Int.ediv_ediv_of_nonneg (by rw [← e64]; exact hB), ← e64, show (18446744073709551616 : Int) ^ i * 18446744073709551616 = 2 ^ r * (18446744073709551616 ^ i * 2 ^ (64 - r)) from by rw [e64]; grind, Int.mul_comm z]
    exact Int.mul_ediv_mul_of_pos _ _ hp
  rw [limb_eq, limb_eq, limb_eq, e1, Int.pow_succ, ← Int.ediv_ediv_of_nonneg hB]
  generalize z / 18446744073709551616 ^ i = y
  generalize (2 : Int) ^ r = a at *
  generalize (2 : Int) ^ (64 - r) = b at *
  rw [e64]
  have hab : 0 < a * b := Int.mul_pos hp hq
  obtain ⟨u, hu⟩ : ∃ u, u = y / (a * b) := ⟨_, rfl⟩
  obtain ⟨v, hv⟩ : ∃ v, v = y % (a * b) := ⟨_, rfl⟩
  have hy : y = v + b * (a * u) := by
    have := Int.emod_add_mul_ediv y (a * b)
    rw [← hu, ← hv] at this
    rw [← this]; grind
  have hv0 : 0 ≤ v := by rw [hv]; exact Int.emod_nonneg _ (by omega)
  have hv1 : v < a * b := by rw [hv]; exact Int.emod_lt_of_pos _ hab
  rw [← hu, ← hv]
  have h1 : y / b = v / b + a * u := by
    rw [hy, Int.add_mul_ediv_left _ _ (by omega)]
  have h2 : u % (a * b) * a % (a * b) = a * (u % b) := by
    rw [Int.mul_emod, Int.emod_emod, ← Int.mul_emod, Int.mul_comm u, Int.mul_emod_mul_of_pos _ _ hp]
  have h3 : 0 ≤ u % b := Int.emod_nonneg _ (by omega)
  have h4 : u % b < b := Int.emod_lt_of_pos _ hq
  have h5 : 0 ≤ v / b := Int.ediv_nonneg hv0 (by omega)
  have h6 : v / b < a := Int.ediv_lt_of_lt_mul hq hv1
  have h7 : y / b = (a * (u % b) + v / b) + a * b * (u / b) := by
    have := Int.emod_add_mul_ediv u b
    rw [h1]
    conv => lhs; rw [← this]
    grind
  have h8 : a * (u % b) ≤ a * (b - 1) := Int.mul_le_mul_of_nonneg_left (by omega) (by omega)
  have h9 : a * (b - 1) = a * b - a := by grind
  have h10 : 0 ≤ a * (u % b) := Int.mul_nonneg (by omega) h3
  rw [h2, h7, Int.add_mul_emod_self_left, Int.emod_eq_of_lt (by omega) (by omega)]

theorem limb_mulB (z : Int) (q i : Nat) : limb (z * 18446744073709551616 ^ q) i = if i < q then 0 else limb z (i - q) := by
  induction q generalizing i with
  | zero => simp
  | succ q ih =>
    rw [Int.pow_succ, ← Int.mul_assoc]
    cases i with
    | zero => simp [limb]
    | succ i =>
      simp only [limb]
      rw [Int.mul_ediv_cancel _ (by decide), ih]
      by_cases h : i < q
      · rw [if_pos h, if_pos (by omega)]
      · rw [if_neg h, if_neg (by omega), show i + 1 - (q + 1) = i - q from by omega]

theorem leftF_limb {f : Nat → Int} (hf : R8 f) {q r : Nat} (hr : r < 64) {i : Nat} (hi : i < 8) : leftF f q r i = limb (uval f * 2 ^ (64 * q + r)) i := by
  have e : uval f * 2 ^ (64 * q + r) = uval f * 2 ^ r * 18446744073709551616 ^ q := by
    rw [Int.pow_add, Int.pow_mul, Int.mul_assoc, Int.mul_comm ((2 ^ 64 : Int) ^ q)]; rfl
  have g := limb_uval hf
  unfold leftF
  rw [e, limb_mulB]
  by_cases h : i < q
  · rw [if_pos h, if_pos h]
  · rw [if_neg h, if_neg h]
    obtain ⟨j, hj⟩ : ∃ j, j = i - q := ⟨_, rfl⟩
    rw [← hj]
    cases j with
    | zero => rw [if_neg (by omega), limb_mul0, g 0 (by omega)]
    | succ j =>
      rw [limb_mulS _ hr, g (j + 1) (by omega), g j (by omega)]
      by_cases h0 : 0 < r
      · rw [if_pos ⟨h0, by omega⟩]; rfl
      · have : r = 0 := by omega
        subst this
        have f1 := hf j (by omega)
        rw [if_neg (by omega), show f j / 2 ^ (64 - 0) = 0 from Int.ediv_eq_zero_of_lt f1.1 f1.2, Int.add_zero]

end Go.X
