/- Quotients rounded down, by whatever divisor. Plain arithmetic. -/
import Derived.Test.YticlgpdmelhbhaaZ5
namespace Go.X

/-- the quotient, rounded down -/
def quoI (a b : Int) : Int := if 0 < b then a / b else (-a) / (-b)
/-- what is left -/
def remI (a b : Int) : Int := a - quoI a b * b

theorem quoI_of {a b q r : Int} (h : a = q * b + r) (hr : (0 ≤ r ∧ r < b) ∨ (b < r ∧ r ≤ 0)) : quoI a b = q ∧ remI a b = r := by
  have hq : quoI a b = q := by
    unfold quoI
    rcases hr with hr | hr
    · rw [if_pos (by omega), h, Int.add_comm, Int.add_mul_ediv_right _ _ (by omega), Int.ediv_eq_zero_of_lt hr.1 hr.2]; omega
    · rw [if_neg (by omega), h, show -(q * b + r) = -r + q * -b from by rw [Int.mul_neg]; omega, Int.add_mul_ediv_right _ _ (by omega), Int.ediv_eq_zero_of_lt (by omega) (by omega)]; omega
  refine ⟨hq, ?_⟩
  unfold remI
  rw [hq, h]; omega

theorem quoI_spec (a : Int) {b : Int} (hb : b ≠ 0) : a = quoI a b * b + remI a b ∧ ((0 < b ∧ 0 ≤ remI a b ∧ remI a b < b) ∨ (b < 0 ∧ b < remI a b ∧ remI a b ≤ 0)) := by
  refine ⟨by unfold remI; omega, ?_⟩
  unfold remI quoI
  by_cases h : 0 < b
  · rw [if_pos h]
    have h1 := Int.emod_nonneg a hb
    have h2 := Int.emod_lt_of_pos a h
    have h3 := Int.mul_ediv_add_emod a b
    rw [Int.mul_comm] at h3
    exact .inl ⟨h, by omega, by omega⟩
  · rw [if_neg h]
    have h1 := Int.emod_nonneg (-a) (b := -b) (by omega)
    have h2 := Int.emod_lt_of_pos (-a) (b := -b) (by omega)
    have h3 := Int.mul_ediv_add_emod (-a) (-b)
    rw [Int.mul_comm, Int.mul_neg] at h3
    exact .inr ⟨by omega, by omega, by omega⟩

/-- of sizes -/
theorem quoI_parts {a b A B q r : Int} (hA : A = if a < 0 then -a else a) (hB : B = if b < 0 then -b else b) (hb : b ≠ 0) (hq : q = A / B) (hr : r = A % B) :
    0 ≤ q ∧ q ≤ A ∧ 0 ≤ r ∧ r < B ∧ (if (a < 0 ↔ b < 0) then quoI a b = q ∧ remI a b = (if b < 0 then -r else r)
      else if r = 0 then quoI a b = -q ∧ remI a b = 0 else quoI a b = -(q + 1) ∧ remI a b = if b < 0 then -(B - r) else B - r) := by
  have hBp : 0 < B := by rw [hB]; split <;> omega
  have hAp : 0 ≤ A := by rw [hA]; split <;> omega
  have h1 := Int.emod_nonneg A (show B ≠ 0 by omega)
  have h2 := Int.emod_lt_of_pos A hBp
  have h3 := Int.mul_ediv_add_emod A B
  have h4 := Int.ediv_nonneg hAp (Int.le_of_lt hBp)
  have h5 : A / B ≤ A := Int.ediv_le_self B hAp
  rw [← hq] at h3 h4 h5; rw [← hr] at h1 h2 h3
  refine ⟨h4, h5, h1, h2, ?_⟩
  rw [Int.mul_comm] at h3
  by_cases ha : a < 0 <;> by_cases hb' : b < 0 <;> simp only [ha, hb', if_true, if_false] at hA hB ⊢ <;> (try simp only [iff_true, iff_false, not_true, if_false])
  · exact quoI_of (by rw [hB, Int.mul_neg] at h3; omega) (.inr (by omega))
  · by_cases hz : r = 0
    · rw [if_pos hz]; exact quoI_of (by rw [Int.neg_mul, ← hB]; omega) (.inl (by omega))
    · rw [if_neg hz]; exact quoI_of (by rw [Int.neg_mul, Int.add_mul, ← hB]; omega) (.inl (by omega))
  · by_cases hz : r = 0
    · rw [if_pos hz]; exact quoI_of (by rw [hB, Int.mul_neg] at h3; rw [Int.neg_mul]; omega) (.inr (by omega))
    · rw [if_neg hz]; exact quoI_of (by rw [hB, Int.mul_neg] at h3; rw [Int.neg_mul, Int.add_mul]; omega) (.inr (by omega))
  · exact quoI_of (by rw [← hB]; omega) (.inl (by omega))

end Go.X
