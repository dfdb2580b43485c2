/- Numbers of eight limbs: sums, differences, opposites. Plain arithmetic. -/
import Derived.Test.YticlgpdmelhbhaaW6
namespace Go.X

theorem sval_range {f : Nat → Int} (h : R8 f) : -K5 ≤ sval f ∧ sval f < K5 := (sval_bound h).1
theorem plus_sval {f g : Nat → Int} {c : Int} (hf : R8 f) (hg : R8 g) (h0 : 0 ≤ c) (h1 : c ≤ 1) :
    (sval (plusF f g c) = sval f + sval g + c ∨ sval (plusF f g c) = sval f + sval g + c + 2 * K5 ∨ sval (plusF f g c) = sval f + sval g + c - 2 * K5) := by
  have e := plus_val (f := f) (g := g) (c := c)
  have hs := R8_plus f g c
  have b1 := cy_bound hf hg h0 h1 8 (by omega)
  have bf := uval_sval hf
  have bg := uval_sval hg
  have bs := uval_sval hs
  have rf := sval_range hf; have rg := sval_range hg; have rs := sval_range hs
  generalize cyF f g c 8 = k at *
  generalize sval (plusF f g c) = s at *
  generalize uval (plusF f g c) = us at *
  generalize sval f = x at *
  generalize sval g = y at *
  have hk : k = 0 ∨ k = 1 := by omega
  have hK := K5_pos
  split at bf <;> split at bg <;> split at bs <;> rcases hk with rfl | rfl <;> omega

theorem not_sval {f : Nat → Int} (hf : R8 f) : sval (notF f) = -1 - sval f := by
  have e := not_val (f := f)
  have bf := uval_sval hf
  have bs := uval_sval (R8_not hf)
  have rf := sval_range hf; have rs := sval_range (R8_not hf)
  split at bf <;> split at bs <;> omega

theorem minus_sval {f : Nat → Int} (hf : R8 f) : sval (minusF f) = if sval f = -K5 then -K5 else - sval f := by
  have e := plus_sval (R8_not hf) R8_zero (by decide : (0 : Int) ≤ 1) (by decide)
  have rm := sval_range (R8_minus f)
  have rf := sval_range hf
  have hz := sval_zero
  have hK := K5_pos
  rw [not_sval hf, hz] at e
  have e2 : sval (minusF f) = sval (plusF (notF f) (fun _ => 0) 1) := rfl
  rw [e2] at rm ⊢
  split <;> omega

theorem sval_zero_iff {f : Nat → Int} (hf : R8 f) : (∀ i, i < 8 → f i = 0) ↔ sval f = 0 := by
  constructor
  · intro h
    have : sval f = sval (fun _ => 0) := by
      simp [sval, negF, uval, h]
    rw [this]; exact sval_zero
  · intro h i hi
    have := limb_sval hf i hi
    rw [h] at this
    rw [this]
    exact limb_zero_all i hi

/-- limbs are the same: their numbers are -/
theorem eqArr_iff {f g : Nat → Int} (hf : R8 f) (hg : R8 g) : eqArr 8 f g = decide (sval f = sval g) := by
  rw [Bool.eq_iff_iff]
  simp only [eqArr, List.all_eq_true, List.mem_range, beq_iff_eq, decide_eq_true_eq]
  constructor
  · intro h
    have e : uval f = uval g := by simp [uval, h]
    have n : negF f = negF g := by simp [negF, h]
    simp [sval, e, n]
  · intro h i hi
    rw [limb_sval hf i hi, limb_sval hg i hi, h]

theorem limb_small {n : Int} (h1 : -9223372036854775808 ≤ n) (h2 : n < 9223372036854775808) : ∀ i, limb n (i + 1) = if n < 0 then 18446744073709551615 else 0 := by
  have z : ∀ i, limb 0 i = 0 := by
    intro i; induction i with
    | zero => decide
    | succ i ih => simpa [limb] using ih
  have m : ∀ i, limb (-1) i = 18446744073709551615 := by
    intro i; induction i with
    | zero => decide
    | succ i ih => simpa [limb] using ih
  intro i
  simp only [limb]
  split
  · rw [show n / 18446744073709551616 = -1 by omega]; exact m i
  · rw [show n / 18446744073709551616 = 0 by omega]; exact z i

end Go.X
