/- Numbers of eight limbs: one bit set; a size less another one. -/
import Derived.Test.YticlgpdmelhbhaaWE
namespace Go.X

theorem uval_upd {f : Nat → Int} {i : Nat} (hi : i < 8) (v : Int) : uval (upd f i v) = uval f + (v - f i) * 18446744073709551616 ^ i := by
  rcases eight hi with rfl | rfl | rfl | rfl | rfl | rfl | rfl | rfl <;> simp [uval, upd] <;> omega

/-- bit j set -/
def setF (f : Nat → Int) (j : Nat) : Nat → Int := upd f (j / 64) (bitsA .or .u64 (f (j / 64)) (shlA .u64 1 (j % 64)))

theorem set_limb {f : Nat → Int} (hf : R8 f) {j : Nat} (hj : j < 512) {c : Int} (hc : uval f = c * 2 ^ (j + 1)) : bitsA .or .u64 (f (j / 64)) (shlA .u64 1 (j % 64)) = f (j / 64) + 2 ^ (j % 64) ∧ f (j / 64) + 2 ^ (j % 64) < 18446744073709551616 := by
  obtain ⟨q, hq⟩ : ∃ q, q = j / 64 := ⟨_, rfl⟩
  obtain ⟨r, hr⟩ : ∃ r, r = j % 64 := ⟨_, rfl⟩
  rw [← hq, ← hr]
  have hq8 : q < 8 := by omega
  have hr64 : r < 64 := by omega
  have hf1 := hf q hq8
  have hl := limb_uval hf q hq8
  have hp : (0 : Int) < 2 ^ (r + 1) := Int.pow_pos (by decide)
  have hp0 : (0 : Int) < 2 ^ r := Int.pow_pos (by decide)
  have e2 : (2 : Int) ^ (r + 1) = 2 * 2 ^ r := by rw [Int.pow_succ]; omega
  have e64 : (18446744073709551616 : Int) = 2 ^ (r + 1) * 2 ^ (63 - r) := by
    rw [← Int.pow_add, show r + 1 + (63 - r) = 64 from by omega]; rfl
  -- the limb is a multiple
  have hm : f q = 2 ^ (r + 1) * (c % 2 ^ (63 - r)) := by
    rw [← hl, limb_eq, hc, show j + 1 = (r + 1) + 64 * q from by omega, Int.pow_add, Int.pow_mul, ← Int.mul_assoc]
    have : ((2 : Int) ^ 64) ^ q = 18446744073709551616 ^ q := rfl
    rw [this, Int.mul_ediv_cancel _ (Int.ne_of_gt (Int.pow_pos (by decide))), e64, Int.mul_comm c, Int.mul_emod_mul_of_pos _ _ hp]
  have hc0 : 0 ≤ c % 2 ^ (63 - r) := Int.emod_nonneg _ (Int.ne_of_gt (Int.pow_pos (by decide)))
  have hc1 : c % 2 ^ (63 - r) < 2 ^ (63 - r) := Int.emod_lt_of_pos _ (Int.pow_pos (by decide))
  have hle : 2 ^ (r + 1) * (c % 2 ^ (63 - r)) ≤ 2 ^ (r + 1) * (2 ^ (63 - r) - 1) := Int.mul_le_mul_of_nonneg_left (by omega) (Int.le_of_lt hp)
  have he : (2 : Int) ^ (r + 1) * (2 ^ (63 - r) - 1) = 18446744073709551616 - 2 ^ (r + 1) := by rw [e64]; grind
  have hs : shlA .u64 1 r = 2 ^ r := by
    simp only [shlA, IntKind.bits, wrap_u64_mod]
    rw [show min r 64 = r from by omega, Int.one_mul]
    have hpp : (0 : Int) < 2 ^ (63 - r) := Int.pow_pos (by decide)
    have : (2 : Int) ^ (r + 1) * 1 ≤ 2 ^ (r + 1) * 2 ^ (63 - r) := Int.mul_le_mul_of_nonneg_left (by omega) (Int.le_of_lt hp)
    rw [← e64] at this
    exact Int.emod_eq_of_lt (by omega) (by omega)
  have hcm : ∀ a b : Int, bitsA .or .u64 a b = bitsA .or .u64 b a := fun a b => by
    show IntKind.u64.wrap _ = IntKind.u64.wrap _
    rw [BitVec.or_comm]
  rw [hs, hcm, or_add (r + 1) (c % 2 ^ (63 - r)) (by omega) (by omega) hc0 hm (by omega)]
  omega

theorem set_val {f : Nat → Int} (hf : R8 f) {j : Nat} (hj : j < 512) {c : Int} (hc : uval f = c * 2 ^ (j + 1)) : R8 (setF f j) ∧ uval (setF f j) = uval f + 2 ^ j := by
  obtain ⟨h1, h2⟩ := set_limb hf hj hc
  have hp0 : (0 : Int) < 2 ^ (j % 64) := Int.pow_pos (by decide)
  constructor
  · intro i hi
    unfold setF upd
    split
    · rename_i e
      have := hf (j / 64) (by omega)
      rw [h1]; omega
    · exact hf i hi
  · unfold setF
    rw [uval_upd (by omega), h1]
    have : ((2 : Int) ^ 64) ^ (j / 64) = 18446744073709551616 ^ (j / 64) := rfl
    rw [show f (j / 64) + 2 ^ (j % 64) - f (j / 64) = 2 ^ (j % 64) from by omega, ← this, ← Int.pow_mul, ← Int.pow_add, show j % 64 + 64 * (j / 64) = j from by omega]

theorem less_val {f g : Nat → Int} (hf : R8 f) (hg : R8 g) (h : uval g ≤ uval f) : uval (plusF f (notF g) 1) = uval f - uval g := by
  have e := plus_val (f := f) (g := notF g) (c := 1)
  rw [not_val] at e
  have b1 := cy_bound hf (R8_not hg) (by decide : (0 : Int) ≤ 1) (by decide) 8 (by omega)
  have u1 := uval_bound hf
  have u2 := uval_bound hg
  have u3 := uval_bound (R8_plus f (notF g) 1)
  generalize cyF f (notF g) 1 8 = k at *
  generalize uval (plusF f (notF g) 1) = u at *
  generalize uval f = x at *
  generalize uval g = y at *
  have hk : k = 0 ∨ k = 1 := by omega
  have := K5_pos
  rcases hk with rfl | rfl <;> omega

end Go.X
