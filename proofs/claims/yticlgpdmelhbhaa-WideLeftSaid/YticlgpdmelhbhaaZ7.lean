/- Products of numbers of eight limbs. Plain arithmetic. -/
import Derived.Test.YticlgpdmelhbhaaZ6
namespace Go.X

theorem bpow (k : Nat) : (0 : Int) < 18446744073709551616 ^ k := Int.pow_pos (by decide)

/-- the first limbs -/
def lowU (f : Nat → Int) : Nat → Int
  | 0 => 0
  | k + 1 => lowU f k + f k * 18446744073709551616 ^ k
theorem lowU_8 (f : Nat → Int) : lowU f 8 = uval f := by
  simp only [lowU, uval]
  omega
theorem lowU_nonneg {f : Nat → Int} (h : R8 f) : ∀ k, k ≤ 8 → 0 ≤ lowU f k
  | 0, _ => by simp [lowU]
  | k + 1, hk => by
    have := lowU_nonneg h k (by omega)
    have := Int.mul_nonneg (h k (by omega)).1 (Int.le_of_lt (bpow (k)))
    simp only [lowU]; omega
theorem lowU_mono {f : Nat → Int} (h : R8 f) (k : Nat) : ∀ d, k + d ≤ 8 → lowU f k ≤ lowU f (k + d)
  | 0, _ => Int.le_refl _
  | d + 1, hk => by
    have := lowU_mono h k d (by omega)
    have := Int.mul_nonneg (h (k + d) (by omega)).1 (Int.le_of_lt (bpow (k + d)))
    show _ ≤ lowU f (k + d) + f (k + d) * 18446744073709551616 ^ (k + d)
    omega
theorem lowU_le {f : Nat → Int} (h : R8 f) {k : Nat} (hk : k ≤ 8) : lowU f k ≤ uval f := by
  rw [← lowU_8]
  have := lowU_mono h k (8 - k) (by omega)
  rwa [show k + (8 - k) = 8 from by omega] at this

theorem R8_upd {f : Nat → Int} (h : R8 f) {i : Nat} {v : Int} (h0 : 0 ≤ v) (h1 : v < 18446744073709551616) : R8 (upd f i v) := by
  intro j hj
  unfold upd
  split
  · exact ⟨h0, h1⟩
  · exact h j hj

theorem K5_pow8 : 2 * K5 = 18446744073709551616 ^ 8 := by unfold K5; decide

/-- one step's limb and what is carried -/
theorem mul_step {x y c l : Int} (hx : 0 ≤ x ∧ x < 18446744073709551616) (hy : 0 ≤ y ∧ y < 18446744073709551616) (hc : 0 ≤ c ∧ c < 18446744073709551616) (hl : 0 ≤ l ∧ l < 18446744073709551616) :
    0 ≤ x * y ∧ x * y ≤ 340282366920938463426481119284349108225 ∧ (l + (x * y + c)) % 18446744073709551616 + 18446744073709551616 * (x * y / 18446744073709551616 + (x * y % 18446744073709551616 + c) / 18446744073709551616 + (l + (x * y + c) % 18446744073709551616) / 18446744073709551616) = l + c + x * y ∧
    0 ≤ x * y / 18446744073709551616 + (x * y % 18446744073709551616 + c) / 18446744073709551616 ∧ x * y / 18446744073709551616 + (x * y % 18446744073709551616 + c) / 18446744073709551616 < 18446744073709551616 ∧
    0 ≤ x * y / 18446744073709551616 + (x * y % 18446744073709551616 + c) / 18446744073709551616 + (l + (x * y + c) % 18446744073709551616) / 18446744073709551616 ∧ x * y / 18446744073709551616 + (x * y % 18446744073709551616 + c) / 18446744073709551616 + (l + (x * y + c) % 18446744073709551616) / 18446744073709551616 < 18446744073709551616 := by
  have h0 := Int.mul_nonneg hx.1 hy.1
  have h1 : x * y ≤ 18446744073709551615 * 18446744073709551615 := Int.mul_le_mul (by omega) (by omega) hy.1 (by decide)
  generalize x * y = p at *
  refine ⟨h0, by omega, ?_, ?_, ?_, ?_, ?_⟩ <;> omega

/-- one step of the inner loop -/
theorem mul_in_step {l : Nat → Int} {y : Nat → Int} {i k : Nat} {x c L0 v c' : Int} (hik : i + k < 8) (h : uval l + c * 18446744073709551616 ^ (i + k) = L0 + x * 18446744073709551616 ^ i * lowU y k) (hv : v + 18446744073709551616 * c' = l (i + k) + c + x * y k) :
    uval (upd l (i + k) v) + c' * 18446744073709551616 ^ (i + (k + 1)) = L0 + x * 18446744073709551616 ^ i * lowU y (k + 1) := by
  rw [uval_upd hik, lowU, show i + (k + 1) = (i + k) + 1 from rfl, Int.pow_succ]
  have e : (18446744073709551616 : Int) ^ (i + k) = 18446744073709551616 ^ i * 18446744073709551616 ^ k := Int.pow_add ..
  have e2 : v = l (i + k) + c + x * y k - 18446744073709551616 * c' := by omega
  rw [e2]
  rw [e] at h ⊢
  generalize (18446744073709551616 : Int) ^ i = bi at *
  generalize (18446744073709551616 : Int) ^ k = bk at *
  generalize lowU y k = u at *
  generalize uval l = ul at *
  grind

/-- behind the last limb something is left: the product does not fit -/
theorem mul_over {X Y : Nat → Int} {i e : Nat} {c L0 l u : Int} (hX : R8 X) (hY : R8 Y) (hi : i < 8) (hu : u ≤ uval Y) (he : 8 ≤ e) (hL : L0 = lowU X i * uval Y) (hl : 0 ≤ l) (h : l + c * 18446744073709551616 ^ e = L0 + X i * 18446744073709551616 ^ i * u) (hc : 0 < c) : 2 * K5 ≤ uval X * uval Y := by
  have h1 : L0 + X i * 18446744073709551616 ^ i * u ≤ L0 + X i * 18446744073709551616 ^ i * uval Y := by
    have := Int.mul_le_mul_of_nonneg_left hu (Int.mul_nonneg (hX i hi).1 (Int.le_of_lt (bpow (i))))
    omega
  have h2 : L0 + X i * 18446744073709551616 ^ i * uval Y = lowU X (i + 1) * uval Y := by rw [hL, lowU, Int.add_mul]
  have h3 : lowU X (i + 1) * uval Y ≤ uval X * uval Y := Int.mul_le_mul_of_nonneg_right (lowU_le hX (by omega)) (uval_bound hY).1
  have h4 : 1 * 18446744073709551616 ^ 8 ≤ c * 18446744073709551616 ^ e := by
    refine Int.mul_le_mul (by omega) ?_ (by decide) (by omega)
    obtain ⟨d, hd⟩ : ∃ d, e = 8 + d := ⟨e - 8, by omega⟩
    rw [hd, Int.pow_add]
    have : (1 : Int) ≤ 18446744073709551616 ^ d := bpow d
    have := Int.mul_le_mul_of_nonneg_left this (show (0 : Int) ≤ 18446744073709551616 ^ 8 by decide)
    omega
  have h5 := K5_pow8
  omega

end Go.X
