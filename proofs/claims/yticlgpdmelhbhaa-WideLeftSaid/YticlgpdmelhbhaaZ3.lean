/- Numbers of eight limbs: shifts, as arithmetic. -/
import Derived.Test.YticlgpdmelhbhaaWA
namespace Go.X

/-- bits that don't meet: or is a sum -/
theorem or_add {a b : Int} (k : Nat) (c : Int) (h0 : 0 ≤ a) (h1 : a < 2 ^ k) (hc : 0 ≤ c) (hb : b = 2 ^ k * c) (h2 : a + b < 18446744073709551616) : bitsA .or .u64 a b = a + b := by
  obtain ⟨x, rfl⟩ := Int.eq_ofNat_of_zero_le h0
  obtain ⟨y, rfl⟩ := Int.eq_ofNat_of_zero_le hc
  have hx : x < 2 ^ k := by
    have : ((2 : Int) ^ k) = ((2 ^ k : Nat) : Int) := by simp
    rw [this] at h1; exact_mod_cast h1
  have hb' : b = ((2 ^ k * y : Nat) : Int) := by rw [hb]; simp
  subst hb'
  have h3 : x + 2 ^ k * y < 2 ^ 64 := by
    have : ((x : Int) + ((2 ^ k * y : Nat) : Int)) = ((x + 2 ^ k * y : Nat) : Int) := by simp
    omega
  show IntKind.u64.wrap ((BitVec.ofInt 64 (x : Int) ||| BitVec.ofInt 64 ((2 ^ k * y : Nat) : Int)).toNat : Int) = _
  rw [BitVec.ofInt_natCast, BitVec.ofInt_natCast, BitVec.toNat_or, BitVec.toNat_ofNat, BitVec.toNat_ofNat, Nat.mod_eq_of_lt (by omega), Nat.mod_eq_of_lt (by omega)]
  have e : x ||| 2 ^ k * y = x + 2 ^ k * y := by
    rw [Nat.or_comm, ← Nat.two_pow_add_eq_or_of_lt hx, Nat.add_comm]
  rw [e, wrap_u64_mod]
  omega

/-- the limb at whatever place -/
theorem limb_eq : ∀ (i : Nat) (z : Int), limb z i = z / 18446744073709551616 ^ i % 18446744073709551616
  | 0, z => by simp [limb]
  | i + 1, z => by
    simp only [limb]
    rw [limb_eq i, Int.pow_succ, Int.mul_comm, Int.ediv_ediv_of_nonneg (by decide)]

theorem limb_up (z : Int) (q i : Nat) : limb (z / 18446744073709551616 ^ q) i = limb z (q + i) := by
  rw [limb_eq, limb_eq, Int.pow_add, Int.ediv_ediv_of_nonneg (Int.pow_nonneg (by decide))]

/-- r bits further down -/
theorem limb_right (z : Int) (i : Nat) {r : Nat} (h0 : 0 < r) (h1 : r < 64) : limb (z / 2 ^ r) i = limb z i / 2 ^ r + 2 ^ (64 - r) * (limb z (i + 1) % 2 ^ r) := by
  have hp : (0 : Int) < 2 ^ r := Int.pow_pos (by decide)
  have e64 : (18446744073709551616 : Int) = 2 ^ r * 2 ^ (64 - r) := by
    rw [← Int.pow_add, show r + (64 - r) = 64 from by omega]; rfl
  have hq : (0 : Int) < 2 ^ (64 - r) := Int.pow_pos (by decide)
  rw [limb_eq, limb_eq, limb_eq, Int.pow_succ, ← Int.ediv_ediv_of_nonneg (Int.pow_nonneg (by decide))]
  rw [Int.ediv_ediv_of_nonneg (Int.le_of_lt hp), Int.mul_comm (2 ^ r), ← Int.ediv_ediv_of_nonneg (Int.pow_nonneg (by decide))]
  generalize z / 18446744073709551616 ^ i = y
  generalize (2 : Int) ^ r = a at *
  generalize (2 : Int) ^ (64 - r) = b at *
  rw [e64]
  -- y / a % (a * b) = y % (a * b) / a + b * (y / (a * b) % a)
  have h1 : y % (a * b) = y - a * b * (y / (a * b)) := by rw [Int.emod_def]
  have h2 : y / a % (a * b) = y / a - a * b * (y / a / (a * b)) := by rw [Int.emod_def]
  have h3 : y / (a * b) % a = y / (a * b) - a * (y / (a * b) / a) := by rw [Int.emod_def]
  have h4 : y / a / (a * b) = y / (a * b) / a := by
    rw [Int.ediv_ediv_of_nonneg (Int.le_of_lt hp), Int.ediv_ediv_of_nonneg (Int.le_of_lt (Int.mul_pos hp hq)), Int.mul_comm a (a * b)]
  have h5 : (y - a * b * (y / (a * b))) / a = y / a - b * (y / (a * b)) := by
    have : y - a * b * (y / (a * b)) = y + a * (-(b * (y / (a * b)))) := by grind
    rw [this, Int.add_mul_ediv_left _ _ (by omega)]
    omega
  rw [Int.emod_emod_of_dvd _ (Int.dvd_mul_right a b), h1, h2, h3, h4, h5]
  grind

/-- behind the last limb: the sign -/
theorem limb_high {z : Int} (h : InW z) : ∀ i, 8 ≤ i → limb z i = if z < 0 then 18446744073709551615 else 0 := by
  intro i hi
  have : limb z i = limb (z / 18446744073709551616 ^ 8) (i - 8) := by rw [limb_up, show 8 + (i - 8) = i from by omega]
  rw [this]
  obtain ⟨h1, h2⟩ := h
  have hk : K5 ≤ 18446744073709551616 ^ 8 := by unfold K5; decide
  have hp : (0 : Int) < 18446744073709551616 ^ 8 := by decide
  by_cases hz : z < 0
  · rw [if_pos hz, show z / 18446744073709551616 ^ 8 = -1 from by rw [Int.ediv_eq_iff_of_pos hp]; omega]
    have m := limb_small (n := -1) (by decide) (by decide)
    cases i - 8 with
    | zero => decide
    | succ j => rw [m]; decide
  · rw [if_neg hz, show z / 18446744073709551616 ^ 8 = 0 from Int.ediv_eq_zero_of_lt (by omega) (by omega)]
    have m := limb_small (n := 0) (by decide) (by decide)
    cases i - 8 with
    | zero => decide
    | succ j => rw [m]; decide

/-- a size by 2 -/
def halfF (f : Nat → Int) (i : Nat) : Int := f i / 2 + (if i < 7 then f (i + 1) % 2 * 9223372036854775808 else 0)
theorem R8_half {f : Nat → Int} (h : R8 f) : R8 (halfF f) := by
  intro i hi
  have := h i hi
  unfold halfF
  split
  · have := h (i + 1) (by omega); omega
  · omega
theorem half_val {f : Nat → Int} (h : R8 f) : uval (halfF f) = uval f / 2 := by
  have f0 := h 0 (by omega); have f1 := h 1 (by omega); have f2 := h 2 (by omega); have f3 := h 3 (by omega)
  have f4 := h 4 (by omega); have f5 := h 5 (by omega); have f6 := h 6 (by omega); have f7 := h 7 (by omega)
  simp only [uval, halfF]
  simp only [show ((0:Nat) < 7) = True from by decide, show ((1:Nat) < 7) = True from by decide, show ((2:Nat) < 7) = True from by decide, show ((3:Nat) < 7) = True from by decide, show ((4:Nat) < 7) = True from by decide, show ((5:Nat) < 7) = True from by decide, show ((6:Nat) < 7) = True from by decide, show ((7:Nat) < 7) = False from by decide, if_true, if_false]
  have hs : ∀ a t : Int, (a + 18446744073709551616 * t) / 2 = (a / 2 + t % 2 * 9223372036854775808) + 18446744073709551616 * (t / 2) := fun a t => by omega
  have hm : ∀ a t : Int, (a + 18446744073709551616 * t) % 2 = a % 2 := fun a t => by omega
  simp only [hs, hm, Int.add_zero]
theorem or_half {a b : Int} (ha : 0 ≤ a) (ha1 : a < 18446744073709551616) (hb : 0 ≤ b) : bitsA .or .u64 (shrA .u64 a 1) (shlA .u64 b 63) = a / 2 + b % 2 * 9223372036854775808 := by
  have e1 : shrA .u64 a 1 = a / 2 := by
    simp only [shrA, IntKind.bits]
    rw [Int.fdiv_eq_ediv_of_nonneg _ (by decide)]; rfl
  have e2 : shlA .u64 b 63 = b % 2 * 9223372036854775808 := by
    simp only [shlA, IntKind.bits, wrap_u64_mod]
    show b * 9223372036854775808 % 18446744073709551616 = _
    omega
  rw [e1, e2]
  exact or_add 63 (b % 2) (by omega) (by show a / 2 < 9223372036854775808; omega) (by omega) (by show _ = 9223372036854775808 * _; omega) (by omega)

end Go.X
