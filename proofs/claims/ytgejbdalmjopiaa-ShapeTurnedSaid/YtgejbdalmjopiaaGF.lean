/- The reference for numbers as bits: up to products. -/
import Derived.Test.YtgejbdalmjopiaaGE
import Derived.Test.YtgejbdalmjopiaaGB

section
namespace Go.X

/-- the first n bits of a number, behind them nothing -/
def bitN (n : Nat) (z : Int) (j : Nat) : Int := if j < n then z / 2 ^ j % 2 else 0
/-- what bits are worth -/
def bval (f : Nat → Int) : Nat → Int
  | 0 => 0
  | n + 1 => bval f n + f n * 2 ^ n
def Bits (f : Nat → Int) (n : Nat) : Prop := ∀ i, i < n → f i = 0 ∨ f i = 1

theorem Bits_bitN (n m : Nat) (z : Int) : Bits (bitN n z) m := by
  intro i _
  unfold bitN
  split <;> omega
theorem Bits.less {f : Nat → Int} {n m : Nat} (h : Bits f n) (hm : m ≤ n) : Bits f m := fun i hi => h i (by omega)
theorem bval_bound {f : Nat → Int} : ∀ {n : Nat}, Bits f n → 0 ≤ bval f n ∧ bval f n < 2 ^ n
  | 0, _ => by simp [bval]
  | n + 1, h => by
    obtain ⟨h1, h2⟩ := bval_bound (h.less (Nat.le_succ n))
    have hp := pow_2_pos n
    simp only [bval, Int.pow_succ]
    rcases h n (by omega) with e | e <;> rw [e] <;> omega
/-- a bit of what bits are worth -/
theorem bval_bit {f : Nat → Int} {n : Nat} (h : Bits f n) : ∀ {i : Nat}, i < n → bval f n / 2 ^ i % 2 = f i := by
  induction n with
  | zero => intro i hi; omega
  | succ n ih =>
    intro i hi
    have hn := h.less (Nat.le_succ n)
    obtain ⟨h1, h2⟩ := bval_bound hn
    have hp := pow_2_pos n
    simp only [bval]
    by_cases hin : i = n
    · subst hin
      rw [Int.add_mul_ediv_right _ _ (Int.ne_of_gt hp), Int.ediv_eq_zero_of_lt h1 h2]
      rcases h i (by omega) with e | e <;> rw [e] <;> decide
    · rw [show (2 : Int) ^ n = 2 ^ i * (2 * 2 ^ (n - i - 1)) from by rw [← Int.mul_assoc, ← Int.pow_succ, ← Int.pow_add]; congr 1; omega]
      rw [show f n * (2 ^ i * (2 * 2 ^ (n - i - 1))) = f n * (2 * 2 ^ (n - i - 1)) * 2 ^ i from by grind, Int.add_mul_ediv_right _ _ (Int.ne_of_gt (pow_2_pos i)), show f n * (2 * 2 ^ (n - i - 1)) = 2 * (f n * 2 ^ (n - i - 1)) from by grind, Int.add_mul_emod_self_left]
      exact ih hn (by omega)
theorem bitN_bval {f : Nat → Int} {n : Nat} (h : Bits f n) {j : Nat} (hj : j < n) : bitN n (bval f n) j = f j := by
  unfold bitN; rw [if_pos hj, bval_bit h hj]
theorem bval_congr {f g : Nat → Int} : ∀ {n : Nat}, (∀ i, i < n → f i = g i) → bval f n = bval g n
  | 0, _ => rfl
  | n + 1, h => by simp only [bval]; rw [bval_congr fun i hi => h i (by omega), h n (by omega)]
theorem emod_pow_succ (z : Int) (n : Nat) : z % 2 ^ (n + 1) = z % 2 ^ n + z / 2 ^ n % 2 * 2 ^ n := by
  have hp := pow_2_pos n
  rw [Int.pow_succ]
  have h1 := Int.mul_ediv_add_emod z (2 ^ n)
  have h2 := Int.emod_nonneg z (Int.ne_of_gt hp)
  have h3 := Int.emod_lt_of_pos z hp
  have h4 : z = z % 2 ^ n + z / 2 ^ n % 2 * 2 ^ n + 2 ^ n * 2 * (z / 2 ^ n / 2) := by
    have : z / 2 ^ n = 2 * (z / 2 ^ n / 2) + z / 2 ^ n % 2 := by omega
    conv => lhs; rw [← h1]
    generalize z % 2 ^ n = r
    generalize z / 2 ^ n = y at *
    conv => lhs; rw [this]
    grind
  have h5 : 0 ≤ z / 2 ^ n % 2 ∧ z / 2 ^ n % 2 ≤ 1 := by omega
  have h6 : z / 2 ^ n % 2 * 2 ^ n ≤ 2 ^ n := by
    have := Int.mul_le_mul_of_nonneg_right h5.2 (Int.le_of_lt hp); omega
  have h7 := Int.mul_nonneg h5.1 (Int.le_of_lt hp)
  conv => lhs; rw [h4]
  rw [Int.add_mul_emod_self_left, Int.emod_eq_of_lt (by omega) (by omega)]
theorem bval_bits (z : Int) {m : Nat} : ∀ {n : Nat}, n ≤ m → bval (bitN m z) n = z % 2 ^ n
  | 0, _ => by simp [bval, Int.emod_one]
  | n + 1, h => by
    simp only [bval]
    rw [bval_bits z (by omega), emod_pow_succ]
    unfold bitN
    rw [if_pos (by omega)]
theorem bit_mod (z : Int) {j n : Nat} (h : j < n) : z % 2 ^ n / 2 ^ j % 2 = z / 2 ^ j % 2 := by
  have hj := pow_2_pos j
  have e : (2 : Int) ^ n = 2 ^ j * (2 * 2 ^ (n - j - 1)) := by rw [← Int.mul_assoc, ← Int.pow_succ, ← Int.pow_add]; congr 1; omega
  have h1 := Int.mul_ediv_add_emod z (2 ^ n)
  conv => rhs; rw [← h1]
  rw [Int.add_comm, show 2 ^ n * (z / 2 ^ n) = (2 * (2 ^ (n - j - 1) * (z / 2 ^ n))) * 2 ^ j from by rw [e]; grind, Int.add_mul_ediv_right _ _ (Int.ne_of_gt hj), Int.add_mul_emod_self_left]
theorem bitN_mod (n : Nat) (z : Int) : bitN n (z % 2 ^ n) = bitN n z := by
  funext j
  unfold bitN
  split
  · rename_i h; exact bit_mod z h
  · rfl
theorem bitN_same {n : Nat} {y z : Int} (h : y % 2 ^ n = z % 2 ^ n) : bitN n y = bitN n z := by rw [← bitN_mod n y, h, bitN_mod]

/-- sums, bit by bit -/
theorem add_bits {f g : Nat → Int} {n : Nat} (hf : Bits f n) (hg : Bits g n) {i : Nat} (hi : i < n) :
    (f i + g i + (bval f i + bval g i) / 2 ^ i) % 2 = bitN n (bval f n + bval g n) i ∧ (f i + g i + (bval f i + bval g i) / 2 ^ i) / 2 = (bval f (i + 1) + bval g (i + 1)) / 2 ^ (i + 1) := by
  have hp := pow_2_pos i
  have e : (bval f (i + 1) + bval g (i + 1)) / 2 ^ i = f i + g i + (bval f i + bval g i) / 2 ^ i := by
    simp only [bval]
    rw [show bval f i + f i * 2 ^ i + (bval g i + g i * 2 ^ i) = (bval f i + bval g i) + (f i + g i) * 2 ^ i from by grind, Int.add_mul_ediv_right _ _ (Int.ne_of_gt hp)]
    omega
  constructor
  · unfold bitN
    rw [if_pos hi, ← e]
    -- the higher ones change nothing
    have up : ∀ {f : Nat → Int}, Bits f n → bval f n % 2 ^ (i + 1) = bval f (i + 1) := by
      intro f hf
      have h1 := bval_bound (hf.less (show i + 1 ≤ n by omega))
      have h2 : bval f (i + 1) = bval (bitN n (bval f n)) (i + 1) := bval_congr fun j hj => (bitN_bval hf (by omega)).symm
      rw [h2, bval_bits _ (by omega)]
    rw [← up hf, ← up hg, ← bit_mod _ (show i < i + 1 by omega), ← Int.add_emod, bit_mod _ (by omega)]
  · rw [Int.pow_succ, ← Int.ediv_ediv_of_nonneg (Int.le_of_lt hp), e]

end Go.X
end

section
namespace Go.X
open Go.Proofs
attribute [simp] Try.T_102
attribute [local irreducible] Good

/-- a list of bits, as a function lays it -/
abbrev BL (n : Nat) (z : Int) : Blk := ⟨[.arr .i64 n (bitN n z)], 3⟩

end Go.X
end

section
namespace Go.X
open Go.Proofs
attribute [local irreducible] Good

end Go.X
end

section
namespace Go.X
open Go.Proofs
attribute [local irreducible] Good

end Go.X
end

section
namespace Go.X
open Go.Proofs
attribute [local irreducible] Good

end Go.X
end

section
namespace Go.X
open Go.Proofs
attribute [local irreducible] Good

/-- a number's rest by a power of two -/
def modP (z : Int) (n : Nat) : Int := z % 2 ^ n
@[simp] theorem bval_bitN {n : Nat} {z : Int} : bval (bitN n z) n = modP z n := bval_bits z (Nat.le_refl _)
@[simp] theorem bitN_add {n : Nat} {x y : Int} : bitN n (modP x n + modP y n) = bitN n (x + y) := bitN_same (by unfold modP; rw [← Int.add_emod])
theorem neg_mod (x m : Int) : (-(x % m)) % m = (-x) % m := by
  have h := Int.mul_ediv_add_emod x m
  have : -(x % m) = -x + m * (x / m) := by omega
  rw [this, Int.add_mul_emod_self_left]
@[simp] theorem bitN_neg {n : Nat} {x : Int} : bitN n (- modP x n) = bitN n (- x) := bitN_same (by unfold modP; exact neg_mod _ _)
@[simp] theorem BL_add {n : Nat} {x y : Int} : BL n (modP x n + modP y n) = BL n (x + y) := by unfold BL; rw [bitN_add]
@[simp] theorem BL_neg {n : Nat} {x : Int} : BL n (- modP x n) = BL n (- x) := by unfold BL; rw [bitN_neg]
@[simp] theorem Bits_bitN' {n m : Nat} {z : Int} : Bits (bitN n z) m ↔ True := iff_true_intro (Bits_bitN n m z)
attribute [irreducible] modP

end Go.X
end

section
namespace Go.X
open Go.Proofs
attribute [local irreducible] Good

end Go.X
end

section
namespace Go.X
open Go.Proofs
attribute [local irreducible] Good

end Go.X
end

section
namespace Go.X
open Go.Proofs
attribute [local irreducible] Good

end Go.X
end
