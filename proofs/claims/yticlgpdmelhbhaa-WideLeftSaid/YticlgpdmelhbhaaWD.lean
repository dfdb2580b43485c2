/- Package wide: shifts to the left, of sizes; products of limbs by the library's contract. -/
import Derived.Test.YticlgpdmelhbhaaWC
namespace Go.X
open Go.Proofs
attribute [local irreducible] Good

def rMul : Shelf.Ren := ⟨fun _ => 43, fun t => if t = 46 then 68 else 22, fun x => x⟩
theorem laysMul : Lays.n264 Try.prog rMul where
  mixed := mixed
  f264 := by kernel_rfl
  t46 := by kernel_rfl
  a46 := fun _ => by kernel_rfl
  z46 := fun _ => by kernel_rfl
  v46 := fun _ => by kernel_rfl
  t53 := by kernel_rfl
  a53 := fun _ => by kernel_rfl
  z53 := fun _ => by kernel_rfl
  v53 := fun _ => by kernel_rfl
def mul64S : List AV → PR
  | [.int .u64 x, .int .u64 y] => if 0 ≤ x ∧ x < 18446744073709551616 ∧ 0 ≤ y ∧ y < 18446744073709551616 then .val (.tup [.int .u64 (x * y / 18446744073709551616), .int .u64 (x * y % 18446744073709551616)]) else .fail
  | _ => .fail
@[simp] theorem mul64S_val {x y : Int} (h : 0 ≤ x ∧ x < 18446744073709551616 ∧ 0 ≤ y ∧ y < 18446744073709551616) : mul64S [.int .u64 x, .int .u64 y] = .val (.tup [.int .u64 (x * y / 18446744073709551616), .int .u64 (x * y % 18446744073709551616)]) := if_pos h
theorem mul64_ok : SumOk Try.prog 43 (pureS mul64S) := by
  refine sum_calls Try.func43 (by kernel_rfl) (by kernel_rfl) ?_ (by intro args v h; unfold mul64S at h; split at h <;> (try split at h) <;> simp at h)
  intro args v h
  unfold mul64S at h
  split at h
  · split at h
    · cases h
      rename_i x y hx
      obtain ⟨a, rfl⟩ := Int.eq_ofNat_of_zero_le hx.1
      obtain ⟨b, rfl⟩ := Int.eq_ofNat_of_zero_le hx.2.2.1
      refine ⟨by simp [okv, solid, solidL], by simp, fun ρ w => ?_⟩
      have := Any.bits_Mul64 laysMul a b (by omega) (by omega) w
      simp only [Int.natCast_ediv, Int.natCast_emod, Int.natCast_mul] at this
      exact this
    · simp at h
  · simp at h

/-- a limb of what is shifted to the left -/
def leftF (f : Nat → Int) (q r : Nat) (i : Nat) : Int := if i < q then 0 else if 0 < r ∧ q < i then f (i - q) * 2 ^ r % 18446744073709551616 + f (i - q - 1) / 2 ^ (64 - r) else f (i - q) * 2 ^ r % 18446744073709551616

theorem or_left {x y : Int} (hx : 0 ≤ x) (hx1 : x < 18446744073709551616) {r : Nat} (h0 : 0 < r) (h1 : r < 64) : bitsA .or .u64 (shlA .u64 y r) (shrA .u64 x (64 - r)) = y * 2 ^ r % 18446744073709551616 + x / 2 ^ (64 - r) := by
  have hp : (0 : Int) < 2 ^ r := Int.pow_pos (by decide)
  have hq : (0 : Int) < 2 ^ (64 - r) := Int.pow_pos (by decide)
  have e64 : (18446744073709551616 : Int) = 2 ^ r * 2 ^ (64 - r) := by
    rw [← Int.pow_add, show r + (64 - r) = 64 from by omega]; rfl
  have e1 : shrA .u64 x (64 - r) = x / 2 ^ (64 - r) := by
    simp only [shrA, IntKind.bits]
    rw [show min (64 - r) 64 = 64 - r from by omega, Int.fdiv_eq_ediv_of_nonneg _ (Int.le_of_lt hq)]
  have e2 : shlA .u64 y r = y * 2 ^ r % 18446744073709551616 := by
    simp only [shlA, IntKind.bits, wrap_u64_mod]
    rw [show min r 64 = r from by omega]
  have e3 : y * 2 ^ r % 18446744073709551616 = 2 ^ r * (y % 2 ^ (64 - r)) := by
    rw [e64, Int.mul_comm y, Int.mul_emod_mul_of_pos _ _ hp]
  have b1 : x / 2 ^ (64 - r) < 2 ^ r := by
    apply Int.ediv_lt_of_lt_mul hq
    rw [← e64]; exact hx1
  have b2 : y % 2 ^ (64 - r) < 2 ^ (64 - r) := Int.emod_lt_of_pos _ hq
  have b3 : 0 ≤ y % 2 ^ (64 - r) := Int.emod_nonneg _ (by omega)
  have b4 : 0 ≤ x / 2 ^ (64 - r) := Int.ediv_nonneg hx (by omega)
  have hc : ∀ a b : Int, bitsA .or .u64 a b = bitsA .or .u64 b a := fun a b => by
    show IntKind.u64.wrap _ = IntKind.u64.wrap _
    rw [BitVec.or_comm]
  rw [e1, e2, e3, hc, or_add r (y % 2 ^ (64 - r)) b4 b1 b3 rfl, Int.add_comm]
  have : 2 ^ r * (y % 2 ^ (64 - r)) ≤ 2 ^ r * (2 ^ (64 - r) - 1) := Int.mul_le_mul_of_nonneg_left (by omega) (Int.le_of_lt hp)
  have e5 : (2 : Int) ^ r * (2 ^ (64 - r) - 1) = 18446744073709551616 - 2 ^ r := by rw [e64]; grind
  omega

end Go.X
