/- Quaternions: by the root of the square. -/
import Derived.Test.YtgejbdalmjopiaaJMS
import Derived.Test.YtgejbdalmjopiaaGH
namespace Go.X
open Go.Proofs
attribute [local irreducible] Good

theorem rootI_is {a : Int} (h0 : 0 ≤ a) : 0 ≤ rootI a ∧ rootI a * rootI a ≤ a ∧ a < (rootI a + 1) * (rootI a + 1) := by
  have key : ∃ r : Int, 0 ≤ r ∧ r * r ≤ a ∧ a < (r + 1) * (r + 1) := by
    obtain ⟨n, rfl⟩ := Int.eq_ofNat_of_zero_le h0
    clear h0
    induction n with
    | zero => exact ⟨0, by decide, by decide, by decide⟩
    | succ n ih =>
      obtain ⟨r, h1, h2, h3⟩ := ih
      by_cases hn : (r + 1) * (r + 1) ≤ ((n + 1 : Nat) : Int)
      · refine ⟨r + 1, by omega, hn, ?_⟩
        have : (r + 1 + 1) * (r + 1 + 1) = (r + 1) * (r + 1) + 2 * r + 3 := by grind
        omega
      · exact ⟨r, h1, by omega, by omega⟩
  unfold rootI
  rw [dif_pos key]
  exact Classical.choose_spec key
theorem rootI_le {a : Int} (h0 : 0 ≤ a) : rootI a ≤ a := by
  obtain ⟨r0, r1, -⟩ := rootI_is h0
  by_cases h : rootI a = 0
  · omega
  · have := Int.mul_le_mul_of_nonneg_left (show 1 ≤ rootI a by omega) r0
    omega
theorem Bd.root {k : Nat} {a : Int} (h : Bd k a) (h0 : 0 ≤ a) : Bd k (rootI a) := by
  have h1 := rootI_le h0
  have h2 := (rootI_is h0).1
  unfold Bd at *; omega
theorem Bd.sqroot {k : Nat} {a : Int} (h : Bd k a) (h0 : 0 ≤ a) : Bd k (rootI a * rootI a) := by
  obtain ⟨r0, r1, -⟩ := rootI_is h0
  have := Int.mul_nonneg r0 r0
  unfold Bd at *; omega
theorem Bd.quoI {k : Nat} {a b : Int} (h : Bd k a) (hb : 0 < b) : Bd k (quoI a b) := by
  unfold X.quoI; rw [if_pos hb]; exact h.ediv hb
theorem sq_nonneg (x : Int) : 0 ≤ x * x := by
  rcases Int.le_total 0 x with h | h
  · exact Int.mul_nonneg h h
  · exact Int.mul_nonneg_of_nonpos_of_nonpos h h
end Go.X
