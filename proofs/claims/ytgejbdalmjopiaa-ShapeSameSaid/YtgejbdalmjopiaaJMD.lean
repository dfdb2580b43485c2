/- The reference 04: matrices, by definition; the inverse in package mat. -/
import Derived.Test.YtgejbdalmjopiaaJMC
namespace Go.X
open Go.Proofs
attribute [local irreducible] Good
attribute [simp] Try.T_4

theorem quoI_in {a b : Int} (h : InW a) (hb : b ≠ 0) (ha : a ≠ -K5) : InW (quoI a b) := by
  have hK := K5_pos
  obtain ⟨h1, h2⟩ := quoI_spec a hb
  have h3 : quoI a b = a ∨ (-(if a < 0 then -a else a) ≤ quoI a b ∧ quoI a b ≤ (if a < 0 then -a else a)) := by
    right
    unfold quoI
    by_cases hp : 0 < b
    · obtain ⟨p1, p2⟩ := ediv_le (a := a) hp
      simp only [hp, if_true]
      split
      · rename_i h; have := p2 h; omega
      · rename_i h; have := p1 (by omega); omega
    · obtain ⟨p1, p2⟩ := ediv_le (a := -a) (show 0 < -b by omega)
      simp only [hp, if_false]
      split
      · rename_i h; have := p1 (by omega); omega
      · rename_i h
        by_cases h0 : a = 0
        · have := p1 (by omega); omega
        · have := p2 (by omega); omega
  unfold InW at *
  rcases h3 with h3 | h3
  · omega
  · split at h3 <;> omega
theorem Bd.ne {k : Nat} {a : Int} (h : Bd k a) (hk : k ≤ 510) : a ≠ -K5 := by
  have h1 : (2 : Int) ^ k * 2 ≤ 2 ^ 511 := by
    rw [← Int.pow_succ]; exact pow_le (by omega)
  rw [pow_2_511] at h1
  have hp := pow_2_pos k
  unfold Bd at h
  generalize (2 : Int) ^ k = p at *
  omega
theorem Bd.quo {k : Nat} {a b : Int} (h : Bd k a) (hk : k ≤ 510) (hb : b ≠ 0) : InW (quoI a b) := quoI_in (h.w hk) hb (h.ne hk)

end Go.X
