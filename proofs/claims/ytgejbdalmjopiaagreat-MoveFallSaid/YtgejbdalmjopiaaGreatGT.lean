/- Matrices. -/
import Derived.Test.YtgejbdalmjopiaaGreatGM

section
namespace Go.X
open Go.Proofs
attribute [local irreducible] Good
attribute [simp] Tryz.T_37
attribute [simp] Tryz.T_39
attribute [simp] Tryz.T_140
attribute [simp] Tryz.T_142
def detI (a1 a2 a3 b1 b2 b3 c1 c2 c3 : Int) : Int := a1 * (b2 * c3 - b3 * c2) + a2 * (b3 * c1 - b1 * c3) + a3 * (b1 * c2 - b2 * c1)
theorem Bd.minor {a b c d : Int} (ha : Bd 63 a) (hb : Bd 63 b) (hc : Bd 63 c) (hd : Bd 63 d) : Bd 127 (a * b - c * d) := (ha.mul hb).sub (hc.mul hd)
theorem Bd.det {a1 a2 a3 b1 b2 b3 c1 c2 c3 : Int} (h1 : Bd 63 a1) (h2 : Bd 63 a2) (h3 : Bd 63 a3) (g1 : Bd 63 b1) (g2 : Bd 63 b2) (g3 : Bd 63 b3) (k1 : Bd 63 c1) (k2 : Bd 63 c2) (k3 : Bd 63 c3) : Bd 192 (detI a1 a2 a3 b1 b2 b3 c1 c2 c3) :=
  ((h1.mul (g2.minor k3 g3 k2)).add (h2.mul (g3.minor k1 g1 k3))).add ((h3.mul (g1.minor k2 g2 k1)).mono (by decide))
end Go.X
end

section
namespace Go.X
open Go.Proofs
attribute [local irreducible] Good
attribute [simp] Tryz.T_4
theorem quoI_in {a b : Int} (h : InW a) (hb : b ≠ 0) (ha : a ≠ -K5) : InW (quoI a b) := by
  have hK := K5_pos
  obtain ⟨h1, h2⟩ := quoI_spec a hb
  have h3 : quoI a b = a ∨ (-(if a < 0 then -a else a) ≤ quoI a b ∧ quoI a b ≤ (if a < 0 then -a else a)) := by
    right
    unfold quoI
    by_cases hp : 0 < b
    · obtain ⟨p1, p2⟩ := ediv_le (a := a) hp
      simp only [hp, if_true]
      split
      · rename_i h; have := p2 h; omega
      · rename_i h; have := p1 (by omega); omega
    · obtain ⟨p1, p2⟩ := ediv_le (a := -a) (show 0 < -b by omega)
      simp only [hp, if_false]
      split
      · rename_i h; have := p1 (by omega); omega
      · rename_i h
        by_cases h0 : a = 0
        · have := p1 (by omega); omega
        · have := p2 (by omega); omega
  unfold InW at *
  rcases h3 with h3 | h3
  · omega
  · split at h3 <;> omega
theorem Bd.ne {k : Nat} {a : Int} (h : Bd k a) (hk : k ≤ 510) : a ≠ -K5 := by
  have h1 : (2 : Int) ^ k * 2 ≤ 2 ^ 511 := by
    rw [← Int.pow_succ]; exact pow_le (by omega)
  rw [pow_2_511] at h1
  have hp := pow_2_pos k
  unfold Bd at h
  generalize (2 : Int) ^ k = p at *
  omega
theorem Bd.quo {k : Nat} {a b : Int} (h : Bd k a) (hk : k ≤ 510) (hb : b ≠ 0) : InW (quoI a b) := quoI_in (h.w hk) hb (h.ne hk)
end Go.X
end

section
namespace Go.X
open Go.Proofs
attribute [local irreducible] Good
end Go.X
end

section
namespace Go.X
open Go.Proofs
attribute [local irreducible] Good
theorem InI_zero : InI 0 := by decide
end Go.X
end

section
namespace Go.X
open Go.Proofs
attribute [local irreducible] Good
@[simp] theorem all_two {P : Nat → Prop} : (∀ i, i < 2 → P i) ↔ P 0 ∧ P 1 := by
  constructor
  · intro h; exact ⟨h 0 (by omega), h 1 (by omega)⟩
  · rintro ⟨h0, h1⟩ i hi
    have : i = 0 ∨ i = 1 := by omega
    rcases this with rfl | rfl <;> assumption
end Go.X
end

section
namespace Go.X
open Go.Proofs
attribute [local irreducible] Good
attribute [simp] Tryz.T_182
attribute [simp] Tryz.T_220
def Inner (a : Int) : Prop := -9223372036854775807 < a ∧ a < 9223372036854775807
instance (a : Int) : Decidable (Inner a) := inferInstanceAs (Decidable (_ ∧ _))
@[simp] theorem quoI_nil {b : Int} : quoI 0 b = 0 := by unfold quoI; split <;> simp
@[simp] theorem clampI_nil : clampI 0 = 0 := by decide
end Go.X
end
