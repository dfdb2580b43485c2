/- Quaternions: the matrix of a rotation; turned by a speed. -/
import Derived.Test.YtgejbdalmjopiaaJMT
namespace Go.X
open Go.Proofs
attribute [local irreducible] Good
@[simp] theorem all_three {P : Nat → Prop} : (∀ i, i < 3 → P i) ↔ P 0 ∧ P 1 ∧ P 2 := by
  constructor
  · intro h; exact ⟨h 0 (by omega), h 1 (by omega), h 2 (by omega)⟩
  · rintro ⟨h0, h1, h2⟩ i hi
    have : i = 0 ∨ i = 1 ∨ i = 2 := by omega
    rcases this with rfl | rfl | rfl <;> assumption
end Go.X
