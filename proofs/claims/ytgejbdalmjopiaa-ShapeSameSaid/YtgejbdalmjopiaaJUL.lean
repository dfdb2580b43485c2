/- Laws of shapes: halves and the reach are the document's. -/
import Derived.Test.YtgejbdalmjopiaaGL
namespace Go.X
open Go.Proofs
attribute [local irreducible] Good

/-- a shape that a law is handed -/
def LwP (kd r x y z : Int) (n : Nat) (f : Nat → Int) : Prop := InI kd ∧ InI r ∧ InI x ∧ InI y ∧ InI z ∧ ∀ j, j < n * 3 → InI (f j)
theorem LwP.sh {kd r x y z : Int} {n : Nat} {f : Nat → Int} (h : LwP kd r x y z n f) (hn : ¬ (100 : Int) < n) : ShP kd r x y z n f := ⟨h.1, h.2.1, h.2.2.1, h.2.2.2.1, h.2.2.2.2.1, by omega, h.2.2.2.2.2⟩
end Go.X
