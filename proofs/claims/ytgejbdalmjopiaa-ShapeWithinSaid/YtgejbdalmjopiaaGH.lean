/- The reference for numbers as bits: quotients, shifts, roots. -/
import Derived.Test.YtgejbdalmjopiaaGF
import Derived.Test.YtgejbdalmjopiaaGE

section
namespace Go.X
open Go.Proofs
attribute [local irreducible] Good

end Go.X
end

section
namespace Go.X
open Go.Proofs
attribute [local irreducible] Good

/-- what lies in memory -/
structure DMem (m : List Blk) (f g : Nat → Int) (Y r : Int) (qf : Nat → Int) (ri : Nat) : Prop where
  a0 : m[0]? = some ⟨[.arr .u64 8 f], 61⟩
  a1 : m[1]? = some ⟨[.arr .u64 8 g], 61⟩
  a2 : m[2]? = some ⟨[.arr .u64 8 fun _ => 0], 61⟩
  a3 : m[3]? = some ⟨[.arr .u64 8 fun _ => 0], 61⟩
  a5 : m[5]? = some (BL 520 Y)
  a6 : m[6]? = some ⟨[.arr .i64 520 qf], 3⟩
  ar : m[ri]? = some (BL 520 r)
  r6 : ri ≠ 6
  r5 : ri ≠ 5
end Go.X
end

section
namespace Go.X
open Go.Proofs
attribute [local irreducible] Good
set_option maxRecDepth 100000

end Go.X
end

section
namespace Go.X
open Go.Proofs
attribute [local irreducible] Good

end Go.X
end

section
namespace Go.X
open Go.Proofs
attribute [local irreducible] Good

end Go.X
end

section
namespace Go.X
open Go.Proofs
attribute [local irreducible] Good
set_option maxRecDepth 100000

/-- what lies in memory -/
structure QMem (m : List Blk) (V : Int) (ri kr : Nat) (gr : Nat → Int) (tr : TypeId) (li kl : Nat) (gl : Nat → Int) (tl : TypeId) : Prop where
  a1 : m[1]? = some ⟨[.arr .u64 8 fun _ => 0], 61⟩
  a2 : m[2]? = some (BL 512 V)
  ar : m[ri]? = some ⟨[.arr .i64 kr gr], tr⟩
  al : m[li]? = some ⟨[.arr .i64 kl gl], tl⟩
  kr520 : 520 ≤ kr
  kl520 : 520 ≤ kl
/-- what a round of the root keeps: two bits at a time -/
structure QI (V : Int) (d : Nat) (gr gl : Nat → Int) : Prop where
  br : Bits gr 520
  bl : Bits gl 520
  sum : bval gr 520 * bval gr 520 + bval gl 520 = V / 2 ^ (2 * d)
  le : bval gl 520 ≤ 2 * bval gr 520

theorem QI.small {V : Int} {d : Nat} {gr gl : Nat → Int} (h : QI V d gr gl) (h0 : 0 ≤ V) (hV : V < K5) : bval gr 520 < 2 ^ 256 ∧ bval gl 520 < 2 ^ 257 ∧ 0 ≤ bval gr 520 ∧ 0 ≤ bval gl 520 := by
  have b1 := (bval_bound h.br).1
  have b2 := (bval_bound h.bl).1
  have hs := h.sum
  have hd : V / 2 ^ (2 * d) ≤ V := Int.ediv_le_self _ h0
  have hl := h.le
  have h3 := pow_2_256
  have h4 := pow_2_pos 256
  have h5 : (2 : Int) ^ 257 = 2 ^ 256 * 2 := Int.pow_succ 2 256
  have hr : bval gr 520 < 2 ^ 256 := by
    rcases Int.lt_or_le (bval gr 520) (2 ^ 256) with h' | h'
    · exact h'
    · have := Int.mul_le_mul h' h' (by omega) b1
      omega
  refine ⟨hr, ?_, b1, b2⟩
  rw [h5]
  omega

end Go.X
end

section
namespace Go.X
open Go.Proofs
attribute [local irreducible] Good
set_option maxRecDepth 100000

end Go.X
end
