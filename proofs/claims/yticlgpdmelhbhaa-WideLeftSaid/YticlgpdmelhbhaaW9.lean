/- Package wide: sums. -/
import Derived.Test.YticlgpdmelhbhaaW8
namespace Go.X
open Go.Proofs
attribute [local irreducible] Good

/-- a number, if it fits -/
noncomputable def fitV (z : Int) : AV := .tup [W (if InW z then z else 0), .bool (decide (InW z))]
theorem eqvW_of {f : Nat → Int} (h : R8 f) {z : Int} (hz : sval f = z) : Eqv (.arr .u64 8 f) (W z) := by subst hz; exact eqvW_self h
theorem eqvW_zero : Eqv (.arr .u64 8 fun _ => 0) (W 0) := eqvW_of R8_zero sval_zero

noncomputable def addS : List AV → PR
  | [.arr .u64 8 f, .arr .u64 8 g] => if R8 f ∧ R8 g then .val (fitV (sval f + sval g)) else .fail
  | _ => .fail
@[simp] theorem addS_val {f : Nat → Int} {g : Nat → Int} (h : R8 f ∧ R8 g) : addS [.arr .u64 8 f, .arr .u64 8 g] = .val (fitV (sval f + sval g)) := if_pos h
set_option maxHeartbeats 1000000 in
theorem add_ok : SumOk Try.prog 32 (pureS addS) := by
  refine sum_fn (L := fun _ => none) (n := 1) (S := stOf [(46, pureS negS), (54, pureS plusS)]) drawS Try.T_ok (stOf_ok (by simp [negative_ok, plus_ok])) Try.func32 rfl (by kernel_rfl) (by kernel_rfl) ?_
    (by intro args v h; unfold addS at h; split at h <;> (try split at h) <;> simp at h)
  intro args v h
  unfold addS at h
  split at h
  · rename_i f g
    split at h
    · rename_i hc
      obtain ⟨hf, hg⟩ := hc
      cases h
      refine ⟨by simp, by simp [fitV], by simp [fitV], ?_⟩
      have hs := R8_plus f g 0
      have e := plus_sval hf hg (by decide : (0 : Int) ≤ 0) (by decide)
      have rf := sval_range hf; have rg := sval_range hg; have rs := sval_range hs
      have hK := K5_pos
      by_cases h1 : sval f < 0 <;> by_cases h2 : sval g < 0 <;> by_cases h3 : sval (plusF f g 0) < 0 <;>
        simp [Try.f32, hf, hg, hs, neg_sval hf, neg_sval hg, neg_sval hs, h1, h2, h3, fitV] <;>
        first
          | (have hi : InW (sval f + sval g) := by unfold InW; omega
             simp only [hi, if_true, decide_true]
             exact eqv_tup2 (eqvW_of hs (by omega)) (Eqv.refl _))
          | (have hi : ¬ InW (sval f + sval g) := by unfold InW; omega
             simp only [hi, if_false, decide_false]
             exact eqv_tup2 eqvW_zero (Eqv.refl _))
    · simp at h
  · simp at h

end Go.X
