/- Package wide: order, sizes in bits, small numbers, sums. -/
import Derived.Test.YticlgpdmelhbhaaZ1
namespace Go.X
open Go.Proofs

def cmpI (a b : Int) : Int := if a < b then -1 else if a = b then 0 else 1

theorem neg_sval {f : Nat → Int} (h : R8 f) : negF f = decide (sval f < 0) := by
  have := (sval_bound h).2
  rw [Bool.eq_iff_iff]; simpa using this
theorem uval_sval {f : Nat → Int} (h : R8 f) : uval f = if sval f < 0 then sval f + 2 * K5 else sval f := by
  have := (sval_bound h).2
  unfold sval at this ⊢
  by_cases hn : negF f = true
  · simp only [hn, if_true, true_iff] at this ⊢
    rw [if_pos this]; omega
  · simp only [hn, if_false, false_iff, Bool.false_eq_true] at this ⊢
    rw [if_neg this]

/-- limbs held against each other -/
noncomputable def aboveS : List AV → PR
  | [.arr .u64 8 f, .arr .u64 8 g] => if R8 f ∧ R8 g then .val (.int .i64 (cmpI (uval f) (uval g))) else .fail
  | _ => .fail
@[simp] theorem aboveS_val {f : Nat → Int} {g : Nat → Int} (h : R8 f ∧ R8 g) : aboveS [.arr .u64 8 f, .arr .u64 8 g] = .val (.int .i64 (cmpI (uval f) (uval g))) := if_pos h
set_option maxHeartbeats 1000000 in
theorem above_ok : SumOk Try.prog 60 (pureS aboveS) := by
  refine sum_fn (L := fun _ => none) (n := 9) (S := stOf []) drawS Try.T_ok (stOf_ok (by simp)) Try.func60 rfl (by kernel_rfl) (by kernel_rfl) ?_
    (by intro args v h; unfold aboveS at h; split at h <;> (try split at h) <;> simp at h)
  intro args v h
  unfold aboveS at h
  split at h
  · rename_i f g
    split at h
    · rename_i hc
      obtain ⟨hf, hg⟩ := hc
      cases h
      refine ⟨by simp, by simp, by simp, ?_⟩
      have f0 := hf 0 (by omega); have f1 := hf 1 (by omega); have f2 := hf 2 (by omega); have f3 := hf 3 (by omega)
      have f4 := hf 4 (by omega); have f5 := hf 5 (by omega); have f6 := hf 6 (by omega); have f7 := hf 7 (by omega)
      have g0 := hg 0 (by omega); have g1 := hg 1 (by omega); have g2 := hg 2 (by omega); have g3 := hg 3 (by omega)
      have g4 := hg 4 (by omega); have g5 := hg 5 (by omega); have g6 := hg 6 (by omega); have g7 := hg 7 (by omega)
      have e : ∀ z, z = cmpI (uval f) (uval g) ↔ (uval f < uval g ∧ z = -1) ∨ (uval f = uval g ∧ z = 0) ∨ (uval g < uval f ∧ z = 1) := by
        intro z
        unfold cmpI
        split
        · omega
        · split <;> omega
      simp [Try.f60, bind_ite, unblock_ite, good_ite, e]
      simp only [uval]
      refine ⟨?_, ?_⟩ <;> intros <;> (try refine ⟨?_, ?_⟩) <;> intros <;> omega
    · simp at h
  · simp at h

end Go.X
