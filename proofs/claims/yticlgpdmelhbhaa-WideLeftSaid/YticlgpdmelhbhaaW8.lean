/- Package wide: order. -/
import Derived.Test.YticlgpdmelhbhaaW7
namespace Go.X
open Go.Proofs
attribute [local irreducible] Good

noncomputable def cmpS : List AV → PR
  | [.arr .u64 8 f, .arr .u64 8 g] => if R8 f ∧ R8 g then .val (.int .i64 (cmpI (sval f) (sval g))) else .fail
  | _ => .fail
@[simp] theorem cmpS_val {f : Nat → Int} {g : Nat → Int} (h : R8 f ∧ R8 g) : cmpS [.arr .u64 8 f, .arr .u64 8 g] = .val (.int .i64 (cmpI (sval f) (sval g))) := if_pos h
theorem cmp_ok : SumOk Try.prog 28 (pureS cmpS) := by
  refine sum_fn (L := fun _ => none) (n := 1) (S := stOf [(46, pureS negS), (60, pureS aboveS)]) drawS Try.T_ok (stOf_ok (by simp [negative_ok, above_ok])) Try.func28 rfl (by kernel_rfl) (by kernel_rfl) ?_
    (by intro args v h; unfold cmpS at h; split at h <;> (try split at h) <;> simp at h)
  intro args v h
  unfold cmpS at h
  split at h
  · rename_i f g
    split at h
    · rename_i hc
      obtain ⟨hf, hg⟩ := hc
      cases h
      refine ⟨by simp, by simp, by simp, ?_⟩
      have uf := uval_sval hf; have ug := uval_sval hg
      have rf := sval_range hf; have rg := sval_range hg
      have hK := K5_pos
      by_cases h1 : sval f < 0
      · by_cases h2 : sval g < 0
        · simp [Try.f28, hf, hg, neg_sval hf, neg_sval hg, h1, h2]
          rw [if_pos h1] at uf; rw [if_pos h2] at ug
          unfold cmpI; rw [uf, ug]; (repeat' split) <;> omega
        · simp [Try.f28, hf, hg, neg_sval hf, neg_sval hg, h1, h2]
          unfold cmpI; (repeat' split) <;> omega
      · by_cases h2 : sval g < 0
        · simp [Try.f28, hf, hg, neg_sval hf, neg_sval hg, h1, h2]
          unfold cmpI; (repeat' split) <;> omega
        · simp [Try.f28, hf, hg, neg_sval hf, neg_sval hg, h1, h2]
          rw [if_neg h1] at uf; rw [if_neg h2] at ug
          rw [uf, ug]
    · simp at h
  · simp at h

end Go.X
