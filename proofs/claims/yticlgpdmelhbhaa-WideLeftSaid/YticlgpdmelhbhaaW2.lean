/- Package wide: sums. -/
import Derived.Test.YticlgpdmelhbhaaW1
namespace Go.X
open Go.Proofs

def adder1S : Sum := fun args env _ => match args with
  | [.int .u64 a, .int .u64 b, .ptr p 0] => match env p with
    | some ⟨[.int .u64 c], _⟩ => if 0 ≤ a ∧ 0 ≤ b ∧ 0 ≤ c ∧ c ≤ 1 then .val (.int .u64 ((a + b + c) % 18446744073709551616)) [(p, [.int .u64 ((a + b + c) / 18446744073709551616)])] [] else .fail
    | _ => .fail
  | _ => .fail
theorem adder1_ok : SumOk Try.prog 68 adder1S := by
  refine sum_mem (L := fun _ => none) (n := 1) (S := stOf [(44, pureS add64S)]) drawS Try.T_ok (stOf_ok (by simp [Add64_ok])) Try.func68 rfl (by kernel_rfl) (by kernel_rfl) ?_
  intro args env nxt h
  unfold adder1S at h ⊢
  split at h
  · rename_i a b p
    split at h
    · rename_i c t henv
      split at h
      · rename_i hc
        refine ⟨[.int .u64 a, .int .u64 b, .ptr 0 0], [p], [⟨[.int .u64 c], t⟩], ⟨by simp [renL, AV.ren], rfl, by simp, by simp, by simp [henv, renL, AV.ren], by simp⟩, ?_⟩
        simp [Try.f68, add64S, hc]
        exact ⟨[], some 0, ⟨by simp [upOf, AV.ren, renL], by simp, by simp, by simp, by simp, by simp, by simp, by simp, by simp⟩⟩
      · simp at h
    · simp at h
  · simp at h

end Go.X
