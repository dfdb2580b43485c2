/- Package wide: carry, sums, bits turned. -/
import Derived.Test.YticlgpdmelhbhaaW0
namespace Go.X
open Go.Proofs

attribute [simp] Try.T_22 Try.T_3 Try.T_47 Try.T_23 Try.T_25 Try.T_4 Try.T_2

def adderS : Sum := fun args _ nxt => match args with
  | [.int .u64 c] => .val (.fn 68 [.ptr nxt 0]) [] [⟨[.int .u64 c], 22⟩]
  | _ => .fail
theorem adder_ok : SumOk Try.prog 66 adderS := by
  refine sum_mem (L := fun _ => none) (n := 1) (S := stOf []) drawS Try.T_ok (stOf_ok (by simp)) Try.func66 rfl (by kernel_rfl) (by kernel_rfl) ?_
  intro args env nxt h
  unfold adderS at h ⊢
  split at h
  · rename_i c
    refine ⟨[.int .u64 c], [], [], ⟨rfl, rfl, by simp, by simp, by simp, by simp⟩, ?_⟩
    simp [Try.f66]
    exact ⟨[0], none, ⟨by simp [upOf, glB, glob, AV.ren, renL], by simp, by simp, by simp, by simp, by simp, by simp, by simp, by simp⟩⟩
  · simp at h

end Go.X
