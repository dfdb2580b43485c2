/- Rounding up; quotients of the reference; clamps; a vector that moves. -/
import Derived.Test.YtgejbdalmjopiaaJMX
namespace Go.X
open Go.Proofs
attribute [local irreducible] Good

noncomputable def vsum2S : Sum := fun args env _ => match args with
  | [.slice b 0 2 _] => match env b with
    | some ⟨[.arr .u64 8 f, .arr .u64 8 g], _⟩ => open Classical in if R8 f ∧ R8 g ∧ InW (sval f + sval g) then .val (W (sval f + sval g)) [] [] else .fail
    | _ => .fail
  | _ => .fail
theorem vsum2_ok : SumOk Try.prog 55 vsum2S := by
  refine sum_read (L := fun _ => none) (n := 4) (S := stOf [(67, pureS addS)]) drawS Try.T_ok (stOf_ok (by simp [add_ok])) Try.func55 rfl (by kernel_rfl) (by kernel_rfl) ?_
  intro args env nxt h
  unfold vsum2S at h ⊢
  split at h
  · rename_i b c
    split at h
    · rename_i f g ty0 m0
      split at h
      · rename_i hc
        obtain ⟨hf, hg, e0⟩ := id hc
        refine ⟨_, _, _, W (sval f + sval g), laid1 [.slice 0 0 2 c] rfl (by simp) m0 rfl, by first | exact if_pos hc | (simp only [m0]; exact if_pos hc) | (simp [m0]; exact hc), by simp, by simp, ?_⟩
        have w1 : InW (sval f) := sval_range hf
        have w2 := sval_limb w1
        have w3 := sval_limb e0
        simp [Try.f55, hf, hg, e0, R8_limb, fitV, R8_zero, sval_zero, w1, w2]
      · simp at h
    · simp at h
  · simp at h

end Go.X
