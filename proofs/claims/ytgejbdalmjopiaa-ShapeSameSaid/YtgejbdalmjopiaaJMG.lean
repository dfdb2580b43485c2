/- A diagonal between a matrix and it turned over; sums; signs of the determinant. -/
import Derived.Test.YtgejbdalmjopiaaJMF
namespace Go.X
open Go.Proofs
attribute [local irreducible] Good

@[simp] theorem all_two {P : Nat → Prop} : (∀ i, i < 2 → P i) ↔ P 0 ∧ P 1 := by
  constructor
  · intro h; exact ⟨h 0 (by omega), h 1 (by omega)⟩
  · rintro ⟨h0, h1⟩ i hi
    have : i = 0 ∨ i = 1 := by omega
    rcases this with rfl | rfl <;> assumption
noncomputable def veachAS : List AV → PR
  | [.agg [.int .i64 a, .int .i64 b, .int .i64 c], .agg [.int .i64 d, .int .i64 e, .int .i64 f], .fn 20 []] => open Classical in if InI a ∧ InI b ∧ InI c ∧ InI d ∧ InI e ∧ InI f then .val (.agg [.int .i64 (clampI (a + d)), .int .i64 (clampI (b + e)), .int .i64 (clampI (c + f))]) else .fail
  | _ => .fail
@[simp] theorem veachAS_val {a b c d e f : Int} (h : InI a ∧ InI b ∧ InI c ∧ InI d ∧ InI e ∧ InI f) : veachAS [.agg [.int .i64 a, .int .i64 b, .int .i64 c], .agg [.int .i64 d, .int .i64 e, .int .i64 f], .fn 20 []] = .val (.agg [.int .i64 (clampI (a + d)), .int .i64 (clampI (b + e)), .int .i64 (clampI (c + f))]) := if_pos h
theorem veachA_ok : SumOk Try.prog 52 (pureS veachAS) := by
  refine sum_fn (L := fun i => if i = 1 then some (.quiet 19) else none) (n := 1) (S := stOf [(20, pureS faddS)]) drawS Try.T_ok (stOf_ok (by simp [fadd_ok])) Try.func52 rfl (by kernel_rfl) (by kernel_rfl) ?_
    (by intro args v h; unfold veachAS at h; split at h <;> (try split at h) <;> simp at h)
  intro args v h
  unfold veachAS at h
  split at h
  · rename_i a b c d e f
    split at h
    · rename_i hc
      obtain ⟨ha, hb, hc, hd, he, hf⟩ := hc
      cases h
      refine ⟨by simp, by simp, by simp, ?_⟩
      simp [Try.f52, ha, hb, hc, hd, he, hf]
    · simp at h
  · simp at h

noncomputable def vAddS : List AV → PR
  | [.agg [.int .i64 a, .int .i64 b, .int .i64 c], .agg [.int .i64 d, .int .i64 e, .int .i64 f]] => open Classical in if InI a ∧ InI b ∧ InI c ∧ InI d ∧ InI e ∧ InI f then .val (.agg [.int .i64 (clampI (a + d)), .int .i64 (clampI (b + e)), .int .i64 (clampI (c + f))]) else .fail
  | _ => .fail
@[simp] theorem vAddS_val {a b c d e f : Int} (h : InI a ∧ InI b ∧ InI c ∧ InI d ∧ InI e ∧ InI f) : vAddS [.agg [.int .i64 a, .int .i64 b, .int .i64 c], .agg [.int .i64 d, .int .i64 e, .int .i64 f]] = .val (.agg [.int .i64 (clampI (a + d)), .int .i64 (clampI (b + e)), .int .i64 (clampI (c + f))]) := if_pos h
theorem vAdd_ok : SumOk Try.prog 23 (pureS vAddS) := by
  refine sum_fn (L := fun _ => none) (n := 1) (S := stOf [(20, pureS faddS), (52, pureS veachAS)]) drawS Try.T_ok (stOf_ok (by simp [fadd_ok, veachA_ok])) Try.func23 rfl (by kernel_rfl) (by kernel_rfl) ?_
    (by intro args v h; unfold vAddS at h; split at h <;> (try split at h) <;> simp at h)
  intro args v h
  unfold vAddS at h
  split at h
  · rename_i a b c d e f
    split at h
    · rename_i hc
      obtain ⟨ha, hb, hc, hd, he, hf⟩ := hc
      cases h
      refine ⟨by simp, by simp, by simp, ?_⟩
      simp [Try.f23, ha, hb, hc, hd, he, hf]
    · simp at h
  · simp at h

end Go.X
