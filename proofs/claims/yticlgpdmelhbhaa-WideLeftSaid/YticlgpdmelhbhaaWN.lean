/- What the statements ask beside: some answers that are fixed. -/
import Derived.Test.YticlgpdmelhbhaaWM
namespace Go.X
open Go.Proofs
attribute [local irreducible] Good

theorem small_ok : SumOk Try.prog 24 (pureS ofS) := by
  refine sum_fn (L := fun _ => none) (n := 9) (S := stOf []) drawS Try.T_ok (stOf_ok (by simp)) Try.func24 rfl (by kernel_rfl) (by kernel_rfl) ?_
    (by intro args v h; unfold ofS at h; split at h <;> (try split at h) <;> simp at h)
  intro args v h
  unfold ofS at h
  split at h
  · rename_i n
    split at h
    · rename_i hn
      cases h
      refine ⟨by simp, by simp, by simp, ?_⟩
      have s := limb_small hn.1 hn.2
      by_cases hneg : n < 0
      · simp only [hneg, if_true] at s
        simp [Try.f24, hneg, wrap_u64_mod]
        refine eqv_arr fun i hi => ?_
        rcases eight hi with rfl | rfl | rfl | rfl | rfl | rfl | rfl | rfl
        · simp [upd, limb]
        all_goals simp [upd, s]
      · simp only [hneg, if_false] at s
        simp [Try.f24, hneg, wrap_u64_mod]
        refine eqv_arr fun i hi => ?_
        rcases eight hi with rfl | rfl | rfl | rfl | rfl | rfl | rfl | rfl
        · simp [upd, limb]
        all_goals simp [upd, s]
    · simp at h
  · simp at h

def awakeS : List AV → PR
  | [] => .val (.bool true)
  | _ => .fail
@[simp] theorem awakeS_val : awakeS [] = .val (.bool true) := rfl

theorem InW_small {z : Int} (h : -9223372036854775808 ≤ z ∧ z < 9223372036854775808) : InW z := InI.w h
theorem sval_small {z : Int} (h : -9223372036854775808 ≤ z ∧ z < 9223372036854775808) : sval (limb z) = z := sval_limb (InW_small h)

theorem awake_ok : SumOk Try.prog 18 (pureS awakeS) := by
  refine sum_fn (L := fun _ => none) (n := 1) (S := stOf [(25, pureS ofS), (19, pureS divS), (21, pureS sqrtS), (24, pureS ofS), (39, pureS shrS), (30, pureS bitsS)]) drawS Try.T_ok (stOf_ok (by simp [of_ok, div_ok, sqrt_ok, small_ok, shr_ok, bits_ok])) Try.func18 rfl (by kernel_rfl) (by kernel_rfl) ?_
    (by intro args v h; unfold awakeS at h; split at h <;> simp at h)
  intro args v h
  unfold awakeS at h
  split at h
  · cases h
    refine ⟨by simp, by simp, by simp, ?_⟩
    have q1 : quoV 7 (-2) = .tup [W (-4), W (-1), .bool true] := quoV_fit (by decide) (by decide) (by decide) (InW_small (by omega))
    have q2 : quoV 7 0 = .tup [W 0, W 0, .bool false] := if_neg (by simp)
    have q3 : rootV 8 = .tup [W 2, .bool true] := by unfold rootV; rw [if_neg (by decide), rootI_of (r := 2) (by decide) (by decide) (by decide)]
    have s1 : sval (limb 7) = 7 := sval_small (by omega)
    have s2 : sval (limb (-2)) = -2 := sval_small (by omega)
    have s3 : sval (limb 0) = 0 := sval_small (by omega)
    have s4 : sval (limb 8) = 8 := sval_small (by omega)
    have s5 : sval (limb (-5)) = -5 := sval_small (by omega)
    have s6 : sval (limb (-4)) = -4 := sval_small (by omega)
    have b : blen 4 = 3 := by decide
    have s7 : (-5 : Int) / 2 ^ (min 1 511 : Int).toNat = -3 := by decide
    simp [Try.f18, R8_limb, q1, q2, q3, s1, s2, s3, s4, s5, s6, s7, b, eqArr_iff (R8_limb _) (R8_limb _)]
  · simp at h

end Go.X
