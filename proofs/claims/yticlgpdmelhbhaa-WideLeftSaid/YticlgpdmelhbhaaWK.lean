/- Package wide: products. -/
import Derived.Test.YticlgpdmelhbhaaWJ
namespace Go.X
open Go.Proofs
attribute [simp] Try.T_20
attribute [local irreducible] Good

set_option maxHeartbeats 4000000 in
theorem mul_out {f g X Y : Nat → Int} (hX : R8 X) (hY : R8 Y) {Q : Ex → St → Prop}
    (hQ : ∀ (ts : List AV) (l : Nat → Int), R8 l → uval l = uval X * uval Y → Fits (mulP f g none none none none) ts → Q (.exit 0) ⟨ts, mulM f g X Y l, mulD⟩)
    (hP : 2 * K5 ≤ uval X * uval Y → ∀ (ts : List AV) (l : Nat → Int), Fits (mulP f g none none none none) ts → Q (.pan unfitV) ⟨ts, mulM f g X Y l, mulD⟩)
    {ts : List AV} (hf0 : Fits (mulP f g none none (some (.int .i64 0)) none) ts) :
    Good (loopA (exec Try.T mulSt mulL 9 mulOut) 9 ⟨ts, mulM f g X Y (fun _ => 0), mulD⟩) Q := by
  refine loop_rule (fun n s => ∃ i : Nat, i + n = 8 ∧ ∃ l : Nat → Int, R8 l ∧ uval l = lowU X i * uval Y ∧
      Fits (mulP f g none none (some (.int .i64 i)) none) s.ts ∧ s.m = mulM f g X Y l ∧ s.df = mulD) ?_ 9 8 _ (by omega)
    ⟨0, rfl, fun _ => 0, R8_zero, by simp [lowU, zero_val], hf0, rfl, rfl⟩
  rintro n ⟨ts, mm, df⟩ ⟨i, hin, l, hl, hval, hfit, hm', hd⟩
  simp only at hfit hm' hd
  subst hm' hd
  obtain ⟨t, rfl⟩ := fits_of hfit 0
  by_cases hi : i < 8
  · have hi1 : (i : Int) < 8 := by omega
    have hi2 : (0 : Int) ≤ i := by omega
    have w2 : IntKind.i64.wrap ((i : Int) + 1) = i + 1 := wrap_i64_in (by omega) (by omega)
    have hx := hX i hi
    by_cases hz : X i = 0
    · simp [mulOut, Try.f16, mulP, mulM, hi, hi1, hi2, w2, hz]
      exact ⟨n - 1, by omega, i + 1, by omega, l, hl, by rw [lowU, hz, hval]; simp, by omega, rfl⟩
    · simp [-loopA_succ, mulOut, Try.f16, mulP, mulM, hi, hi1, hi2, hz]
      simp only [good_bind, good_unblock]
      refine mul_in hX hY hi hval (fun ts l c hl hc0 hc1 hv hfit => ?_) (fun hp ts l hfit => ?_) hl rfl ?_
      · obtain ⟨t, rfl⟩ := fits_of hfit 0
        by_cases hc : c = 0
        · subst hc
          simp [mulP, mulM, w2]
          exact ⟨n - 1, by omega, i + 1, by omega, l, hl, by rw [lowU, Int.add_mul]; omega, by omega, rfl⟩
        · have hp := mul_over hX hY hi (Int.le_refl _) (show 8 ≤ i + 8 by omega) hval (uval_bound hl).1 hv (by omega)
          have hP' := hP hp
          simp only [mulM, mulD] at hP'
          simp [mulP, mulM, hc]
          exact hP' _ _ (by simp [mulP])
      · have hP' := hP hp
        simp only [mulM, mulD] at hP'
        simp [mulM]
        exact hP' _ _ hfit
      · simp [mulP]
  · have hi1 : ¬ (i : Int) < 8 := by omega
    have hi8 : i = 8 := by omega
    subst hi8
    have hQ' := hQ
    simp only [mulM, mulD] at hQ'
    simp [mulOut, Try.f16, mulP, mulM]
    refine hQ' _ l hl (by rw [lowU_8] at hval; exact hval) ?_
    simp [mulP]

noncomputable def mulS : List AV → PR
  | [.arr .u64 8 f, .arr .u64 8 g] => if R8 f ∧ R8 g then .val (fitV (sval f * sval g)) else .fail
  | _ => .fail
@[simp] theorem mulS_val {f : Nat → Int} {g : Nat → Int} (h : R8 f ∧ R8 g) : mulS [.arr .u64 8 f, .arr .u64 8 g] = .val (fitV (sval f * sval g)) := if_pos h

set_option maxHeartbeats 4000000 in
theorem mul_ok : SumOk Try.prog 16 (pureS mulS) := by
  refine sum_df (L := mulL) (n := 9) (S := mulSt) drawS Try.T_ok (stOf_ok (by simp [size_ok, mul64_ok, Add64_ok, negative_ok, signed_ok])) Try.func16 rfl (by kernel_rfl) (by kernel_rfl)
    Try.func41 (by kernel_rfl) rfl rfl (by kernel_rfl) ?_
    (by intro args v h; unfold mulS at h; split at h <;> (try split at h) <;> simp at h)
  intro args v h
  unfold mulS at h
  split at h
  · rename_i f g
    split at h
    · rename_i hc
      obtain ⟨hf, hg⟩ := hc
      cases h
      refine ⟨by simp, by simp [fitV], by simp [fitV], ?_⟩
      have sf := R8_size hf; have sg := R8_size hg
      have ef := size_val hf; have eg := size_val hg
      simp [-loopA_succ, Try.f16, hf, hg, mulSt, mulL]
      simp only [good_bind, good_unblock]
      refine mul_out sf sg (fun ts l hl hval hfit => ?_) (fun hp ts l hfit => ?_) ?_
      · obtain ⟨t, rfl⟩ := fits_of hfit 0
        by_cases h1 : sval f < 0 <;> by_cases h2 : sval g < 0
        · have hpr : sval f * sval g = uval (sizeF f) * uval (sizeF g) := by rw [ef, eg]; simp only [h1, h2, if_true, Int.neg_mul, Int.mul_neg, Int.neg_neg]
          by_cases hi : InW (uval (sizeF f) * uval (sizeF g))
          · simp [mulP, mulM, mulL, clo, EndsD, hf, hg, hl, neg_sval hf, neg_sval hg, h1, h2, signedS_eq, hval, hi]
            rw [hpr]
            simp only [fitV, hi, if_true, decide_true]
            exact Eqv.refl _
          · simp [mulP, mulM, mulL, clo, EndsD, hf, hg, hl, neg_sval hf, neg_sval hg, h1, h2, signedS_eq, hval, hi]
            rw [hpr]
            simp only [fitV, hi, if_false, decide_false]
            exact eqv_tup2 eqvW_zero (Eqv.refl _)
        · have hpr : sval f * sval g = -(uval (sizeF f) * uval (sizeF g)) := by rw [ef, eg]; simp only [h1, h2, if_true, if_false, Int.neg_mul, Int.neg_neg]
          by_cases hi : InW (-(uval (sizeF f) * uval (sizeF g)))
          · simp [mulP, mulM, mulL, clo, EndsD, hf, hg, hl, neg_sval hf, neg_sval hg, h1, h2, signedS_eq, hval, hi]
            rw [hpr]
            simp only [fitV, hi, if_true, decide_true]
            exact Eqv.refl _
          · simp [mulP, mulM, mulL, clo, EndsD, hf, hg, hl, neg_sval hf, neg_sval hg, h1, h2, signedS_eq, hval, hi]
            rw [hpr]
            simp only [fitV, hi, if_false, decide_false]
            exact eqv_tup2 eqvW_zero (Eqv.refl _)
        · have hpr : sval f * sval g = -(uval (sizeF f) * uval (sizeF g)) := by rw [ef, eg]; simp only [h1, h2, if_true, if_false, Int.mul_neg, Int.neg_neg]
          by_cases hi : InW (-(uval (sizeF f) * uval (sizeF g)))
          · simp [mulP, mulM, mulL, clo, EndsD, hf, hg, hl, neg_sval hf, neg_sval hg, h1, h2, signedS_eq, hval, hi]
            rw [hpr]
            simp only [fitV, hi, if_true, decide_true]
            exact Eqv.refl _
          · simp [mulP, mulM, mulL, clo, EndsD, hf, hg, hl, neg_sval hf, neg_sval hg, h1, h2, signedS_eq, hval, hi]
            rw [hpr]
            simp only [fitV, hi, if_false, decide_false]
            exact eqv_tup2 eqvW_zero (Eqv.refl _)
        · have hpr : sval f * sval g = uval (sizeF f) * uval (sizeF g) := by rw [ef, eg]; simp only [h1, h2, if_false]
          by_cases hi : InW (uval (sizeF f) * uval (sizeF g))
          · simp [mulP, mulM, mulL, clo, EndsD, hf, hg, hl, neg_sval hf, neg_sval hg, h1, h2, signedS_eq, hval, hi]
            rw [hpr]
            simp only [fitV, hi, if_true, decide_true]
            exact Eqv.refl _
          · simp [mulP, mulM, mulL, clo, EndsD, hf, hg, hl, neg_sval hf, neg_sval hg, h1, h2, signedS_eq, hval, hi]
            rw [hpr]
            simp only [fitV, hi, if_false, decide_false]
            exact eqv_tup2 eqvW_zero (Eqv.refl _)
      · have hn : ¬ InW (sval f * sval g) := by
          have hK := K5_pos
          by_cases h1 : sval f < 0 <;> by_cases h2 : sval g < 0 <;> simp only [h1, h2, if_true, if_false] at ef eg
          · have : sval f * sval g = uval (sizeF f) * uval (sizeF g) := by rw [ef, eg]; simp only [Int.neg_mul, Int.mul_neg, Int.neg_neg]
            unfold InW; omega
          · have : sval f * sval g = -(uval (sizeF f) * uval (sizeF g)) := by rw [ef, eg]; simp only [Int.neg_mul, Int.neg_neg]
            unfold InW; omega
          · have : sval f * sval g = -(uval (sizeF f) * uval (sizeF g)) := by rw [ef, eg]; simp only [Int.mul_neg, Int.neg_neg]
            unfold InW; omega
          · have : sval f * sval g = uval (sizeF f) * uval (sizeF g) := by rw [ef, eg]
            unfold InW; omega
        obtain ⟨t, rfl⟩ := fits_of hfit 0
        simp [mulP, mulM, clo, EndsD]
        simp only [fitV, hn, if_false, decide_false]
        exact eqv_tup2 eqvW_zero (Eqv.refl _)
      · simp [mulP]
    · simp at h
  · simp at h

end Go.X
